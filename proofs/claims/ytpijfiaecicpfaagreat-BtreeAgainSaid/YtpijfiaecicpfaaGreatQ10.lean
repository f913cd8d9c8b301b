/-
  Places of keys; At, Seek, Prev, Next, between and Count of an index; Taking an entry out, plainly: the last entry, and the one that is asked for. No program in sight; The reference's tree: what it tells.
-/
import Derived.Test.YtpijfiaecicpfaaGreatQ9
import Derived.Test.YtpijfiaecicpfaaGreatQ5
set_option maxRecDepth 100000
set_option maxHeartbeats 40000000
set_option linter.unusedVariables false
set_option linter.unusedSimpArgs false
namespace Go.Proofs.YtpijfiaecicpfaaGreat
def lastT : Nat → BT → BT × Te
  | 0, .nd l ks => (.nd (l.take (l.length - 1)) ks, tth l (l.length - 1))
  | h + 1, .nd l ks => (fillT l (ks.set l.length (lastT h (kth ks l.length)).1) l.length, (lastT h (kth ks l.length)).2)
def takeT : Nat → BT → Te → BT
  | 0, .nd l ks, e => .nd (l.take (rankT l e) ++ l.drop (rankT l e + 1)) ks
  | h + 1, .nd l ks, e => if memT l e = true then fillT (l.set (rankT l e) (lastT h (kth ks (rankT l e))).2) (ks.set (rankT l e) (lastT h (kth ks (rankT l e))).1) (rankT l e)
    else fillT l (ks.set (rankT l e) (takeT h (kth ks (rankT l e)) e)) (rankT l e)
theorem setC_cut {α : Type} {l : List α} {i : Nat} {x : α} (h : i < l.length) : l.set i x = l.take i ++ x :: l.drop (i + 1) := by
  rw [List.set_eq_take_append_cons_drop, if_pos h]
theorem flat_set {h : Nat} {l : List Te} {ks : List BT} {i : Nat} {J : BT} (hlen : ks.length = l.length + 1) (hi : i ≤ l.length) :
    flat (h + 1) (.nd l (ks.set i J)) = wvp (l.take i) ((ks.take i).map (flat h)) ++ (flat h J ++ tlW (l.drop i) ((ks.drop (i + 1)).map (flat h))) := by
  rw [setC_cut (by omega)]
  have := one_flat (h := h) (a := l.take i) (b := l.drop i) (p := ks.take i) (q := ks.drop (i + 1)) (J := J) (by rw [List.length_take, List.length_take]; omega)
  rwa [List.take_append_drop] at this
theorem flat_at {h : Nat} {l : List Te} {ks : List BT} {i : Nat} (hlen : ks.length = l.length + 1) (hi : i ≤ l.length) :
    flat (h + 1) (.nd l ks) = wvp (l.take i) ((ks.take i).map (flat h)) ++ (flat h (kth ks i) ++ tlW (l.drop i) ((ks.drop (i + 1)).map (flat h))) := by
  have h1 := flat_set (h := h) (J := kth ks i) hlen hi
  rw [kth_get (by omega), List.set_getElem_self] at h1
  rw [kth_get (by omega)]
  exact h1
theorem kth_set {ks : List BT} {i : Nat} {J : BT} (hi : i < ks.length) : kth (ks.set i J) i = J := by
  rw [kth_get (by rw [List.length_set]; exact hi), List.getElem_set_self]
theorem kth_set_ne {ks : List BT} {i j : Nat} {J : BT} (hj : j < ks.length) (hne : j ≠ i) : kth (ks.set i J) j = kth ks j := by
  rw [kth_get (by rw [List.length_set]; exact hj), kth_get hj, List.getElem_set_ne (fun e => hne e.symm)]
theorem kid_ok {h : Nat} {l : List Te} {ks : List BT} (hs : Shp (h + 1) (.nd l ks)) {i : Nat} (hi : i ≤ l.length) : 2 ≤ (kth ks i).l.length ∧ (kth ks i).l.length ≤ 4 ∧ Shp h (kth ks i) := by
  have hl : ks.length = l.length + 1 := hs.1
  rw [kth_get (by omega)]
  exact hs.2 _ (List.getElem_mem _)
theorem near_set {h : Nat} {l l' : List Te} {ks : List BT} (hs : Shp (h + 1) (.nd l ks)) (hl : l'.length = l.length) (hn : 1 ≤ l.length) {i : Nat} (hi : i ≤ l.length) {J : BT} (hJ : 1 ≤ J.l.length ∧ J.l.length ≤ 4 ∧ Shp h J) : Near h l' (ks.set i J) i := by
  have hk : ks.length = l.length + 1 := hs.1
  refine ⟨by rw [List.length_set, hl]; exact hk, by omega, by omega, fun j hj hne => ?_, ?_⟩
  · rw [List.length_set] at hj
    rw [kth_set_ne hj hne]
    exact kid_ok hs (by omega)
  · rw [kth_set (by omega)]
    exact hJ
theorem last_ok : ∀ (h : Nat) (T : BT), Shp h T → 1 ≤ T.l.length → Shp h (lastT h T).1 ∧ flat h T = flat h (lastT h T).1 ++ [(lastT h T).2] ∧ T.l.length ≤ (lastT h T).1.l.length + 1 ∧ (lastT h T).1.l.length ≤ T.l.length
  | 0, .nd l ks, hs, h1 => by
    have h1' : 1 ≤ l.length := h1
    obtain ⟨-, -, e1, -⟩ := cutLast hs h1'
    refine ⟨hs, e1, ?_, ?_⟩
    · show l.length ≤ (l.take (l.length - 1)).length + 1
      rw [List.length_take]; omega
    · show (l.take (l.length - 1)).length ≤ l.length
      rw [List.length_take]; omega
  | h + 1, .nd l ks, hs, h1 => by
    have h1' : 1 ≤ l.length := h1
    have hk := kid_ok hs (Nat.le_refl l.length)
    obtain ⟨a, b, c, d⟩ := last_ok h (kth ks l.length) hk.2.2 (by omega)
    have hN := near_set (l' := l) (J := (lastT h (kth ks l.length)).1) hs rfl h1' (Nat.le_refl _) ⟨by omega, by omega, a⟩
    obtain ⟨f1, f2, f3, f4⟩ := fill_ok hN
    refine ⟨f1, ?_, f3, f4⟩
    show flat (h + 1) (.nd l ks) = flat (h + 1) (fillT l (ks.set l.length (lastT h (kth ks l.length)).1) l.length) ++ [(lastT h (kth ks l.length)).2]
    rw [f2, flat_at hs.1 (Nat.le_refl _), flat_set hs.1 (Nat.le_refl _), b, List.drop_length]
    simp [tlW]
theorem at_rank {l : List Te} (hS : Srt l) {e : Te} (he : e ∈ l) : rankT l e < l.length ∧ l.drop (rankT l e) = e :: l.drop (rankT l e + 1) := by
  obtain ⟨h1, h2, h3⟩ := rank_cut hS e
  have hd : e ∈ l.drop (rankT l e) := by
    rw [← List.take_append_drop (rankT l e) l] at he
    rcases List.mem_append.1 he with h | h
    · have := h2 e h
      rw [cmpT_refl] at this
      exact absurd this (by decide)
    · exact h
  have hlt : rankT l e < l.length := by
    rcases Nat.lt_or_ge (rankT l e) l.length with h | h
    · exact h
    · rw [List.drop_of_length_le h] at hd; cases hd
  refine ⟨hlt, ?_⟩
  have hc : l.drop (rankT l e) = l[rankT l e] :: l.drop (rankT l e + 1) := List.drop_eq_getElem_cons hlt
  have hSd : Srt (l.drop (rankT l e)) := hS.sublist (List.drop_sublist _ _)
  rw [hc] at hd hSd h3 ⊢
  rcases List.mem_cons.1 hd with h | h
  · rw [← h]
  · exact absurd ((srt_cons.1 hSd).1 e h) (h3 _ List.mem_cons_self)
theorem del_head (e : Te) (R : List Te) : delT (e :: R) e = R := by
  unfold delT
  rw [cmpT_refl]
  simp
theorem del_cut {l : List Te} (hS : Srt l) {e : Te} (he : e ∈ l) : delT l e = l.take (rankT l e) ++ l.drop (rankT l e + 1) := by
  obtain ⟨h1, h2, h3⟩ := rank_cut hS e
  obtain ⟨g1, g2⟩ := at_rank hS he
  have e1 : l = l.take (rankT l e) ++ e :: l.drop (rankT l e + 1) := by
    conv => lhs; rw [← List.take_append_drop (rankT l e) l, g2]
  conv => lhs; rw [e1]
  rw [delT_app (fun x hx => by have := h2 x hx; omega), del_head]
theorem tlW_head (l2 : List Te) (ms : List (List Te)) : ∃ R, ∀ x, tlW (x :: l2) ms = x :: R := by
  cases ms with
  | nil => exact ⟨l2, fun _ => rfl⟩
  | cons m ms => exact ⟨m ++ tlW l2 ms, fun _ => rfl⟩
theorem take_ok : ∀ (h : Nat) (T : BT) (e : Te), Shp h T → (h ≠ 0 → 1 ≤ T.l.length) → Srt (flat h T) → e ∈ flat h T →
    Shp h (takeT h T e) ∧ flat h (takeT h T e) = delT (flat h T) e ∧ T.l.length ≤ (takeT h T e).l.length + 1 ∧ (takeT h T e).l.length ≤ T.l.length
  | 0, .nd l ks, e, hs, h1, hS, he => by
    obtain ⟨g1, -⟩ := at_rank (l := l) hS he
    refine ⟨hs, (del_cut (l := l) hS he).symm, ?_, ?_⟩
    · show l.length ≤ (l.take (rankT l e) ++ l.drop (rankT l e + 1)).length + 1
      rw [List.length_append, List.length_take, List.length_drop]; omega
    · show (l.take (rankT l e) ++ l.drop (rankT l e + 1)).length ≤ l.length
      rw [List.length_append, List.length_take, List.length_drop]; omega
  | h + 1, .nd l ks, e, hs, h1, hS, he => by
    have h1' : 1 ≤ l.length := h1 (Nat.succ_ne_zero _)
    obtain ⟨hl, K, hK, hf, hA, hB, hSK⟩ := node_lt hs hS e
    obtain ⟨r1, r2, r3⟩ := rank_cut hl e
    have hlen : ks.length = l.length + 1 := hs.1
    have hKe : kth ks (rankT l e) = K := by rw [kth_get (by omega)]; exact (List.getElem?_eq_some_iff.1 hK).2
    have hk := kid_ok hs r1
    have hfl := flat_at (h := h) hlen r1
    rw [hKe] at hk hfl
    by_cases hm : memT l e = true
    · obtain ⟨g1, g2⟩ := at_rank hl (memT_iff.1 hm)
      obtain ⟨a, b, c, d⟩ := last_ok h K hk.2.2 (by omega)
      have hN := near_set (l' := l.set (rankT l e) (lastT h K).2) (J := (lastT h K).1) hs (List.length_set ..) h1' r1 ⟨by omega, by omega, a⟩
      obtain ⟨f1, f2, f3, f4⟩ := fill_ok hN
      have et : takeT (h + 1) (.nd l ks) e = fillT (l.set (rankT l e) (lastT h K).2) (ks.set (rankT l e) (lastT h K).1) (rankT l e) := by
        show (if memT l e = true then _ else _) = _
        rw [if_pos hm, hKe]
      rw [List.length_set] at f3 f4
      rw [et]
      refine ⟨f1, ?_, f3, f4⟩
      obtain ⟨R, hR⟩ := tlW_head (l.drop (rankT l e + 1)) ((ks.drop (rankT l e + 1)).map (flat h))
      have hcut : l.set (rankT l e) (lastT h K).2 = l.take (rankT l e) ++ (lastT h K).2 :: l.drop (rankT l e + 1) := setC_cut g1
      have hx : (l.take (rankT l e)).length = rankT l e := by rw [List.length_take]; omega
      have e1 : (l.set (rankT l e) (lastT h K).2).take (rankT l e) = l.take (rankT l e) := by rw [hcut]; exact List.take_left' hx
      have e2 : (l.set (rankT l e) (lastT h K).2).drop (rankT l e) = (lastT h K).2 :: l.drop (rankT l e + 1) := by rw [hcut]; exact List.drop_left' hx
      rw [f2, flat_set (by rw [List.length_set]; exact hlen) (by rw [List.length_set]; exact r1), e1, e2, hR]
      rw [g2, hR] at hfl
      rw [hfl] at hS ⊢
      have hS2 := srt_app.1 hS
      have hS3 := srt_app.1 hS2.2.1
      rw [delT_app (fun x hx => by have := hA x hx; omega), delT_app (fun x hx => by have := hS3.2.2 x hx e List.mem_cons_self; omega), del_head, b]
      simp
    · have hel : e ∉ l := fun h => hm (memT_iff.2 h)
      have heK : e ∈ flat h K := by
        obtain ⟨K', hK', hmm⟩ := mem_node hs hS e
        rw [hK] at hK'
        obtain rfl := Option.some.inj hK'
        have hmm2 : memT (flat (h + 1) (.nd l ks)) e = true := memT_iff.2 he
        rw [hmm] at hmm2
        rcases Bool.or_eq_true_iff.1 hmm2 with h | h
        · exact absurd h hm
        · exact memT_iff.1 h
      obtain ⟨a, b, c, d⟩ := take_ok h K e hk.2.2 (fun _ => by omega) hSK heK
      have hN := near_set (l' := l) (J := takeT h K e) hs rfl h1' r1 ⟨by omega, by omega, a⟩
      obtain ⟨f1, f2, f3, f4⟩ := fill_ok hN
      have et : takeT (h + 1) (.nd l ks) e = fillT l (ks.set (rankT l e) (takeT h K e)) (rankT l e) := by
        show (if memT l e = true then _ else _) = _
        rw [if_neg hm, hKe]
      rw [et]
      refine ⟨f1, ?_, f3, f4⟩
      rw [f2, flat_set hlen r1, b, hfl, delT_app (fun x hx => by have := hA x hx; omega), delT_app2 heK]
def rootT : Nat → BT → Nat × BT
  | 0, T => (0, T)
  | h + 1, .nd l ks => if l = [] then (h, kth ks 0) else (h + 1, .nd l ks)
theorem root_ok {h : Nat} {T : BT} (hs : Shp h T) (h4 : T.l.length ≤ 4) : Shp (rootT h T).1 (rootT h T).2 ∧ flat (rootT h T).1 (rootT h T).2 = flat h T ∧ (rootT h T).2.l.length ≤ 4 ∧ ((rootT h T).1 ≠ 0 → 1 ≤ (rootT h T).2.l.length) := by
  match h, T, hs, h4 with
  | 0, T, hs, h4 => exact ⟨hs, rfl, h4, fun h => absurd rfl h⟩
  | h + 1, .nd l ks, hs, h4 =>
    by_cases hl : l = []
    · have e : rootT (h + 1) (.nd l ks) = (h, kth ks 0) := if_pos hl
      rw [e]
      subst hl
      have hk := kid_ok hs (Nat.le_refl 0)
      refine ⟨hk.2.2, ?_, hk.2.1, fun _ => by have := hk.1; show 1 ≤ (kth ks 0).l.length; omega⟩
      have hlen : ks.length = 1 := hs.1
      have hd : ks.drop (0 + 1) = [] := List.drop_eq_nil_of_le (by omega)
      rw [flat_at (h := h) hs.1 (Nat.le_refl 0), hd]
      simp [wvp, tlW]
    · have e : rootT (h + 1) (.nd l ks) = (h + 1, .nd l ks) := if_neg hl
      rw [e]
      refine ⟨hs, rfl, h4, fun _ => ?_⟩
      rcases Nat.eq_zero_or_pos l.length with h0 | h0
      · exact absurd (List.eq_nil_of_length_eq_zero h0) hl
      · exact h0
open Go.RowKit Go.Shelf
def keyR (l : List Te) (s : ByteArray) : Nat := (l.takeWhile fun x => decide (cmpK x.key s < 0)).length
theorem takeWhile_at {α : Type} (p : α → Bool) : ∀ (l : List α), (l.takeWhile p).length ≤ l.length ∧ (∀ t (h : t < l.length), t < (l.takeWhile p).length → p l[t] = true) ∧ (∀ h : (l.takeWhile p).length < l.length, p l[(l.takeWhile p).length] = false)
  | [] => ⟨Nat.le_refl _, fun t h => absurd h (Nat.not_lt_zero _), fun h => absurd h (Nat.not_lt_zero _)⟩
  | a :: l => by
    obtain ⟨i1, i2, i3⟩ := takeWhile_at p l
    cases h : p a with
    | true =>
      rw [List.takeWhile_cons_of_pos h]
      refine ⟨by simp; omega, fun t ht hlt => ?_, fun hh => ?_⟩
      · cases t with
        | zero => exact h
        | succ t => exact i2 t (by simpa using ht) (by simpa using hlt)
      · exact i3 (by simpa using hh)
    | false =>
      rw [List.takeWhile_cons_of_neg (by rw [h]; decide)]
      exact ⟨Nat.zero_le _, fun t _ ht => absurd ht (Nat.not_lt_zero _), fun _ => h⟩
theorem cmpK_trans {a b c : ByteArray} (h : cmpK a b < 0) (h2 : cmpK b c < 0) : cmpK a c < 0 := cmp_trans h h2
theorem key_mono {x y : Te} {s : ByteArray} (h : cmpT x y < 0) (hx : ¬ cmpK x.key s < 0) : ¬ cmpK y.key s < 0 := by
  intro hy
  unfold cmpT at h
  by_cases h0 : cmpK x.key y.key = 0
  · rw [cmpK_zero.1 h0] at hx
    exact hx hy
  · rw [if_neg h0] at h
    exact hx (cmpK_trans h hy)
theorem keyR_cut {l : List Te} (h : Srt l) (s : ByteArray) : keyR l s ≤ l.length ∧ (∀ t, t < keyR l s → cmpK (tth l t).key s < 0) ∧ (∀ t, keyR l s ≤ t → t < l.length → ¬ cmpK (tth l t).key s < 0) := by
  obtain ⟨h1, h2, h3⟩ := takeWhile_at (fun x : Te => decide (cmpK x.key s < 0)) l
  refine ⟨h1, fun t ht => ?_, fun t ht hl => ?_⟩
  · rw [tth_get (Nat.lt_of_lt_of_le ht h1)]
    exact of_decide_eq_true (h2 t (Nat.lt_of_lt_of_le ht h1) ht)
  · have h0 : ¬ cmpK (tth l (keyR l s)).key s < 0 := by
      have hh : keyR l s < l.length := Nat.lt_of_le_of_lt ht hl
      rw [tth_get hh]
      exact of_decide_eq_false (h3 hh)
    rcases Nat.lt_or_eq_of_le ht with h4 | h4
    · exact key_mono (srt_nth h h4 hl) h0
    · rw [← h4]; exact h0
def nextR (l : List Te) (e : Te) : Nat := rankT l e + (if memT l e = true then 1 else 0)
theorem nextR_cut {l : List Te} (h : Srt l) (e : Te) : nextR l e ≤ l.length ∧ (∀ t, t < nextR l e → ¬ 0 < cmpT (tth l t) e) ∧ (∀ t, nextR l e ≤ t → t < l.length → 0 < cmpT (tth l t) e) := by
  obtain ⟨r1, r2, r3⟩ := rank_cut h e
  have r2' : ∀ t, t < rankT l e → cmpT (tth l t) e < 0 := fun t ht => r2 _ (by rw [tth_get (by omega)]; exact List.mem_take_iff_getElem.2 ⟨t, by omega, rfl⟩)
  have r3' : ∀ t, rankT l e ≤ t → t < l.length → ¬ cmpT (tth l t) e < 0 := fun t ht hl => r3 _ (by rw [tth_get hl]; exact List.mem_drop_iff_getElem.2 ⟨t - rankT l e, by omega, by congr 1; omega⟩)
  unfold nextR
  by_cases hm : memT l e = true
  · obtain ⟨a1, a2⟩ := at_rank h (memT_iff.1 hm)
    have a3 : tth l (rankT l e) = e := by
      rw [tth_get a1]
      rw [List.drop_eq_getElem_cons a1] at a2
      exact (List.cons.inj a2).1
    rw [if_pos hm]
    refine ⟨a1, fun t ht => ?_, fun t ht hl => ?_⟩
    · rcases Nat.lt_or_eq_of_le (Nat.lt_succ_iff.1 ht) with h4 | h4
      · have := r2' t h4; omega
      · rw [h4, a3, cmpT_refl]; decide
    · have := srt_nth h (show rankT l e < t by omega) hl
      rw [a3] at this
      rw [cmpT_anti]
      omega
  · rw [if_neg hm, Nat.add_zero]
    refine ⟨r1, fun t ht => by have := r2' t ht; omega, fun t ht hl => ?_⟩
    have h5 := r3' t ht hl
    have h6 : cmpT (tth l t) e ≠ 0 := fun h0 => hm (memT_iff.2 (by rw [← cmpT_zero.1 h0, tth_get hl]; exact List.getElem_mem hl))
    omega
def TV : Option Te → Value
  | some x => .tuple #[.string x.key, .int .i64 x.no, .bool true]
  | none => .tuple #[.string ⟨#[]⟩, .int .i64 0, .bool false]
def atT (l : List Te) (i : Int) : Option Te := if i < 0 then none else l[i.toNat]?
theorem atT_nat (l : List Te) (k : Nat) : atT l (k : Int) = l[k]? := by unfold atT; rw [if_neg (by omega)]; rfl
def endR (L : List Te) (hi : ByteArray) : Nat := if hi = ⟨#[]⟩ then L.length else keyR L hi
def betwT (L : List Te) (lo hi : ByteArray) : List Te := (L.take (endR L hi)).drop (min (keyR L lo) (endR L hi))
theorem told_any (A : Option Addr) (n c : Nat) (l : List Te) (i : Int) (w : World) (hl : RdN w A n c l) : Calls Tryz.prog 55 #[.slice A n c, .int .i64 i] w (Give (TV (atT l i)) w) := by
  have hlen := hl.len
  by_cases h : i < 0 ∨ (n : Int) ≤ i
  · refine (told_no A n c i w h).mono ?_
    rintro e w' ⟨rfl, rfl⟩
    have : atT l i = none := by
      unfold atT
      rcases h with h | h
      · rw [if_pos h]
      · rw [if_neg (by omega)]
        exact List.getElem?_eq_none (by omega)
    rw [this]
    exact ⟨rfl, Ext.refl _⟩
  · obtain ⟨k, rfl⟩ : ∃ k : Nat, i = k := ⟨i.toNat, by omega⟩
    have hk : k < n := by omega
    obtain ⟨ad, rfl, x0, x1⟩ := hl.at_ hk
    have hmx := Rd.max hl
    have ea : atT l (k : Int) = some (tth l k) := by rw [atT_nat, tth_get (by omega)]; exact List.getElem?_eq_getElem (by omega)
    rw [ea]
    have hki : (k : Int) < (n : Int) := by omega
    have hk0 : ¬ (n : Int) ≤ (k : Int) := by omega
    generalize tth l k = x at *
    clear h hl hlen ea
    show Calls Tryz.prog _ _ w (Give (.tuple #[.string x.key, .int .i64 x.no, .bool true]) w)
    go_enter Tryz.func55, Tryz.ntmps55
    go_upto_region 3 with fail
    go_quiet (fail)
    go_wp2
    go_ret3
    exact ⟨rfl, Ext.drewN _ _⟩
theorem fromKeyC_any (A : Option Addr) (n c p q k : Nat) (l : List Te) (s : ByteArray) (w : World) (hl : RdN w A n c l) (hk : k < n) (hn : n ≤ 1000000) (hp : w.cell? ⟨p, 0, none⟩ = some (.slice A n c)) (h0 : w.cell? ⟨q, 0, none⟩ = some (.string s)) : Calls Tryz.prog 73 #[.int .i64 k, .pointer (some ⟨p, 0, none⟩), .pointer (some ⟨q, 0, none⟩)] w (Give (.bool (!decide (cmpK (tth l k).key s < 0))) w) := by
  obtain ⟨ad, rfl, x0, x1⟩ := hl.at_ hk
  have hmx := Rd.max hl
  have hkn : (k : Int) < (n : Int) := by omega
  have hb : Hid (decide (cmpK (tth l k).key s < 0) = Op.bytesLess (tth l k).key.toList s.toList) := by unfold Hid; rw [ByteArray.toList_eq, ByteArray.toList_eq]; exact (less_cmp _ _).symm
  generalize tth l k = x at *
  clear hl
  go_enter Tryz.func73, Tryz.ntmps73
  go_upto_region 1 with fail
  go_quiet (fail)
  go_wp2
  go_ret
  exact ⟨by rw [hb.out]; rfl, Ext.drewN _ _⟩
theorem fromKey_any (A : Option Addr) (n c : Nat) (l : List Te) (s : ByteArray) (w : World) (hl : RdN w A n c l) (hS : Srt l) (hn : n ≤ 1000000) : Calls Tryz.prog 56 #[.slice A n c, .string s] w (Give (.int .i64 (keyR l s)) w) := by
  have hlen := hl.len
  have hx := hid (((Ext.refl w).alloc_right (.cells #[.slice A n c] 52)).alloc_right (.cells #[.string s] 9))
  have hp0 := heap_alloc_new w (.cells #[.slice A n c] 52)
  have hq := heap_alloc_new (w.alloc (.cells #[.slice A n c] 52)) (.cells #[.string s] 9)
  have hp := (((Ext.refl (w.alloc (.cells #[.slice A n c] 52))).alloc_right (.cells #[.string s] 9)).block (Array.getElem?_eq_some_iff.1 hp0).1).trans hp0
  rw [World.size_alloc] at hq
  obtain ⟨r1, r2, r3⟩ := keyR_cut hS s
  have en : ∀ (x y a : Value) (w : World), (callFunc 73 #[a, x, y]).run Tryz.prog w = .ok (.enter 73 #[a, x, y]) w := fun x y a w => by kernel_rfl
  have hQ1 : Hid (∀ t, t < keyR l s → (!decide (cmpK (tth l t).key s < 0)) = false) := fun t ht => by rw [decide_eq_true (r2 t ht)]; rfl
  have hQ2 : Hid (∀ t, keyR l s ≤ t → t < n → (!decide (cmpK (tth l t).key s < 0)) = true) := fun t ht htn => by rw [decide_eq_false (r3 t ht (by omega))]; rfl
  have hC : Hid (∀ w1, Ext ((w.alloc (.cells #[.slice A n c] 52)).alloc (.cells #[.string s] 9)) w1 → Calls Tryz.prog 57 #[.int .i64 n, .func (.func 73) #[] #[.pointer (some ⟨w.heap.size, 0, none⟩), .pointer (some ⟨w.heap.size + 1, 0, none⟩)]] w1 (Give (.int .i64 (keyR l s)) w1)) := fun w1 hx1 => by
    refine search_any n (keyR l s) 73 _ _ (fun t => (!decide (cmpK (tth l t).key s < 0))) w1 hn (by omega) (en _ _) (fun k w' hk hx' => fromKeyC_any A n c _ _ k l s w' (hl.ext (hx.out.trans (hx1.trans hx'))) hk hn ?_ ?_) hQ1 hQ2
    all_goals first
      | exact (hx1.trans hx').cell (by rw [Lib.cell_of_heap hp]; rfl)
      | exact (hx1.trans hx').cell (by rw [Lib.cell_of_heap hq]; rfl)
  have zp : ((w.alloc (.cells #[.slice A n c] 52)).alloc (.cells #[.string s] 9)).cell? ⟨w.heap.size, 0, none⟩ = some (.slice A n c) := by rw [Lib.cell_of_heap hp]; rfl
  have lz := World.block_lt_of_cell? _ _ zp
  dsimp only at lz
  have hmx := Rd.max hl
  generalize keyR l s = r at *
  clear r1 r2 r3 hp hq hp0 hQ1 hQ2 hl hlen hS
  go_enter Tryz.func56, Tryz.ntmps56
  go_upto_region 1 with fail
  generalize ((w.alloc (.cells #[.slice A n c] 52)).alloc (.cells #[.string s] 9)) = w1 at *
  go_wp2_with fail
  refine (hC.out _ (Ext.refl _)).mono ?_
  rintro e' w3 ⟨rfl, hx3⟩
  go_wp2
  go_ret
  exact ⟨rfl, hx.out.trans hx3⟩
theorem At_any (t : Nat) (L : List Te) (h p : Nat) (T : BT) (fT : Nat → Nat) (i : Int) (w : World) (H : TreeAt 0 w t L h p T fT) (o : Option Te) (ho : Hid (o = atT L i)) : Calls Tryz.prog 23 #[.pointer (some ⟨t, 0, none⟩), .int .i64 i] w (Give (TV o) w) := by
  have hE := hid (entries_any t L h p T fT w H)
  have hsr := hid H.sr
  have hle := hid H.le
  clear H
  go_enter Tryz.func23, Tryz.ntmps23
  go_wp2_with fail
  refine hE.out.mono ?_
  rintro e w2 ⟨v, rfl, own2, hx⟩
  obtain ⟨A, c, rfl, -⟩ := own_form own2
  have hrd := hid (show RdN w2 A L.length c L from Rd.of_own own2)
  have hmx := Rd.max hrd.out
  clear own2
  have hT := hid (told_any A L.length c L i w2 hrd.out)
  rw [← ho.out] at hT
  clear ho
  go_wp2_with fail
  refine hT.out.mono ?_
  rintro e w3 ⟨rfl, hx3⟩
  replace hx := hid (hx.trans hx3)
  cases o with
  | none =>
    simp only [TV]
    go_wp2
    go_ret3
    exact ⟨rfl, hx.out⟩
  | some x =>
    simp only [TV]
    go_wp2
    go_ret3
    exact ⟨rfl, hx.out⟩
theorem Seek_any (t : Nat) (L : List Te) (h p : Nat) (T : BT) (fT : Nat → Nat) (s : ByteArray) (w : World) (H : TreeAt 0 w t L h p T fT) (o : Option Te) (ho : Hid (o = L[keyR L s]?)) : Calls Tryz.prog 26 #[.pointer (some ⟨t, 0, none⟩), .string s] w (Give (TV o) w) := by
  have hE := hid (entries_any t L h p T fT w H)
  have hsr := hid H.sr
  have hle := hid H.le
  clear H
  go_enter Tryz.func26, Tryz.ntmps26
  go_wp2_with fail
  refine hE.out.mono ?_
  rintro e w2 ⟨v, rfl, own2, hx⟩
  obtain ⟨A, c, rfl, -⟩ := own_form own2
  have hrd := hid (show RdN w2 A L.length c L from Rd.of_own own2)
  have hmx := Rd.max hrd.out
  clear own2
  have hF := hid (fromKey_any A L.length c L s w2 hrd.out hsr.out (by have := hle.out; omega))
  have hT := hid (fun w' (hx' : Ext w2 w') => told_any A L.length c L (keyR L s : Nat) w' (hrd.out.ext hx'))
  rw [atT_nat] at hT
  rw [← ho.out] at hT
  clear ho
  generalize keyR L s = r at *
  go_wp2_with fail
  refine hF.out.mono ?_
  rintro e w3 ⟨rfl, hx3⟩
  replace hx := hid (hx.trans hx3)
  replace hx3 := hid hx3
  go_wp2_with fail
  refine (hT.out w3 hx3.out).mono ?_
  rintro e w4 ⟨rfl, hx4⟩
  replace hx := hid (hx.out.trans hx4)
  cases o with
  | none =>
    simp only [TV]
    go_wp2
    go_ret3
    exact ⟨rfl, hx.out⟩
  | some x =>
    simp only [TV]
    go_wp2
    go_ret3
    exact ⟨rfl, hx.out⟩
theorem Prev_any (t : Nat) (L : List Te) (h p : Nat) (T : BT) (fT : Nat → Nat) (s : ByteArray) (i : Int) (w : World) (H : TreeAt 0 w t L h p T fT) (o : Option Te) (ho : Hid (o = atT L ((rankT L ⟨s, i⟩ : Nat) - 1 : Int))) : Calls Tryz.prog 30 #[.pointer (some ⟨t, 0, none⟩), .string s, .int .i64 i] w (Give (TV o) w) := by
  have hE := hid (entries_any t L h p T fT w H)
  have hsr := hid H.sr
  have hle := hid H.le
  clear H
  go_enter Tryz.func30, Tryz.ntmps30
  go_wp2_with fail
  refine hE.out.mono ?_
  rintro e w2 ⟨v, rfl, own2, hx⟩
  obtain ⟨A, c, rfl, -⟩ := own_form own2
  have hrd := hid (show RdN w2 A L.length c L from Rd.of_own own2)
  have hmx := Rd.max hrd.out
  clear own2
  have hF := hid (from_any A L.length c L ⟨s, i⟩ w2 hrd.out hsr.out (by have := hle.out; omega))
  have hT := hid (fun w' (hx' : Ext w2 w') => told_any A L.length c L ((rankT L ⟨s, i⟩ : Nat) - 1 : Int) w' (hrd.out.ext hx'))
  have hr := (rank_cut hsr.out ⟨s, i⟩).1
  rw [← ho.out] at hT
  clear ho
  generalize rankT L ⟨s, i⟩ = r at *
  have hw1 : IntKind.i64.wrap ((r : Int) - 1) = (r : Int) - 1 := IntWalk.i64_in _ (by have := hle.out; omega)
  have hr10 : r ≤ 10000 := by have := hle.out; omega
  go_wp2_with fail
  refine hF.out.mono ?_
  rintro e w3 ⟨rfl, hx3⟩
  replace hx := hid (hx.trans hx3)
  replace hx3 := hid hx3
  go_wp2_with fail
  refine (hT.out w3 hx3.out).mono ?_
  rintro e w4 ⟨rfl, hx4⟩
  replace hx := hid (hx.out.trans hx4)
  cases o with
  | none =>
    simp only [TV]
    go_wp2
    go_ret3
    exact ⟨rfl, hx.out⟩
  | some x =>
    simp only [TV]
    go_wp2
    go_ret3
    exact ⟨rfl, hx.out⟩
theorem Next_any (t : Nat) (L : List Te) (h p : Nat) (T : BT) (fT : Nat → Nat) (s : ByteArray) (i : Int) (w : World) (H : TreeAt 0 w t L h p T fT) (o : Option Te) (ho : Hid (o = L[nextR L ⟨s, i⟩]?)) : Calls Tryz.prog 28 #[.pointer (some ⟨t, 0, none⟩), .string s, .int .i64 i] w (Give (TV o) w) := by
  have hE := hid (entries_any t L h p T fT w H)
  have hsr := hid H.sr
  have hle := hid H.le
  clear H
  go_enter Tryz.func28, Tryz.ntmps28
  go_wp2_with fail
  refine hE.out.mono ?_
  rintro e w2 ⟨v, rfl, own2, hx⟩
  obtain ⟨A, c, rfl, -⟩ := own_form own2
  have hrd := hid (show RdN w2 A L.length c L from Rd.of_own own2)
  have hmx := Rd.max hrd.out
  clear own2
  have hp0 := heap_alloc_new w2 (.cells #[.slice A L.length c] 52)
  have hq := heap_alloc_new (w2.alloc (.cells #[.slice A L.length c] 52)) (.cells #[.string s, .int .i64 i] 83)
  have hxa := (Ext.refl w2).alloc_right (.cells #[.slice A L.length c] 52)
  have hxb := (Ext.refl (w2.alloc (.cells #[.slice A L.length c] 52))).alloc_right (.cells #[.string s, .int .i64 i] 83)
  have hp := (hxb.block (Array.getElem?_eq_some_iff.1 hp0).1).trans hp0
  rw [World.size_alloc] at hq
  have zp : ((w2.alloc (.cells #[.slice A L.length c] 52)).alloc (.cells #[.string s, .int .i64 i] 83)).cell? ⟨w2.heap.size, 0, none⟩ = some (.slice A L.length c) := by rw [Lib.cell_of_heap hp]; rfl
  have lz := World.block_lt_of_cell? _ _ zp
  dsimp only at lz
  have hx5 := hid (hxa.trans hxb)
  obtain ⟨r1, r2, r3⟩ := nextR_cut hsr.out ⟨s, i⟩
  have en : ∀ (x y a : Value) (w : World), (callFunc 58 #[a, x, y]).run Tryz.prog w = .ok (.enter 58 #[a, x, y]) w := fun x y a w => by kernel_rfl
  have hSe : Hid (∀ w1, Ext ((w2.alloc (.cells #[.slice A L.length c] 52)).alloc (.cells #[.string s, .int .i64 i] 83)) w1 → Calls Tryz.prog 57 #[.int .i64 L.length, .func (.func 58) #[] #[.pointer (some ⟨w2.heap.size, 0, none⟩), .pointer (some ⟨w2.heap.size + 1, 0, none⟩)]] w1 (Give (.int .i64 (nextR L ⟨s, i⟩)) w1)) := fun w1 hx1 => by
    refine search_any L.length (nextR L ⟨s, i⟩) 58 _ _ (fun t => decide (0 < cmpT (tth L t) ⟨s, i⟩)) w1 (by have := hle.out; omega) r1 (en _ _) (fun k w' hk hx' => nextC_any A L.length c _ _ k L ⟨s, i⟩ w' (hrd.out.ext (hx5.out.trans (hx1.trans hx'))) hk (by have := hle.out; omega) ?_ ?_ ?_) (fun t ht => decide_eq_false (r2 t ht)) (fun t ht hl => decide_eq_true (r3 t ht hl))
    all_goals first
      | exact (hx1.trans hx').cell (by rw [Lib.cell_of_heap hp]; rfl)
      | exact (hx1.trans hx').cell (by rw [Lib.cell_of_heap hq]; rfl)
  have hT := hid (fun w' (hx' : Ext w2 w') => told_any A L.length c L (nextR L ⟨s, i⟩ : Nat) w' (hrd.out.ext hx'))
  rw [atT_nat] at hT
  rw [← ho.out] at hT
  clear ho
  generalize nextR L ⟨s, i⟩ = r at *
  replace hx := hid hx
  clear hp hp0 hq hxa hxb r1 r2 r3 en
  go_upto_region 3 with fail
  obtain ⟨b, hbe⟩ : ∃ b, b = w2.heap.size := ⟨_, rfl⟩
  rw [← hbe] at zp lz hSe
  simp only [← hbe]
  clear hbe
  have I0 : (fun w' : World => w'.cell? ⟨b, 0, none⟩ = some (.slice A L.length c)) ((w2.alloc (.cells #[.slice A L.length c] 52)).alloc (.cells #[.string s, .int .i64 i] 83)).drew := zp
  refine region_J (fun w' : World => w'.cell? ⟨b, 0, none⟩ = some (.slice A L.length c)) 12 (by kernel_rfl) ?_
  have hx6 := hid ((Ext.refl ((w2.alloc (.cells #[.slice A L.length c] 52)).alloc (.cells #[.string s, .int .i64 i] 83))).drew_right)
  clear zp
  generalize ((w2.alloc (.cells #[.slice A L.length c] 52)).alloc (.cells #[.string s, .int .i64 i] 83)).drew = w3 at *
  generalize ((w2.alloc (.cells #[.slice A L.length c] 52)).alloc (.cells #[.string s, .int .i64 i] 83)) = w2' at *
  refine JO 0 (v := ?vc0) I0 ?yc0 ?rc0
  case yc0 => (intro w h; have := h; go_simp; with_reducible rfl)
  simp only [Act.put, lyA, lyB, lyC, lyD, lyE, lyF]
  refine JO 1 (v := ?vc1) I0 ?yc1 ?rc1
  case yc1 => (intro w h; have := h; go_simp; with_reducible rfl)
  simp only [Act.put, lyA, lyB, lyC, lyD, lyE, lyF]
  refine JO 2 (v := ?vc2) I0 ?yc2 ?rc2
  case yc2 => (intro w h; have := h; go_simp; with_reducible rfl)
  simp only [Act.put, lyA, lyB, lyC, lyD, lyE, lyF]
  refine JO 3 (v := ?vc3) I0 ?yc3 ?rc3
  case yc3 => (intro w h; have := h; go_simp; with_reducible rfl)
  simp only [Act.put, lyA, lyB, lyC, lyD, lyE, lyF]
  refine J_one 4 rfl (by kernel_rfl) (fun K hK => ?_)
  go_simp
  refine (hSe.out _ hx6.out).mono ?_
  rintro e w4 ⟨rfl, hx4⟩
  have I4 : (fun w' : World => w'.cell? ⟨b, 0, none⟩ = some (.slice A L.length c)) w4 := hx4.cell I0
  have hx8 := hid (hx6.out.trans hx4)
  clear hx4
  refine hK _ _ ⟨fun _ => I4, ?_⟩
  clear hK K
  try simp only [Act.put, lyA, lyB, lyC, lyD, lyE, lyF]
  refine J_one 5 rfl (by kernel_rfl) (fun K hK => ?_)
  go_simp
  refine (hT.out _ (hx5.out.trans hx8.out)).mono ?_
  rintro e w5 ⟨rfl, hx9⟩
  have I5 : (fun w' : World => w'.cell? ⟨b, 0, none⟩ = some (.slice A L.length c)) w5 := hx9.cell I4
  have hxa := hid (hx.out.trans (hx5.out.trans (hx8.out.trans hx9)))
  clear hx9
  refine hK _ _ ⟨fun _ => I5, ?_⟩
  clear hK K
  try simp only [Act.put, lyA, lyB, lyC, lyD, lyE, lyF]
  cases o with
  | none =>
    simp only [TV]
    refine JO 6 (v := ?vd6) I5 ?yd6 ?rd6
    case yd6 => (intro w h; have := h; go_simp; with_reducible rfl)
    simp only [Act.put, lyA, lyB, lyC, lyD, lyE, lyF]
    refine JO 7 (v := ?vd7) I5 ?yd7 ?rd7
    case yd7 => (intro w h; have := h; go_simp; with_reducible rfl)
    simp only [Act.put, lyA, lyB, lyC, lyD, lyE, lyF]
    refine JO 8 (v := ?vd8) I5 ?yd8 ?rd8
    case yd8 => (intro w h; have := h; go_simp; with_reducible rfl)
    simp only [Act.put, lyA, lyB, lyC, lyD, lyE, lyF]
    refine J_one 9 rfl (by kernel_rfl) (fun K hK => ?_)
    go_simp
    refine hK _ _ ⟨fun _ => I5, ?_⟩
    clear hK K
    try simp only [Act.put, lyD, lyE, lyF]
    refine J_one 10 rfl (by kernel_rfl) (fun K hK => ?_)
    go_simp
    refine hK _ _ ⟨fun _ => I5, ?_⟩
    clear hK K
    try simp only [Act.put, lyD, lyE, lyF]
    refine J_one 11 rfl (by kernel_rfl) (fun K hK => ?_)
    go_simp
    refine hK _ _ ⟨fun _ => I5, ?_⟩
    clear hK K
    try simp only [Act.put, lyD, lyE, lyF]
    refine J_done (by kernel_rfl) (OnlyOn.normal ?_)
    go_wp2
    go_ret3
    exact ⟨rfl, hxa.out⟩
  | some x =>
    simp only [TV]
    refine JO 6 (v := ?ve6) I5 ?ye6 ?re6
    case ye6 => (intro w h; have := h; go_simp; with_reducible rfl)
    simp only [Act.put, lyA, lyB, lyC, lyD, lyE, lyF]
    refine JO 7 (v := ?ve7) I5 ?ye7 ?re7
    case ye7 => (intro w h; have := h; go_simp; with_reducible rfl)
    simp only [Act.put, lyA, lyB, lyC, lyD, lyE, lyF]
    refine JO 8 (v := ?ve8) I5 ?ye8 ?re8
    case ye8 => (intro w h; have := h; go_simp; with_reducible rfl)
    simp only [Act.put, lyA, lyB, lyC, lyD, lyE, lyF]
    refine J_one 9 rfl (by kernel_rfl) (fun K hK => ?_)
    go_simp
    refine hK _ _ ⟨fun _ => I5, ?_⟩
    clear hK K
    try simp only [Act.put, lyD, lyE, lyF]
    refine J_one 10 rfl (by kernel_rfl) (fun K hK => ?_)
    go_simp
    refine hK _ _ ⟨fun _ => I5, ?_⟩
    clear hK K
    try simp only [Act.put, lyD, lyE, lyF]
    refine J_one 11 rfl (by kernel_rfl) (fun K hK => ?_)
    go_simp
    refine hK _ _ ⟨fun _ => I5, ?_⟩
    clear hK K
    try simp only [Act.put, lyD, lyE, lyF]
    refine J_done (by kernel_rfl) (OnlyOn.normal ?_)
    go_wp2
    go_ret3
    exact ⟨rfl, hxa.out⟩
open Go.RowKit Go.Shelf
theorem keyR_is {L : List Te} {s : ByteArray} {k : Nat} (hk : k ≤ L.length) (h1 : ∀ t, t < k → cmpK (tth L t).key s < 0) (h2 : k < L.length → ¬ cmpK (tth L k).key s < 0) : keyR L s = k := by
  obtain ⟨a1, a2, a3⟩ := takeWhile_at (fun x : Te => decide (cmpK x.key s < 0)) L
  change keyR L s ≤ L.length at a1
  rcases Nat.lt_trichotomy (keyR L s) k with h | h | h
  · have hl : keyR L s < L.length := by omega
    have := h1 _ h
    rw [tth_get hl] at this
    exact absurd this (of_decide_eq_false (a3 hl))
  · exact h
  · have hl : k < L.length := by omega
    have h3 := a2 k hl h
    have := h2 hl
    rw [tth_get hl] at this
    exact absurd (of_decide_eq_true h3) this
theorem nextR_is {L : List Te} (hS : Srt L) {e : Te} {k : Nat} (hk : k ≤ L.length) (h1 : ∀ t, t < k → ¬ cmpT e (tth L t) < 0) (h2 : k < L.length → cmpT e (tth L k) < 0) : nextR L e = k := by
  obtain ⟨a1, a2, a3⟩ := nextR_cut hS e
  rcases Nat.lt_trichotomy (nextR L e) k with h | h | h
  · have := a3 _ (Nat.le_refl _) (by omega)
    have h3 := h1 _ h
    rw [cmpT_anti] at h3
    omega
  · exact h
  · have := a2 k h
    have h3 := h2 (by omega)
    rw [cmpT_anti] at h3
    omega
theorem RTr.at_ {w : World} {r : Nat} {L : List Te} (h : RTr w r L) : ∃ A1 c1 A2 c2, w.cell? ⟨r, 0, none⟩ = some (.slice A1 L.length c1) ∧ w.cell? ⟨r, 1, none⟩ = some (.slice A2 L.length c2) ∧ r < w.heap.size ∧ L.length ≤ c1 ∧ L.length ≤ c2 ∧ c1 ≤ 9223372036854775807 ∧ c2 ≤ 9223372036854775807 ∧ ∀ k, k < L.length → ∃ a1 a2, A1 = some a1 ∧ A2 = some a2 ∧ w.cell? (a1.add k) = some (.string (tth L k).key) ∧ w.cell? (a2.add k) = some (.int .i64 (tth L k).no) := by
  obtain ⟨A1, c1, A2, c2, h1, h2, h3⟩ := h
  have m1 := Rd.max h2
  have m2 := RdI.max h3
  refine ⟨A1, c1, A2, c2, by rw [Lib.cell_of_heap h1]; rfl, by rw [Lib.cell_of_heap h1]; rfl, (Array.getElem?_eq_some_iff.1 h1).1, m1.2.1, m2.2.1, m1.2.2, m2.2.2, fun k hk => ?_⟩
  obtain ⟨a1, e1, d1⟩ := rds_at h2 hk
  obtain ⟨a2, e2, d2⟩ := rdi_at h3 hk
  rw [sth_get (by rw [List.length_map]; exact hk), List.getElem_map] at d1
  rw [ith_get (by rw [List.length_map]; exact hk), List.getElem_map] at d2
  exact ⟨a1, a2, e1, e2, by rw [tth_get hk]; exact d1, by rw [tth_get hk]; exact d2⟩
theorem rRank_any (r : Nat) (L : List Te) (s : ByteArray) (i : Int) (w : World) (h : RTr w r L) (hS : Srt L) (hl : L.length ≤ 10000) (rk : Nat) (hrk : Hid (rk = rankT L ⟨s, i⟩)) : Calls Tryz.prog 22 #[.pointer (some ⟨r, 0, none⟩), .string s, .int .i64 i] w (Give (.int .i64 rk) w) := by
  obtain ⟨A1, c1, A2, c2, z0, z1, lr, m1, m2, m3, m4, hat⟩ := h.at_
  replace hat := hid hat
  have hS' := hid hS
  go_enter Tryz.func22, Tryz.ntmps22
  go_wp2_with fail
  go_loopw [7] (fun n wr => ∃ k : Nat, k ≤ L.length ∧ n = .int .i64 k ∧ Hid (Ext w wr) ∧ Hid (∀ t, t < k → cmpT (tth L t) ⟨s, i⟩ < 0)) (fun n _ => L.length - (intOf n).toNat)
  case atStart => exact ⟨0, Nat.zero_le _, rfl, Ext.refl w, fun t h => absurd h (Nat.not_lt_zero _)⟩
  case round =>
    obtain ⟨k, hk, rfl, hx, hall⟩ := hrel
    by_cases hlt : k < L.length
    · have hE := hid (fun w' => rLess_any (tth L k).key s (tth L k).no i w')
      obtain ⟨a1, a2, rfl, rfl, y1, y2⟩ := hat.out k hlt
      have hki : (k : Int) < (L.length : Int) := by omega
      replace z0 := hx.out.cell z0
      replace z1 := hx.out.cell z1
      replace y1 := hx.out.cell y1
      replace y2 := hx.out.cell y2
      replace lr := Nat.lt_of_lt_of_le lr hx.out.size
      by_cases hc : cmpT (tth L k) ⟨s, i⟩ < 0
      · have hall2 : Hid (∀ t, t < k + 1 → cmpT (tth L t) ⟨s, i⟩ < 0) := fun t ht => by
          rcases Nat.lt_or_eq_of_le (Nat.lt_succ_iff.1 ht) with h1 | h1
          · exact hall.out t h1
          · rw [h1]; exact hc
        rw [show decide (cmpT ⟨(tth L k).key, (tth L k).no⟩ ⟨s, i⟩ < 0) = true from decide_eq_true hc] at hE
        clear hc hall
        generalize tth L k = x at *
        go_upto_region 2 with fail
        have I0 : (fun w' : World => w'.cell? ⟨r, 0, none⟩ = some (.slice (some a1) L.length c1) ∧ w'.cell? ⟨r, 1, none⟩ = some (.slice (some a2) L.length c2) ∧ w'.cell? (a1.add k) = some (.string x.key) ∧ w'.cell? (a2.add k) = some (.int .i64 x.no)) wr.drew := ⟨z0, z1, y1, y2⟩
        have hx2 := hid (hx.out.drew_right)
        refine region_J (fun w' : World => w'.cell? ⟨r, 0, none⟩ = some (.slice (some a1) L.length c1) ∧ w'.cell? ⟨r, 1, none⟩ = some (.slice (some a2) L.length c2) ∧ w'.cell? (a1.add k) = some (.string x.key) ∧ w'.cell? (a2.add k) = some (.int .i64 x.no)) 26 (by kernel_rfl) ?_
        clear z0 z1 y1 y2 hx
        generalize wr.drew = w1 at *
        refine JO 0 (v := ?va0) I0 ?ya0 ?ra0
        case ya0 => (intro w h; obtain ⟨_, _, _, _⟩ := h; go_simp; with_reducible rfl)
        simp only [Act.put, lyA, lyB, lyC, lyD, lyE, lyF]
        refine JO 1 (v := ?va1) I0 ?ya1 ?ra1
        case ya1 => (intro w h; obtain ⟨_, _, _, _⟩ := h; go_simp; with_reducible rfl)
        simp only [Act.put, lyA, lyB, lyC, lyD, lyE, lyF]
        refine JO 2 (v := ?va2) I0 ?ya2 ?ra2
        case ya2 => (intro w h; obtain ⟨_, _, _, _⟩ := h; go_simp; with_reducible rfl)
        simp only [Act.put, lyA, lyB, lyC, lyD, lyE, lyF]
        refine JO 3 (v := ?va3) I0 ?ya3 ?ra3
        case ya3 => (intro w h; obtain ⟨_, _, _, _⟩ := h; go_simp; with_reducible rfl)
        simp only [Act.put, lyA, lyB, lyC, lyD, lyE, lyF]
        refine JO 4 (v := ?va4) I0 ?ya4 ?ra4
        case ya4 => (intro w h; obtain ⟨_, _, _, _⟩ := h; go_simp; with_reducible rfl)
        simp only [Act.put, lyA, lyB, lyC, lyD, lyE, lyF]
        refine JO 5 (v := ?va5) I0 ?ya5 ?ra5
        case ya5 => (intro w h; obtain ⟨_, _, _, _⟩ := h; go_simp; with_reducible rfl)
        simp only [Act.put, lyA, lyB, lyC, lyD, lyE, lyF]
        refine JO 6 (v := ?va6) I0 ?ya6 ?ra6
        case ya6 => (intro w h; obtain ⟨_, _, _, _⟩ := h; go_simp; with_reducible rfl)
        simp only [Act.put, lyA, lyB, lyC, lyD, lyE, lyF]
        refine JO 7 (v := ?va7) I0 ?ya7 ?ra7
        case ya7 => (intro w h; obtain ⟨_, _, _, _⟩ := h; go_simp; with_reducible rfl)
        simp only [Act.put, lyA, lyB, lyC, lyD, lyE, lyF]
        refine JO 8 (v := ?va8) I0 ?ya8 ?ra8
        case ya8 => (intro w h; obtain ⟨_, _, _, _⟩ := h; go_simp; with_reducible rfl)
        simp only [Act.put, lyA, lyB, lyC, lyD, lyE, lyF]
        refine JO 9 (v := ?va9) I0 ?ya9 ?ra9
        case ya9 => (intro w h; obtain ⟨_, _, _, _⟩ := h; go_simp; with_reducible rfl)
        simp only [Act.put, lyA, lyB, lyC, lyD, lyE, lyF]
        refine JO 10 (v := ?va10) I0 ?ya10 ?ra10
        case ya10 => (intro w h; obtain ⟨_, _, _, _⟩ := h; go_simp; with_reducible rfl)
        simp only [Act.put, lyA, lyB, lyC, lyD, lyE, lyF]
        refine JO 11 (v := ?va11) I0 ?ya11 ?ra11
        case ya11 => (intro w h; obtain ⟨_, _, _, _⟩ := h; go_simp; with_reducible rfl)
        simp only [Act.put, lyA, lyB, lyC, lyD, lyE, lyF]
        refine JO 12 (v := ?va12) I0 ?ya12 ?ra12
        case ya12 => (intro w h; obtain ⟨_, _, _, _⟩ := h; go_simp; with_reducible rfl)
        simp only [Act.put, lyA, lyB, lyC, lyD, lyE, lyF]
        refine JO 13 (v := ?va13) I0 ?ya13 ?ra13
        case ya13 => (intro w h; obtain ⟨_, _, _, _⟩ := h; go_simp; with_reducible rfl)
        simp only [Act.put, lyA, lyB, lyC, lyD, lyE, lyF]
        refine JO 14 (v := ?va14) I0 ?ya14 ?ra14
        case ya14 => (intro w h; obtain ⟨_, _, _, _⟩ := h; go_simp; with_reducible rfl)
        simp only [Act.put, lyA, lyB, lyC, lyD, lyE, lyF]
        refine JO 15 (v := ?va15) I0 ?ya15 ?ra15
        case ya15 => (intro w h; obtain ⟨_, _, _, _⟩ := h; go_simp; with_reducible rfl)
        simp only [Act.put, lyA, lyB, lyC, lyD, lyE, lyF]
        refine JO 16 (v := ?va16) I0 ?ya16 ?ra16
        case ya16 => (intro w h; obtain ⟨_, _, _, _⟩ := h; go_simp; with_reducible rfl)
        simp only [Act.put, lyA, lyB, lyC, lyD, lyE, lyF]
        refine JO 17 (v := ?va17) I0 ?ya17 ?ra17
        case ya17 => (intro w h; obtain ⟨_, _, _, _⟩ := h; go_simp; with_reducible rfl)
        simp only [Act.put, lyA, lyB, lyC, lyD, lyE, lyF]
        refine JO 18 (v := ?va18) I0 ?ya18 ?ra18
        case ya18 => (intro w h; obtain ⟨_, _, _, _⟩ := h; go_simp; with_reducible rfl)
        simp only [Act.put, lyA, lyB, lyC, lyD, lyE, lyF]
        refine JO 19 (v := ?va19) I0 ?ya19 ?ra19
        case ya19 => (intro w h; obtain ⟨_, _, _, _⟩ := h; go_simp; with_reducible rfl)
        simp only [Act.put, lyA, lyB, lyC, lyD, lyE, lyF]
        refine JO 20 (v := ?va20) I0 ?ya20 ?ra20
        case ya20 => (intro w h; obtain ⟨_, _, _, _⟩ := h; go_simp; with_reducible rfl)
        simp only [Act.put, lyA, lyB, lyC, lyD, lyE, lyF]
        refine JO 21 (v := ?va21) I0 ?ya21 ?ra21
        case ya21 => (intro w h; obtain ⟨_, _, _, _⟩ := h; go_simp; with_reducible rfl)
        simp only [Act.put, lyA, lyB, lyC, lyD, lyE, lyF]
        refine JO 22 (v := ?va22) I0 ?ya22 ?ra22
        case ya22 => (intro w h; obtain ⟨_, _, _, _⟩ := h; go_simp; with_reducible rfl)
        simp only [Act.put, lyA, lyB, lyC, lyD, lyE, lyF]
        refine JO 23 (v := ?va23) I0 ?ya23 ?ra23
        case ya23 => (intro w h; obtain ⟨_, _, _, _⟩ := h; go_simp; with_reducible rfl)
        simp only [Act.put, lyA, lyB, lyC, lyD, lyE, lyF]
        refine J_one 24 rfl (by kernel_rfl) (fun K hK => ?_)
        go_simp
        refine (hE.out _).mono ?_
        rintro e' w5 ⟨rfl, rfl⟩
        refine hK _ _ ⟨fun _ => I0, ?_⟩
        clear hK K
        try simp only [Act.put, lyA, lyB, lyC, lyD, lyE, lyF]
        refine J_one 25 rfl (by kernel_rfl) (fun K hK => ?_)
        go_simp
        refine hK _ _ ⟨fun _ => I0, ?_⟩
        clear hK K
        try simp only [Act.put, lyD, lyE, lyF]
        refine J_done (by kernel_rfl) (OnlyOn.normal ?_)
        go_wp2
        go_roundw
        case rel => exact ⟨k + 1, by omega, by go_num, hx2, hall2⟩
        case measure => simp [intOf]; omega
      · have hrk1 : Hid (rk = k) := by
          unfold Hid
          rw [hrk.out]
          refine rank_is hk hall.out (fun t h1 h2 => ?_)
          rcases Nat.lt_or_eq_of_le h1 with h3 | h3
          · intro h4
            have h5 := srt_nth hS'.out h3 h2
            exact hc (cmpT_trans h5 h4)
          · rw [← h3]; exact hc
        rw [show decide (cmpT ⟨(tth L k).key, (tth L k).no⟩ ⟨s, i⟩ < 0) = false from decide_eq_false hc] at hE
        clear hc hall hrk
        generalize tth L k = x at *
        go_upto_region 2 with fail
        have I0 : (fun w' : World => w'.cell? ⟨r, 0, none⟩ = some (.slice (some a1) L.length c1) ∧ w'.cell? ⟨r, 1, none⟩ = some (.slice (some a2) L.length c2) ∧ w'.cell? (a1.add k) = some (.string x.key) ∧ w'.cell? (a2.add k) = some (.int .i64 x.no)) wr.drew := ⟨z0, z1, y1, y2⟩
        have hx2 := hid (hx.out.drew_right)
        refine region_J (fun w' : World => w'.cell? ⟨r, 0, none⟩ = some (.slice (some a1) L.length c1) ∧ w'.cell? ⟨r, 1, none⟩ = some (.slice (some a2) L.length c2) ∧ w'.cell? (a1.add k) = some (.string x.key) ∧ w'.cell? (a2.add k) = some (.int .i64 x.no)) 26 (by kernel_rfl) ?_
        clear z0 z1 y1 y2 hx
        generalize wr.drew = w1 at *
        refine JO 0 (v := ?vb0) I0 ?yb0 ?rb0
        case yb0 => (intro w h; obtain ⟨_, _, _, _⟩ := h; go_simp; with_reducible rfl)
        simp only [Act.put, lyA, lyB, lyC, lyD, lyE, lyF]
        refine JO 1 (v := ?vb1) I0 ?yb1 ?rb1
        case yb1 => (intro w h; obtain ⟨_, _, _, _⟩ := h; go_simp; with_reducible rfl)
        simp only [Act.put, lyA, lyB, lyC, lyD, lyE, lyF]
        refine JO 2 (v := ?vb2) I0 ?yb2 ?rb2
        case yb2 => (intro w h; obtain ⟨_, _, _, _⟩ := h; go_simp; with_reducible rfl)
        simp only [Act.put, lyA, lyB, lyC, lyD, lyE, lyF]
        refine JO 3 (v := ?vb3) I0 ?yb3 ?rb3
        case yb3 => (intro w h; obtain ⟨_, _, _, _⟩ := h; go_simp; with_reducible rfl)
        simp only [Act.put, lyA, lyB, lyC, lyD, lyE, lyF]
        refine JO 4 (v := ?vb4) I0 ?yb4 ?rb4
        case yb4 => (intro w h; obtain ⟨_, _, _, _⟩ := h; go_simp; with_reducible rfl)
        simp only [Act.put, lyA, lyB, lyC, lyD, lyE, lyF]
        refine JO 5 (v := ?vb5) I0 ?yb5 ?rb5
        case yb5 => (intro w h; obtain ⟨_, _, _, _⟩ := h; go_simp; with_reducible rfl)
        simp only [Act.put, lyA, lyB, lyC, lyD, lyE, lyF]
        refine JO 6 (v := ?vb6) I0 ?yb6 ?rb6
        case yb6 => (intro w h; obtain ⟨_, _, _, _⟩ := h; go_simp; with_reducible rfl)
        simp only [Act.put, lyA, lyB, lyC, lyD, lyE, lyF]
        refine JO 7 (v := ?vb7) I0 ?yb7 ?rb7
        case yb7 => (intro w h; obtain ⟨_, _, _, _⟩ := h; go_simp; with_reducible rfl)
        simp only [Act.put, lyA, lyB, lyC, lyD, lyE, lyF]
        refine JO 8 (v := ?vb8) I0 ?yb8 ?rb8
        case yb8 => (intro w h; obtain ⟨_, _, _, _⟩ := h; go_simp; with_reducible rfl)
        simp only [Act.put, lyA, lyB, lyC, lyD, lyE, lyF]
        refine JO 9 (v := ?vb9) I0 ?yb9 ?rb9
        case yb9 => (intro w h; obtain ⟨_, _, _, _⟩ := h; go_simp; with_reducible rfl)
        simp only [Act.put, lyA, lyB, lyC, lyD, lyE, lyF]
        refine JO 10 (v := ?vb10) I0 ?yb10 ?rb10
        case yb10 => (intro w h; obtain ⟨_, _, _, _⟩ := h; go_simp; with_reducible rfl)
        simp only [Act.put, lyA, lyB, lyC, lyD, lyE, lyF]
        refine JO 11 (v := ?vb11) I0 ?yb11 ?rb11
        case yb11 => (intro w h; obtain ⟨_, _, _, _⟩ := h; go_simp; with_reducible rfl)
        simp only [Act.put, lyA, lyB, lyC, lyD, lyE, lyF]
        refine JO 12 (v := ?vb12) I0 ?yb12 ?rb12
        case yb12 => (intro w h; obtain ⟨_, _, _, _⟩ := h; go_simp; with_reducible rfl)
        simp only [Act.put, lyA, lyB, lyC, lyD, lyE, lyF]
        refine JO 13 (v := ?vb13) I0 ?yb13 ?rb13
        case yb13 => (intro w h; obtain ⟨_, _, _, _⟩ := h; go_simp; with_reducible rfl)
        simp only [Act.put, lyA, lyB, lyC, lyD, lyE, lyF]
        refine JO 14 (v := ?vb14) I0 ?yb14 ?rb14
        case yb14 => (intro w h; obtain ⟨_, _, _, _⟩ := h; go_simp; with_reducible rfl)
        simp only [Act.put, lyA, lyB, lyC, lyD, lyE, lyF]
        refine JO 15 (v := ?vb15) I0 ?yb15 ?rb15
        case yb15 => (intro w h; obtain ⟨_, _, _, _⟩ := h; go_simp; with_reducible rfl)
        simp only [Act.put, lyA, lyB, lyC, lyD, lyE, lyF]
        refine JO 16 (v := ?vb16) I0 ?yb16 ?rb16
        case yb16 => (intro w h; obtain ⟨_, _, _, _⟩ := h; go_simp; with_reducible rfl)
        simp only [Act.put, lyA, lyB, lyC, lyD, lyE, lyF]
        refine JO 17 (v := ?vb17) I0 ?yb17 ?rb17
        case yb17 => (intro w h; obtain ⟨_, _, _, _⟩ := h; go_simp; with_reducible rfl)
        simp only [Act.put, lyA, lyB, lyC, lyD, lyE, lyF]
        refine JO 18 (v := ?vb18) I0 ?yb18 ?rb18
        case yb18 => (intro w h; obtain ⟨_, _, _, _⟩ := h; go_simp; with_reducible rfl)
        simp only [Act.put, lyA, lyB, lyC, lyD, lyE, lyF]
        refine JO 19 (v := ?vb19) I0 ?yb19 ?rb19
        case yb19 => (intro w h; obtain ⟨_, _, _, _⟩ := h; go_simp; with_reducible rfl)
        simp only [Act.put, lyA, lyB, lyC, lyD, lyE, lyF]
        refine JO 20 (v := ?vb20) I0 ?yb20 ?rb20
        case yb20 => (intro w h; obtain ⟨_, _, _, _⟩ := h; go_simp; with_reducible rfl)
        simp only [Act.put, lyA, lyB, lyC, lyD, lyE, lyF]
        refine JO 21 (v := ?vb21) I0 ?yb21 ?rb21
        case yb21 => (intro w h; obtain ⟨_, _, _, _⟩ := h; go_simp; with_reducible rfl)
        simp only [Act.put, lyA, lyB, lyC, lyD, lyE, lyF]
        refine JO 22 (v := ?vb22) I0 ?yb22 ?rb22
        case yb22 => (intro w h; obtain ⟨_, _, _, _⟩ := h; go_simp; with_reducible rfl)
        simp only [Act.put, lyA, lyB, lyC, lyD, lyE, lyF]
        refine JO 23 (v := ?vb23) I0 ?yb23 ?rb23
        case yb23 => (intro w h; obtain ⟨_, _, _, _⟩ := h; go_simp; with_reducible rfl)
        simp only [Act.put, lyA, lyB, lyC, lyD, lyE, lyF]
        refine J_one 24 rfl (by kernel_rfl) (fun K hK => ?_)
        go_simp
        refine (hE.out _).mono ?_
        rintro e' w5 ⟨rfl, rfl⟩
        refine hK _ _ ⟨fun _ => I0, ?_⟩
        clear hK K
        try simp only [Act.put, lyA, lyB, lyC, lyD, lyE, lyF]
        refine J_one 25 rfl (by kernel_rfl) (fun K hK => ?_)
        go_simp
        refine hK _ _ ⟨fun _ => I0, ?_⟩
        clear hK K
        try simp only [Act.put, lyD, lyE, lyF]
        refine J_done (by kernel_rfl) (OnlyOn.normal ?_)
        go_wp2
        go_ret
        exact ⟨by rw [hrk1.out]; rfl, hx2.out⟩
    · obtain rfl : k = L.length := by omega
      have hrk1 : Hid (rk = L.length) := by
        unfold Hid
        rw [hrk.out]
        exact rank_is hk hall.out (fun t h1 h2 => by omega)
      replace z0 := hx.out.cell z0
      replace lr := Nat.lt_of_lt_of_le lr hx.out.size
      clear hall hrk z1
      go_upto_region 2 with fail
      have I0 : (fun w' : World => w'.cell? ⟨r, 0, none⟩ = some (.slice A1 L.length c1)) wr.drew := z0
      have hx2 := hid (hx.out.drew_right)
      refine region_J (fun w' : World => w'.cell? ⟨r, 0, none⟩ = some (.slice A1 L.length c1)) 26 (by kernel_rfl) ?_
      clear z0 hx
      generalize wr.drew = w1 at *
      refine JO 0 (v := ?vc0) I0 ?yc0 ?rc0
      case yc0 => (intro w h; have := h; go_simp; with_reducible rfl)
      simp only [Act.put, lyA, lyB, lyC, lyD, lyE, lyF]
      refine JO 1 (v := ?vc1) I0 ?yc1 ?rc1
      case yc1 => (intro w h; have := h; go_simp; with_reducible rfl)
      simp only [Act.put, lyA, lyB, lyC, lyD, lyE, lyF]
      refine JO 2 (v := ?vc2) I0 ?yc2 ?rc2
      case yc2 => (intro w h; have := h; go_simp; with_reducible rfl)
      simp only [Act.put, lyA, lyB, lyC, lyD, lyE, lyF]
      refine JO 3 (v := ?vc3) I0 ?yc3 ?rc3
      case yc3 => (intro w h; have := h; go_simp; with_reducible rfl)
      simp only [Act.put, lyA, lyB, lyC, lyD, lyE, lyF]
      refine JO 4 (v := ?vc4) I0 ?yc4 ?rc4
      case yc4 => (intro w h; have := h; go_simp; with_reducible rfl)
      simp only [Act.put, lyA, lyB, lyC, lyD, lyE, lyF]
      refine JO 5 (v := ?vc5) I0 ?yc5 ?rc5
      case yc5 => (intro w h; have := h; go_simp; with_reducible rfl)
      simp only [Act.put, lyA, lyB, lyC, lyD, lyE, lyF]
      refine JO 6 (v := ?vc6) I0 ?yc6 ?rc6
      case yc6 => (intro w h; have := h; go_simp; with_reducible rfl)
      simp only [Act.put, lyA, lyB, lyC, lyD, lyE, lyF]
      refine JO 7 (v := ?vc7) I0 ?yc7 ?rc7
      case yc7 => (intro w h; have := h; go_simp; with_reducible rfl)
      simp only [Act.put, lyA, lyB, lyC, lyD, lyE, lyF]
      refine J_takeO 8 rfl (by kernel_rfl) (by kernel_rfl) (by kernel_rfl) (by kernel_rfl) (fun _ _ _ h => h) (Or.inr ⟨by rfl, rfl⟩) I0 ?_
      simp only [Act.put, lyA, lyB, lyC, lyD, lyE, lyF]
      refine J_takeO 9 rfl (by kernel_rfl) (by kernel_rfl) (by kernel_rfl) (by kernel_rfl) (fun _ _ _ h => h) (Or.inr ⟨by rfl, rfl⟩) I0 ?_
      simp only [Act.put, lyA, lyB, lyC, lyD, lyE, lyF]
      refine J_takeO 10 rfl (by kernel_rfl) (by kernel_rfl) (by kernel_rfl) (by kernel_rfl) (fun _ _ _ h => h) (Or.inr ⟨by rfl, rfl⟩) I0 ?_
      simp only [Act.put, lyA, lyB, lyC, lyD, lyE, lyF]
      refine J_takeO 11 rfl (by kernel_rfl) (by kernel_rfl) (by kernel_rfl) (by kernel_rfl) (fun _ _ _ h => h) (Or.inr ⟨by rfl, rfl⟩) I0 ?_
      simp only [Act.put, lyA, lyB, lyC, lyD, lyE, lyF]
      refine J_takeO 12 rfl (by kernel_rfl) (by kernel_rfl) (by kernel_rfl) (by kernel_rfl) (fun _ _ _ h => h) (Or.inr ⟨by rfl, rfl⟩) I0 ?_
      simp only [Act.put, lyA, lyB, lyC, lyD, lyE, lyF]
      refine J_takeO 13 rfl (by kernel_rfl) (by kernel_rfl) (by kernel_rfl) (by kernel_rfl) (fun _ _ _ h => h) (Or.inr ⟨by rfl, rfl⟩) I0 ?_
      simp only [Act.put, lyA, lyB, lyC, lyD, lyE, lyF]
      refine J_takeO 14 rfl (by kernel_rfl) (by kernel_rfl) (by kernel_rfl) (by kernel_rfl) (fun _ _ _ h => h) (Or.inr ⟨by rfl, rfl⟩) I0 ?_
      simp only [Act.put, lyA, lyB, lyC, lyD, lyE, lyF]
      refine J_takeO 15 rfl (by kernel_rfl) (by kernel_rfl) (by kernel_rfl) (by kernel_rfl) (fun _ _ _ h => h) (Or.inr ⟨by rfl, rfl⟩) I0 ?_
      simp only [Act.put, lyA, lyB, lyC, lyD, lyE, lyF]
      refine J_takeO 16 rfl (by kernel_rfl) (by kernel_rfl) (by kernel_rfl) (by kernel_rfl) (fun _ _ _ h => h) (Or.inr ⟨by rfl, rfl⟩) I0 ?_
      simp only [Act.put, lyA, lyB, lyC, lyD, lyE, lyF]
      refine J_takeO 17 rfl (by kernel_rfl) (by kernel_rfl) (by kernel_rfl) (by kernel_rfl) (fun _ _ _ h => h) (Or.inr ⟨by rfl, rfl⟩) I0 ?_
      simp only [Act.put, lyA, lyB, lyC, lyD, lyE, lyF]
      refine J_takeO 18 rfl (by kernel_rfl) (by kernel_rfl) (by kernel_rfl) (by kernel_rfl) (fun _ _ _ h => h) (Or.inr ⟨by rfl, rfl⟩) I0 ?_
      simp only [Act.put, lyA, lyB, lyC, lyD, lyE, lyF]
      refine J_takeO 19 rfl (by kernel_rfl) (by kernel_rfl) (by kernel_rfl) (by kernel_rfl) (fun _ _ _ h => h) (Or.inr ⟨by rfl, rfl⟩) I0 ?_
      simp only [Act.put, lyA, lyB, lyC, lyD, lyE, lyF]
      refine J_takeO 20 rfl (by kernel_rfl) (by kernel_rfl) (by kernel_rfl) (by kernel_rfl) (fun _ _ _ h => h) (Or.inr ⟨by rfl, rfl⟩) I0 ?_
      simp only [Act.put, lyA, lyB, lyC, lyD, lyE, lyF]
      refine J_takeO 21 rfl (by kernel_rfl) (by kernel_rfl) (by kernel_rfl) (by kernel_rfl) (fun _ _ _ h => h) (Or.inr ⟨by rfl, rfl⟩) I0 ?_
      simp only [Act.put, lyA, lyB, lyC, lyD, lyE, lyF]
      refine J_takeO 22 rfl (by kernel_rfl) (by kernel_rfl) (by kernel_rfl) (by kernel_rfl) (fun _ _ _ h => h) (Or.inr ⟨by rfl, rfl⟩) I0 ?_
      simp only [Act.put, lyA, lyB, lyC, lyD, lyE, lyF]
      refine J_takeO 23 rfl (by kernel_rfl) (by kernel_rfl) (by kernel_rfl) (by kernel_rfl) (fun _ _ _ h => h) (Or.inr ⟨by rfl, rfl⟩) I0 ?_
      simp only [Act.put, lyA, lyB, lyC, lyD, lyE, lyF]
      refine J_takeO 24 rfl (by kernel_rfl) (by kernel_rfl) (by kernel_rfl) (by kernel_rfl) (fun _ _ _ h => h) (Or.inr ⟨by rfl, rfl⟩) I0 ?_
      simp only [Act.put, lyA, lyB, lyC, lyD, lyE, lyF]
      refine JO 25 (v := ?vc25) I0 ?yc25 ?rc25
      case yc25 => (intro w h; have := h; go_simp; with_reducible rfl)
      simp only [Act.put, lyA, lyB, lyC, lyD, lyE, lyF]
      refine J_done (by kernel_rfl) (OnlyOn.normal ?_)
      go_wp2
      go_ret
      exact ⟨by rw [hrk1.out]; rfl, hx2.out⟩
theorem rhas_any (r : Nat) (L : List Te) (s : ByteArray) (i : Int) (w : World) (h : RTr w r L) (hS : Srt L) (hl : L.length ≤ 10000) (b : Bool) (hb : Hid (b = memT L ⟨s, i⟩)) : Calls Tryz.prog 50 #[.pointer (some ⟨r, 0, none⟩), .string s, .int .i64 i] w (Give (.bool b) w) := by
  obtain ⟨A1, c1, A2, c2, z0, z1, lr, m1, m2, m3, m4, hat⟩ := h.at_
  replace hat := hid hat
  obtain ⟨k, hk⟩ : ∃ k, Hid (k = rankT L ⟨s, i⟩) := ⟨_, rfl⟩
  have hR := hid (rRank_any r L s i w h hS hl k hk)
  have hm := hid (mem_at hS ⟨s, i⟩)
  rw [← hk.out, ← hb.out] at hm
  clear hb h hS
  by_cases hlt : k < L.length
  · obtain ⟨a1, a2, rfl, rfl, y1, y2⟩ := hat.out k hlt
    have hki : (k : Int) < (L.length : Int) := by omega
    have hm1 : b = (cmpT (tth L k) ⟨s, i⟩ == 0) := by rw [hm.out, decide_eq_true hlt]; rfl
    by_cases hkey : (tth L k).key = s
    · by_cases hno : (tth L k).no = i
      · have hb1 : Hid (b = true) := by
          unfold Hid
          rw [hm1, ← hkey, ← hno]
          show (cmpT (tth L k) (tth L k) == 0) = true
          rw [cmpT_refl]
          rfl
        rw [hkey] at y1
        rw [hno] at y2
        clear hm hm1 hkey hno hat
        go_enter Tryz.func50, Tryz.ntmps50
        go_wp2_with fail
        refine hR.out.mono ?_
        rintro e w1 ⟨rfl, hx⟩
        replace z0 := hx.cell z0
        replace z1 := hx.cell z1
        replace y1 := hx.cell y1
        replace y2 := hx.cell y2
        have lr1 := Nat.lt_of_lt_of_le lr hx.size
        replace hx := hid hx
        go_wp2
        go_ret
        exact ⟨by rw [hb1.out]; rfl, hx.out⟩
      · have hb1 : Hid (b = false) := by
          unfold Hid
          rw [hm1, beq_eq_false_iff_ne]
          exact fun e => hno (by rw [cmpT_zero.1 e])
        have hnf : ((tth L k).no == i) = false := by rw [beq_eq_false_iff_ne]; exact hno
        rw [hkey] at y1
        generalize (tth L k).no = j at *
        clear hm hm1 hkey hno hat
        go_enter Tryz.func50, Tryz.ntmps50
        go_wp2_with fail
        refine hR.out.mono ?_
        rintro e w1 ⟨rfl, hx⟩
        replace z0 := hx.cell z0
        replace z1 := hx.cell z1
        replace y1 := hx.cell y1
        replace y2 := hx.cell y2
        have lr1 := Nat.lt_of_lt_of_le lr hx.size
        replace hx := hid hx
        go_wp2
        go_ret
        exact ⟨by rw [hb1.out]; rfl, hx.out⟩
    · have hb1 : Hid (b = false) := by
        unfold Hid
        rw [hm1, beq_eq_false_iff_ne]
        exact fun e => hkey (by rw [cmpT_zero.1 e])
      have hnf : ((tth L k).key.toList == s.toList) = false := by
        rw [beq_eq_false_iff_ne]
        intro e
        apply hkey
        rw [ByteArray.toList_eq, ByteArray.toList_eq] at e
        exact str_ext e
      generalize (tth L k).key = j at *
      clear hm hm1 hkey hat
      go_enter Tryz.func50, Tryz.ntmps50
      go_wp2_with fail
      refine hR.out.mono ?_
      rintro e w1 ⟨rfl, hx⟩
      replace z0 := hx.cell z0
      replace y1 := hx.cell y1
      have lr1 := Nat.lt_of_lt_of_le lr hx.size
      replace hx := hid hx
      go_wp2
      go_ret
      exact ⟨by rw [hb1.out]; rfl, hx.out⟩
  · have hb1 : Hid (b = false) := by
      unfold Hid
      rw [hm.out, decide_eq_false hlt]
      rfl
    have hki : ¬ (k : Int) < (L.length : Int) := by omega
    clear hm hat
    go_enter Tryz.func50, Tryz.ntmps50
    go_wp2_with fail
    refine hR.out.mono ?_
    rintro e w1 ⟨rfl, hx⟩
    replace z0 := hx.cell z0
    have lr1 := Nat.lt_of_lt_of_le lr hx.size
    replace hx := hid hx
    go_wp2
    go_ret
    exact ⟨by rw [hb1.out]; rfl, hx.out⟩
theorem rAt_any (r : Nat) (L : List Te) (i : Int) (w : World) (h : RTr w r L) (o : Option Te) (ho : Hid (o = atT L i)) : Calls Tryz.prog 24 #[.pointer (some ⟨r, 0, none⟩), .int .i64 i] w (Give (TV o) w) := by
  obtain ⟨A1, c1, A2, c2, z0, z1, lr, m1, m2, m3, m4, hat⟩ := h.at_
  replace hat := hid hat
  by_cases hi : i < 0
  · obtain rfl : o = none := by rw [ho.out]; unfold atT; rw [if_pos hi]
    clear hat
    simp only [TV]
    go_enter Tryz.func24, Tryz.ntmps24
    go_wp2
    go_ret3
    exact ⟨rfl, Ext.refl w⟩
  · by_cases hi2 : (L.length : Int) ≤ i
    · obtain rfl : o = none := by rw [ho.out]; unfold atT; rw [if_neg hi]; exact List.getElem?_eq_none (by omega)
      clear hat
      simp only [TV]
      go_enter Tryz.func24, Tryz.ntmps24
      go_wp2
      go_ret3
      exact ⟨rfl, Ext.refl w⟩
    · obtain ⟨k, rfl⟩ : ∃ k : Nat, i = k := ⟨i.toNat, by omega⟩
      have hk : k < L.length := by omega
      obtain ⟨a1, a2, rfl, rfl, y1, y2⟩ := hat.out k hk
      obtain rfl : o = some (tth L k) := by rw [ho.out, atT_nat, tth_get hk]; exact List.getElem?_eq_getElem hk
      have hki : (k : Int) < (L.length : Int) := by omega
      generalize tth L k = x at *
      clear hat ho h
      simp only [TV]
      go_enter Tryz.func24, Tryz.ntmps24
      go_upto_region 3 with fail
      go_quiet (fail)
      go_wp2
      go_ret3
      exact ⟨rfl, Ext.drewN _ _⟩
theorem rSeek_any (r : Nat) (L : List Te) (s : ByteArray) (w : World) (h : RTr w r L) (hl : L.length ≤ 10000) (o : Option Te) (ho : Hid (o = L[keyR L s]?)) : Calls Tryz.prog 27 #[.pointer (some ⟨r, 0, none⟩), .string s] w (Give (TV o) w) := by
  obtain ⟨A1, c1, A2, c2, z0, z1, lr, m1, m2, m3, m4, hat⟩ := h.at_
  replace hat := hid hat
  have hA := hid (fun w' (hx : Ext w w') (k : Nat) (hk : Hid (o = L[k]?)) => rAt_any r L (k : Int) w' (h.ext hx) o (by unfold Hid; rw [atT_nat]; exact hk.out))
  go_enter Tryz.func27, Tryz.ntmps27
  go_wp2_with fail
  go_loopw [7] (fun n wr => ∃ k : Nat, k ≤ L.length ∧ n = .int .i64 k ∧ Hid (Ext w wr) ∧ Hid (∀ t, t < k → cmpK (tth L t).key s < 0)) (fun n _ => L.length - (intOf n).toNat)
  case atStart => exact ⟨0, Nat.zero_le _, rfl, Ext.refl w, fun t h => absurd h (Nat.not_lt_zero _)⟩
  case round =>
    obtain ⟨k, hk, rfl, hx, hall⟩ := hrel
    by_cases hlt : k < L.length
    · have hless : Hid (Op.bytesLess (tth L k).key.toList s.toList = decide (cmpK (tth L k).key s < 0)) := by unfold Hid; rw [ByteArray.toList_eq, ByteArray.toList_eq]; exact less_cmp _ _
      obtain ⟨a1, a2, rfl, rfl, y1, y2⟩ := hat.out k hlt
      have hki : (k : Int) < (L.length : Int) := by omega
      replace z0 := hx.out.cell z0
      replace z1 := hx.out.cell z1
      replace y1 := hx.out.cell y1
      replace y2 := hx.out.cell y2
      replace lr := Nat.lt_of_lt_of_le lr hx.out.size
      by_cases hc : cmpK (tth L k).key s < 0
      · have hall2 : Hid (∀ t, t < k + 1 → cmpK (tth L t).key s < 0) := fun t ht => by
          rcases Nat.lt_or_eq_of_le (Nat.lt_succ_iff.1 ht) with h1 | h1
          · exact hall.out t h1
          · rw [h1]; exact hc
        have hb : Op.bytesLess (tth L k).key.toList s.toList = true := hless.out.trans (decide_eq_true hc)
        clear hc hall hless y2
        generalize tth L k = x at *
        go_wp2_with fail
        go_roundw
        case rel => exact ⟨k + 1, by omega, by go_num, hx, hall2⟩
        case measure => simp [intOf]; omega
      · have hok : Hid (o = L[k]?) := by
          unfold Hid
          rw [ho.out, keyR_is hk hall.out (fun _ => hc)]
        have hb : Op.bytesLess (tth L k).key.toList s.toList = false := hless.out.trans (decide_eq_false hc)
        have hC := hid (hA.out wr hx.out k hok)
        clear hc hall hless y2 ho hok hA
        generalize tth L k = x at *
        go_wp2_with fail
        refine hC.out.mono ?_
        rintro e w5 ⟨rfl, hx5⟩
        replace hx := hid (hx.out.trans hx5)
        cases o with
        | none =>
          simp only [TV]
          go_wp2
          go_ret3
          exact ⟨rfl, hx.out⟩
        | some y =>
          simp only [TV]
          go_wp2
          go_ret3
          exact ⟨rfl, hx.out⟩
    · obtain rfl : k = L.length := by omega
      obtain rfl : o = none := by rw [ho.out, keyR_is hk hall.out (fun h => absurd h (Nat.lt_irrefl _))]; exact List.getElem?_eq_none (Nat.le_refl _)
      replace z0 := hx.out.cell z0
      replace lr := Nat.lt_of_lt_of_le lr hx.out.size
      clear hall ho hA
      simp only [TV]
      go_wp2
      go_ret3
      exact ⟨rfl, hx.out⟩
theorem rNext_any (r : Nat) (L : List Te) (s : ByteArray) (i : Int) (w : World) (h : RTr w r L) (hS : Srt L) (hl : L.length ≤ 10000) (o : Option Te) (ho : Hid (o = L[nextR L ⟨s, i⟩]?)) : Calls Tryz.prog 29 #[.pointer (some ⟨r, 0, none⟩), .string s, .int .i64 i] w (Give (TV o) w) := by
  obtain ⟨A1, c1, A2, c2, z0, z1, lr, m1, m2, m3, m4, hat⟩ := h.at_
  replace hat := hid hat
  have hS' := hid hS
  have hA := hid (fun w' (hx : Ext w w') (k : Nat) (hk : Hid (o = L[k]?)) => rAt_any r L (k : Int) w' (h.ext hx) o (by unfold Hid; rw [atT_nat]; exact hk.out))
  go_enter Tryz.func29, Tryz.ntmps29
  go_wp2_with fail
  go_loopw [9] (fun n wr => ∃ k : Nat, k ≤ L.length ∧ n = .int .i64 k ∧ Hid (Ext w wr) ∧ Hid (∀ t, t < k → ¬ cmpT ⟨s, i⟩ (tth L t) < 0)) (fun n _ => L.length - (intOf n).toNat)
  case atStart => exact ⟨0, Nat.zero_le _, rfl, Ext.refl w, fun t h => absurd h (Nat.not_lt_zero _)⟩
  case round =>
    obtain ⟨k, hk, rfl, hx, hall⟩ := hrel
    by_cases hlt : k < L.length
    · have hE := hid (fun w' => rLess_any s (tth L k).key i (tth L k).no w')
      obtain ⟨a1, a2, rfl, rfl, y1, y2⟩ := hat.out k hlt
      have hki : (k : Int) < (L.length : Int) := by omega
      replace z0 := hx.out.cell z0
      replace z1 := hx.out.cell z1
      replace y1 := hx.out.cell y1
      replace y2 := hx.out.cell y2
      replace lr := Nat.lt_of_lt_of_le lr hx.out.size
      by_cases hc : cmpT ⟨s, i⟩ (tth L k) < 0
      · have hok : Hid (o = L[k]?) := by
          unfold Hid
          rw [ho.out, nextR_is hS'.out hk hall.out (fun _ => hc)]
        rw [show decide (cmpT ⟨s, i⟩ ⟨(tth L k).key, (tth L k).no⟩ < 0) = true from decide_eq_true hc] at hE
        have hC := hid (fun w' hx => hA.out w' hx k hok)
        clear hc hall ho hok hA
        generalize tth L k = x at *
        go_upto_region 4 with fail
        have I0 : (fun w' : World => w'.cell? ⟨r, 0, none⟩ = some (.slice (some a1) L.length c1) ∧ w'.cell? ⟨r, 1, none⟩ = some (.slice (some a2) L.length c2) ∧ w'.cell? (a1.add k) = some (.string x.key) ∧ w'.cell? (a2.add k) = some (.int .i64 x.no)) wr.drew := ⟨z0, z1, y1, y2⟩
        have hx2 := hid (hx.out.drew_right)
        refine region_J (fun w' : World => w'.cell? ⟨r, 0, none⟩ = some (.slice (some a1) L.length c1) ∧ w'.cell? ⟨r, 1, none⟩ = some (.slice (some a2) L.length c2) ∧ w'.cell? (a1.add k) = some (.string x.key) ∧ w'.cell? (a2.add k) = some (.int .i64 x.no)) 17 (by kernel_rfl) ?_
        clear z0 z1 y1 y2 hx
        generalize hw1 : wr.drew = w1 at *
        replace hw1 := hid hw1
        refine JO 0 (v := ?va0) I0 ?ya0 ?ra0
        case ya0 => (intro w h; obtain ⟨_, _, _, _⟩ := h; go_simp; with_reducible rfl)
        simp only [Act.put, lyA, lyB, lyC, lyD, lyE, lyF]
        refine JO 1 (v := ?va1) I0 ?ya1 ?ra1
        case ya1 => (intro w h; obtain ⟨_, _, _, _⟩ := h; go_simp; with_reducible rfl)
        simp only [Act.put, lyA, lyB, lyC, lyD, lyE, lyF]
        refine JO 2 (v := ?va2) I0 ?ya2 ?ra2
        case ya2 => (intro w h; obtain ⟨_, _, _, _⟩ := h; go_simp; with_reducible rfl)
        simp only [Act.put, lyA, lyB, lyC, lyD, lyE, lyF]
        refine JO 3 (v := ?va3) I0 ?ya3 ?ra3
        case ya3 => (intro w h; obtain ⟨_, _, _, _⟩ := h; go_simp; with_reducible rfl)
        simp only [Act.put, lyA, lyB, lyC, lyD, lyE, lyF]
        refine JO 4 (v := ?va4) I0 ?ya4 ?ra4
        case ya4 => (intro w h; obtain ⟨_, _, _, _⟩ := h; go_simp; with_reducible rfl)
        simp only [Act.put, lyA, lyB, lyC, lyD, lyE, lyF]
        refine JO 5 (v := ?va5) I0 ?ya5 ?ra5
        case ya5 => (intro w h; obtain ⟨_, _, _, _⟩ := h; go_simp; with_reducible rfl)
        simp only [Act.put, lyA, lyB, lyC, lyD, lyE, lyF]
        refine JO 6 (v := ?va6) I0 ?ya6 ?ra6
        case ya6 => (intro w h; obtain ⟨_, _, _, _⟩ := h; go_simp; with_reducible rfl)
        simp only [Act.put, lyA, lyB, lyC, lyD, lyE, lyF]
        refine JO 7 (v := ?va7) I0 ?ya7 ?ra7
        case ya7 => (intro w h; obtain ⟨_, _, _, _⟩ := h; go_simp; with_reducible rfl)
        simp only [Act.put, lyA, lyB, lyC, lyD, lyE, lyF]
        refine JO 8 (v := ?va8) I0 ?ya8 ?ra8
        case ya8 => (intro w h; obtain ⟨_, _, _, _⟩ := h; go_simp; with_reducible rfl)
        simp only [Act.put, lyA, lyB, lyC, lyD, lyE, lyF]
        refine JO 9 (v := ?va9) I0 ?ya9 ?ra9
        case ya9 => (intro w h; obtain ⟨_, _, _, _⟩ := h; go_simp; with_reducible rfl)
        simp only [Act.put, lyA, lyB, lyC, lyD, lyE, lyF]
        refine JO 10 (v := ?va10) I0 ?ya10 ?ra10
        case ya10 => (intro w h; obtain ⟨_, _, _, _⟩ := h; go_simp; with_reducible rfl)
        simp only [Act.put, lyA, lyB, lyC, lyD, lyE, lyF]
        refine JO 11 (v := ?va11) I0 ?ya11 ?ra11
        case ya11 => (intro w h; obtain ⟨_, _, _, _⟩ := h; go_simp; with_reducible rfl)
        simp only [Act.put, lyA, lyB, lyC, lyD, lyE, lyF]
        refine JO 12 (v := ?va12) I0 ?ya12 ?ra12
        case ya12 => (intro w h; obtain ⟨_, _, _, _⟩ := h; go_simp; with_reducible rfl)
        simp only [Act.put, lyA, lyB, lyC, lyD, lyE, lyF]
        refine JO 13 (v := ?va13) I0 ?ya13 ?ra13
        case ya13 => (intro w h; obtain ⟨_, _, _, _⟩ := h; go_simp; with_reducible rfl)
        simp only [Act.put, lyA, lyB, lyC, lyD, lyE, lyF]
        refine JO 14 (v := ?va14) I0 ?ya14 ?ra14
        case ya14 => (intro w h; obtain ⟨_, _, _, _⟩ := h; go_simp; with_reducible rfl)
        simp only [Act.put, lyA, lyB, lyC, lyD, lyE, lyF]
        refine JO 15 (v := ?va15) I0 ?ya15 ?ra15
        case ya15 => (intro w h; obtain ⟨_, _, _, _⟩ := h; go_simp; with_reducible rfl)
        simp only [Act.put, lyA, lyB, lyC, lyD, lyE, lyF]
        refine J_one 16 rfl (by kernel_rfl) (fun K hK => ?_)
        go_simp
        refine (hE.out _).mono ?_
        rintro e' w5 ⟨rfl, rfl⟩
        refine hK _ _ ⟨fun _ => I0, ?_⟩
        clear hK K
        try simp only [Act.put, lyA, lyB, lyC, lyD, lyE, lyF]
        refine J_done (by kernel_rfl) (OnlyOn.normal ?_)
        clear I0
        go_wp2_with fail
        refine (hC.out _ hx2.out).mono ?_
        rintro e w5 ⟨rfl, hx5⟩
        replace hx2 := hid (hx2.out.trans hx5)
        cases o with
        | none =>
          simp only [TV]
          go_wp2
          go_ret3
          exact ⟨rfl, hx2.out⟩
        | some y =>
          simp only [TV]
          go_wp2
          go_ret3
          exact ⟨rfl, hx2.out⟩
      · have hall2 : Hid (∀ t, t < k + 1 → ¬ cmpT ⟨s, i⟩ (tth L t) < 0) := fun t ht => by
          rcases Nat.lt_or_eq_of_le (Nat.lt_succ_iff.1 ht) with h1 | h1
          · exact hall.out t h1
          · rw [h1]; exact hc
        rw [show decide (cmpT ⟨s, i⟩ ⟨(tth L k).key, (tth L k).no⟩ < 0) = false from decide_eq_false hc] at hE
        clear hc hall
        generalize tth L k = x at *
        go_upto_region 4 with fail
        have I0 : (fun w' : World => w'.cell? ⟨r, 0, none⟩ = some (.slice (some a1) L.length c1) ∧ w'.cell? ⟨r, 1, none⟩ = some (.slice (some a2) L.length c2) ∧ w'.cell? (a1.add k) = some (.string x.key) ∧ w'.cell? (a2.add k) = some (.int .i64 x.no)) wr.drew := ⟨z0, z1, y1, y2⟩
        have hx2 := hid (hx.out.drew_right)
        refine region_J (fun w' : World => w'.cell? ⟨r, 0, none⟩ = some (.slice (some a1) L.length c1) ∧ w'.cell? ⟨r, 1, none⟩ = some (.slice (some a2) L.length c2) ∧ w'.cell? (a1.add k) = some (.string x.key) ∧ w'.cell? (a2.add k) = some (.int .i64 x.no)) 17 (by kernel_rfl) ?_
        clear z0 z1 y1 y2 hx
        generalize hw1 : wr.drew = w1 at *
        replace hw1 := hid hw1
        refine JO 0 (v := ?vb0) I0 ?yb0 ?rb0
        case yb0 => (intro w h; obtain ⟨_, _, _, _⟩ := h; go_simp; with_reducible rfl)
        simp only [Act.put, lyA, lyB, lyC, lyD, lyE, lyF]
        refine JO 1 (v := ?vb1) I0 ?yb1 ?rb1
        case yb1 => (intro w h; obtain ⟨_, _, _, _⟩ := h; go_simp; with_reducible rfl)
        simp only [Act.put, lyA, lyB, lyC, lyD, lyE, lyF]
        refine JO 2 (v := ?vb2) I0 ?yb2 ?rb2
        case yb2 => (intro w h; obtain ⟨_, _, _, _⟩ := h; go_simp; with_reducible rfl)
        simp only [Act.put, lyA, lyB, lyC, lyD, lyE, lyF]
        refine JO 3 (v := ?vb3) I0 ?yb3 ?rb3
        case yb3 => (intro w h; obtain ⟨_, _, _, _⟩ := h; go_simp; with_reducible rfl)
        simp only [Act.put, lyA, lyB, lyC, lyD, lyE, lyF]
        refine JO 4 (v := ?vb4) I0 ?yb4 ?rb4
        case yb4 => (intro w h; obtain ⟨_, _, _, _⟩ := h; go_simp; with_reducible rfl)
        simp only [Act.put, lyA, lyB, lyC, lyD, lyE, lyF]
        refine JO 5 (v := ?vb5) I0 ?yb5 ?rb5
        case yb5 => (intro w h; obtain ⟨_, _, _, _⟩ := h; go_simp; with_reducible rfl)
        simp only [Act.put, lyA, lyB, lyC, lyD, lyE, lyF]
        refine JO 6 (v := ?vb6) I0 ?yb6 ?rb6
        case yb6 => (intro w h; obtain ⟨_, _, _, _⟩ := h; go_simp; with_reducible rfl)
        simp only [Act.put, lyA, lyB, lyC, lyD, lyE, lyF]
        refine JO 7 (v := ?vb7) I0 ?yb7 ?rb7
        case yb7 => (intro w h; obtain ⟨_, _, _, _⟩ := h; go_simp; with_reducible rfl)
        simp only [Act.put, lyA, lyB, lyC, lyD, lyE, lyF]
        refine JO 8 (v := ?vb8) I0 ?yb8 ?rb8
        case yb8 => (intro w h; obtain ⟨_, _, _, _⟩ := h; go_simp; with_reducible rfl)
        simp only [Act.put, lyA, lyB, lyC, lyD, lyE, lyF]
        refine JO 9 (v := ?vb9) I0 ?yb9 ?rb9
        case yb9 => (intro w h; obtain ⟨_, _, _, _⟩ := h; go_simp; with_reducible rfl)
        simp only [Act.put, lyA, lyB, lyC, lyD, lyE, lyF]
        refine JO 10 (v := ?vb10) I0 ?yb10 ?rb10
        case yb10 => (intro w h; obtain ⟨_, _, _, _⟩ := h; go_simp; with_reducible rfl)
        simp only [Act.put, lyA, lyB, lyC, lyD, lyE, lyF]
        refine JO 11 (v := ?vb11) I0 ?yb11 ?rb11
        case yb11 => (intro w h; obtain ⟨_, _, _, _⟩ := h; go_simp; with_reducible rfl)
        simp only [Act.put, lyA, lyB, lyC, lyD, lyE, lyF]
        refine JO 12 (v := ?vb12) I0 ?yb12 ?rb12
        case yb12 => (intro w h; obtain ⟨_, _, _, _⟩ := h; go_simp; with_reducible rfl)
        simp only [Act.put, lyA, lyB, lyC, lyD, lyE, lyF]
        refine JO 13 (v := ?vb13) I0 ?yb13 ?rb13
        case yb13 => (intro w h; obtain ⟨_, _, _, _⟩ := h; go_simp; with_reducible rfl)
        simp only [Act.put, lyA, lyB, lyC, lyD, lyE, lyF]
        refine JO 14 (v := ?vb14) I0 ?yb14 ?rb14
        case yb14 => (intro w h; obtain ⟨_, _, _, _⟩ := h; go_simp; with_reducible rfl)
        simp only [Act.put, lyA, lyB, lyC, lyD, lyE, lyF]
        refine JO 15 (v := ?vb15) I0 ?yb15 ?rb15
        case yb15 => (intro w h; obtain ⟨_, _, _, _⟩ := h; go_simp; with_reducible rfl)
        simp only [Act.put, lyA, lyB, lyC, lyD, lyE, lyF]
        refine J_one 16 rfl (by kernel_rfl) (fun K hK => ?_)
        go_simp
        refine (hE.out _).mono ?_
        rintro e' w5 ⟨rfl, rfl⟩
        refine hK _ _ ⟨fun _ => I0, ?_⟩
        clear hK K
        try simp only [Act.put, lyA, lyB, lyC, lyD, lyE, lyF]
        refine J_done (by kernel_rfl) (OnlyOn.normal ?_)
        go_wp2_with fail
        go_roundw
        case rel => exact ⟨k + 1, by omega, by go_num, hx2, hall2⟩
        case measure => simp [intOf]; omega
    · obtain rfl : k = L.length := by omega
      obtain rfl : o = none := by rw [ho.out, nextR_is hS'.out hk hall.out (fun h => absurd h (Nat.lt_irrefl _))]; exact List.getElem?_eq_none (Nat.le_refl _)
      replace z0 := hx.out.cell z0
      replace lr := Nat.lt_of_lt_of_le lr hx.out.size
      clear hall ho hA
      simp only [TV]
      go_wp2
      go_ret3
      exact ⟨rfl, hx.out⟩
theorem rPrev_any (r : Nat) (L : List Te) (s : ByteArray) (i : Int) (w : World) (h : RTr w r L) (hS : Srt L) (hl : L.length ≤ 10000) (o : Option Te) (ho : Hid (o = atT L ((rankT L ⟨s, i⟩ : Nat) - 1 : Int))) : Calls Tryz.prog 31 #[.pointer (some ⟨r, 0, none⟩), .string s, .int .i64 i] w (Give (TV o) w) := by
  obtain ⟨k, hk⟩ : ∃ k, Hid (k = rankT L ⟨s, i⟩) := ⟨_, rfl⟩
  have hR := hid (rRank_any r L s i w h hS hl k hk)
  have hk1 : k ≤ 10000 := by have := (rank_cut hS ⟨s, i⟩).1; have := hk.out; omega
  rw [← hk.out] at ho
  have hA := hid (fun w' (hx : Ext w w') => rAt_any r L ((k : Int) - 1) w' (h.ext hx) o ho)
  have hw1 : IntKind.i64.wrap ((k : Int) - 1) = (k : Int) - 1 := IntWalk.i64_in _ (by omega)
  clear ho h hS
  go_enter Tryz.func31, Tryz.ntmps31
  go_wp2_with fail
  refine hR.out.mono ?_
  rintro e w1 ⟨rfl, hx⟩
  replace hx := hid hx
  go_wp2_with fail
  refine (hA.out w1 hx.out).mono ?_
  rintro e w5 ⟨rfl, hx5⟩
  replace hx := hid (hx.out.trans hx5)
  cases o with
  | none =>
    simp only [TV]
    go_wp2
    go_ret3
    exact ⟨rfl, hx.out⟩
  | some y =>
    simp only [TV]
    go_wp2
    go_ret3
    exact ⟨rfl, hx.out⟩
end Go.Proofs.YtpijfiaecicpfaaGreat
