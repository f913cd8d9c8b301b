/-
  Taking an entry out, plainly: nodes that join, that lend; the last entry; the entry itself. No program in sight.
-/
import Derived.Test.YtpijfiaecicpfaaBt
import Derived.Test.YtpijfiaecicpfaaB2
namespace Go.Proofs.Ytpijfiaecicpfaa
set_option linter.unusedVariables false
set_option linter.unusedSimpArgs false
def kth (ks : List BT) (i : Nat) : BT := ks.getD i (.nd [] [])
theorem kth_get {ks : List BT} {i : Nat} (h : i < ks.length) : kth ks i = ks[i] := by simp [kth, List.getD, h]
def joinT (l : List Te) (ks : List BT) (i : Nat) : BT :=
  .nd (l.take i ++ l.drop (i + 1)) (ks.take i ++ .nd ((kth ks i).l ++ tth l i :: (kth ks (i + 1)).l) ((kth ks i).ks ++ (kth ks (i + 1)).ks) :: ks.drop (i + 2))
def leftT (l : List Te) (ks : List BT) (i : Nat) : BT :=
  .nd (l.take i ++ tth (kth ks i).l ((kth ks i).l.length - 1) :: l.drop (i + 1))
    (ks.take i ++ .nd ((kth ks i).l.take ((kth ks i).l.length - 1)) ((kth ks i).ks.take ((kth ks i).ks.length - 1)) :: .nd (tth l i :: (kth ks (i + 1)).l) ((kth ks i).ks.drop ((kth ks i).ks.length - 1) ++ (kth ks (i + 1)).ks) :: ks.drop (i + 2))
def rightT (l : List Te) (ks : List BT) (i : Nat) : BT :=
  .nd (l.take i ++ tth (kth ks (i + 1)).l 0 :: l.drop (i + 1))
    (ks.take i ++ .nd ((kth ks i).l ++ [tth l i]) ((kth ks i).ks ++ (kth ks (i + 1)).ks.take 1) :: .nd ((kth ks (i + 1)).l.drop 1) ((kth ks (i + 1)).ks.drop 1) :: ks.drop (i + 2))
def fillT (l : List Te) (ks : List BT) (i : Nat) : BT :=
  if 2 ≤ (kth ks i).l.length then .nd l ks else if 0 < i ∧ 2 < (kth ks (i - 1)).l.length then leftT l ks (i - 1)
  else if i < l.length ∧ 2 < (kth ks (i + 1)).l.length then rightT l ks i else if 0 < i then joinT l ks (i - 1) else joinT l ks i
theorem tlW_join {x : Te} {rl : List Te} {r : List Te} {rs : List (List Te)} : ∀ {ll : List Te} {ms : List (List Te)}, ms.length = ll.length → tlW (ll ++ x :: rl) (ms ++ r :: rs) = tlW ll ms ++ x :: wv rl (r :: rs)
  | [], [], _ => rfl
  | y :: ll, m :: ms, h => by
    have ih := tlW_join (x := x) (rl := rl) (r := r) (rs := rs) (ll := ll) (ms := ms) (by simpa using h)
    show y :: (m ++ tlW (ll ++ x :: rl) (ms ++ r :: rs)) = (y :: (m ++ tlW ll ms)) ++ x :: wv rl (r :: rs)
    rw [ih]
    simp
theorem wv_join {x : Te} {ll rl : List Te} {lm rm : List (List Te)} (h : lm.length = ll.length + 1) (hr : rm.length = rl.length + 1) : wv (ll ++ x :: rl) (lm ++ rm) = wv ll lm ++ x :: wv rl rm := by
  match lm, rm, h, hr with
  | m :: ms, r :: rs, h, hr =>
    show m ++ tlW (ll ++ x :: rl) (ms ++ r :: rs) = (m ++ tlW ll ms) ++ x :: wv rl (r :: rs)
    rw [tlW_join (by simpa using h)]
    simp
/-- Two nodes and the entry between them, as one. -/
theorem joinK {x : Te} : ∀ {h : Nat} {ll rl : List Te} {lk rk : List BT}, Shp h (.nd ll lk) → Shp h (.nd rl rk) → Shp h (.nd (ll ++ x :: rl) (lk ++ rk)) ∧ flat h (.nd (ll ++ x :: rl) (lk ++ rk)) = flat h (.nd ll lk) ++ x :: flat h (.nd rl rk)
  | 0, ll, rl, lk, rk, h1, h2 => by
    obtain rfl : lk = [] := h1
    obtain rfl : rk = [] := h2
    exact ⟨rfl, rfl⟩
  | h + 1, ll, rl, lk, rk, h1, h2 => by
    refine ⟨⟨?_, fun k hk => ?_⟩, ?_⟩
    · have a := h1.1
      have b := h2.1
      simp only [List.length_append, List.length_cons]
      omega
    · rcases List.mem_append.1 hk with hk | hk
      · exact h1.2 k hk
      · exact h2.2 k hk
    · show wv (ll ++ x :: rl) ((lk ++ rk).map (flat h)) = wv ll (lk.map (flat h)) ++ x :: wv rl (rk.map (flat h))
      rw [List.map_append]
      exact wv_join (by rw [List.length_map]; exact h1.1) (by rw [List.length_map]; exact h2.1)
theorem leaf_none {l : List Te} {ks : List BT} (h : Shp 0 (.nd l ks)) : ks = [] := h
/-- The last entry with the last kid stands apart. -/
theorem cutLast : ∀ {h : Nat} {ll : List Te} {lk : List BT}, Shp h (.nd ll lk) → 1 ≤ ll.length → Shp h (.nd (ll.take (ll.length - 1)) (lk.take (lk.length - 1))) ∧ Shp h (.nd [] (lk.drop (lk.length - 1))) ∧ ll = ll.take (ll.length - 1) ++ tth ll (ll.length - 1) :: [] ∧ lk = lk.take (lk.length - 1) ++ lk.drop (lk.length - 1)
  | h, ll, lk, hs, h1 => by
    have e1 : ll = ll.take (ll.length - 1) ++ tth ll (ll.length - 1) :: [] := by
      have e := list_cut (l := ll) (i := ll.length - 1) (by omega)
      rw [show ll.length - 1 + 1 = ll.length by omega, List.drop_length] at e
      rw [tth_get (by omega)]
      exact e
    refine ⟨?_, ?_, e1, (List.take_append_drop _ _).symm⟩
    · cases h with
      | zero => obtain rfl : lk = [] := hs; rfl
      | succ h =>
        have a := hs.1
        exact ⟨by rw [List.length_take, List.length_take]; omega, fun k hk => hs.2 k (List.mem_of_mem_take hk)⟩
    · cases h with
      | zero => obtain rfl : lk = [] := hs; rfl
      | succ h =>
        have a := hs.1
        exact ⟨by rw [List.length_drop, List.length_nil]; omega, fun k hk => hs.2 k (List.mem_of_mem_drop hk)⟩
theorem cutFirst : ∀ {h : Nat} {ll : List Te} {lk : List BT}, Shp h (.nd ll lk) → 1 ≤ ll.length → Shp h (.nd (ll.drop 1) (lk.drop 1)) ∧ Shp h (.nd [] (lk.take 1)) ∧ ll = [] ++ tth ll 0 :: ll.drop 1 ∧ lk = lk.take 1 ++ lk.drop 1
  | h, ll, lk, hs, h1 => by
    have e1 : ll = [] ++ tth ll 0 :: ll.drop 1 := by
      have e := list_cut (l := ll) (i := 0) (by omega)
      rw [tth_get (by omega)]
      exact e
    refine ⟨?_, ?_, e1, (List.take_append_drop _ _).symm⟩
    · cases h with
      | zero => obtain rfl : lk = [] := hs; rfl
      | succ h =>
        have a := hs.1
        exact ⟨by rw [List.length_drop, List.length_drop]; omega, fun k hk => hs.2 k (List.mem_of_mem_drop hk)⟩
    · cases h with
      | zero => obtain rfl : lk = [] := hs; rfl
      | succ h =>
        have a := hs.1
        exact ⟨by rw [List.length_take, List.length_nil]; omega, fun k hk => hs.2 k (List.mem_of_mem_take hk)⟩
theorem leftK {x : Te} {h : Nat} {ll kl : List Te} {lk kk : List BT} (h1 : Shp h (.nd ll lk)) (h2 : Shp h (.nd kl kk)) (hn : 1 ≤ ll.length) :
    Shp h (.nd (ll.take (ll.length - 1)) (lk.take (lk.length - 1))) ∧ Shp h (.nd (x :: kl) (lk.drop (lk.length - 1) ++ kk)) ∧
    flat h (.nd (ll.take (ll.length - 1)) (lk.take (lk.length - 1))) ++ tth ll (ll.length - 1) :: flat h (.nd (x :: kl) (lk.drop (lk.length - 1) ++ kk)) = flat h (.nd ll lk) ++ x :: flat h (.nd kl kk) := by
  obtain ⟨a, b, e1, e2⟩ := cutLast h1 hn
  have j1 := joinK (x := tth ll (ll.length - 1)) a b
  have j2 := joinK (x := x) b h2
  rw [← e1, ← e2] at j1
  refine ⟨a, j2.1, ?_⟩
  rw [j1.2, show (x :: kl) = [] ++ x :: kl from rfl, j2.2]
  simp
theorem rightK {x : Te} {h : Nat} {ll rl : List Te} {lk rk : List BT} (h1 : Shp h (.nd ll lk)) (h2 : Shp h (.nd rl rk)) (hn : 1 ≤ rl.length) :
    Shp h (.nd (ll ++ [x]) (lk ++ rk.take 1)) ∧ Shp h (.nd (rl.drop 1) (rk.drop 1)) ∧
    flat h (.nd (ll ++ [x]) (lk ++ rk.take 1)) ++ tth rl 0 :: flat h (.nd (rl.drop 1) (rk.drop 1)) = flat h (.nd ll lk) ++ x :: flat h (.nd rl rk) := by
  obtain ⟨a, b, e1, e2⟩ := cutFirst h2 hn
  have j1 := joinK (x := tth rl 0) b a
  have j2 := joinK (x := x) h1 b
  rw [← e1, ← e2] at j1
  refine ⟨j2.1, a, ?_⟩
  rw [j1.2, j2.2]
  simp
/-! ### Inside a node -/
theorem one_flat {h : Nat} {a b : List Te} {p q : List BT} {J : BT} (hl : a.length = p.length) : flat (h + 1) (.nd (a ++ b) (p ++ J :: q)) = wvp a (p.map (flat h)) ++ (flat h J ++ tlW b (q.map (flat h))) := by
  show wv (a ++ b) ((p ++ J :: q).map (flat h)) = _
  rw [List.map_append, List.map_cons]
  exact wv_app (by rw [List.length_map]; exact hl)
theorem pair_flat {h : Nat} {a b : List Te} {p q : List BT} {x : Te} {L K : BT} (hl : a.length = p.length) : flat (h + 1) (.nd (a ++ x :: b) (p ++ L :: K :: q)) = wvp a (p.map (flat h)) ++ ((flat h L ++ x :: flat h K) ++ tlW b (q.map (flat h))) := by
  rw [one_flat hl]
  show wvp a (p.map (flat h)) ++ (flat h L ++ (x :: (flat h K ++ tlW b (q.map (flat h))))) = _
  simp
theorem nd_eta (K : BT) : BT.nd K.l K.ks = K := by cases K; rfl
/-- A node whose kids are right but for one, which may have an entry too few. -/
structure Near (h : Nat) (l : List Te) (ks : List BT) (i : Nat) : Prop where
  len : ks.length = l.length + 1
  le : i ≤ l.length
  n1 : 1 ≤ l.length
  rest : ∀ j, j < ks.length → j ≠ i → 2 ≤ (kth ks j).l.length ∧ (kth ks j).l.length ≤ 4 ∧ Shp h (kth ks j)
  it : 1 ≤ (kth ks i).l.length ∧ (kth ks i).l.length ≤ 4 ∧ Shp h (kth ks i)
theorem pair_cut {l : List Te} {ks : List BT} {i : Nat} (hlen : ks.length = l.length + 1) (hi : i < l.length) : l = l.take i ++ tth l i :: l.drop (i + 1) ∧ ks = ks.take i ++ kth ks i :: kth ks (i + 1) :: ks.drop (i + 2) ∧ (l.take i).length = (ks.take i).length := by
  refine ⟨?_, ?_, by rw [List.length_take, List.length_take]; omega⟩
  · rw [tth_get hi]
    exact list_cut hi
  · have e1 := list_cut (l := ks) (i := i) (by omega)
    have e2 : ks.drop (i + 1) = ks[i + 1]'(by omega) :: ks.drop (i + 2) := List.drop_eq_getElem_cons (by omega)
    rw [e2] at e1
    rw [kth_get (by omega), kth_get (by omega)]
    exact e1
theorem Near.out {h : Nat} {l : List Te} {ks : List BT} {i j : Nat} (H : Near h l ks i) (hj : i = j ∨ i = j + 1) : ∀ K, (K ∈ ks.take j ∨ K ∈ ks.drop (j + 2)) → 2 ≤ K.l.length ∧ K.l.length ≤ 4 ∧ Shp h K := by
  intro K hK
  rcases hK with hK | hK
  · obtain ⟨q, hq, rfl⟩ := List.getElem_of_mem hK
    rw [List.length_take] at hq
    rw [List.getElem_take]
    have := H.rest q (by omega) (by omega)
    rwa [kth_get (by omega)] at this
  · obtain ⟨q, hq, rfl⟩ := List.getElem_of_mem hK
    rw [List.length_drop] at hq
    rw [List.getElem_drop]
    have := H.rest (j + 2 + q) (by omega) (by omega)
    rwa [kth_get (by omega)] at this
/-- What is asked of a node that has been filled. -/
def Filled (h : Nat) (l : List Te) (ks : List BT) (T : BT) : Prop := Shp (h + 1) T ∧ flat (h + 1) T = flat (h + 1) (.nd l ks) ∧ l.length ≤ T.l.length + 1 ∧ T.l.length ≤ l.length
section
variable {h : Nat} {l : List Te} {ks : List BT} {i j : Nat}
theorem two_ok {L' K' : BT} {x' : Te} (H : Near h l ks i) (hj : j < l.length) (hij : i = j ∨ i = j + 1) (hL : 2 ≤ L'.l.length ∧ L'.l.length ≤ 4 ∧ Shp h L') (hK : 2 ≤ K'.l.length ∧ K'.l.length ≤ 4 ∧ Shp h K')
    (hf : flat h L' ++ x' :: flat h K' = flat h (kth ks j) ++ tth l j :: flat h (kth ks (j + 1))) : Filled h l ks (.nd (l.take j ++ x' :: l.drop (j + 1)) (ks.take j ++ L' :: K' :: ks.drop (j + 2))) := by
  obtain ⟨e1, e2, e3⟩ := pair_cut H.len hj
  have hlen := H.len
  have ho := H.out hij
  refine ⟨⟨?_, fun k hk => ?_⟩, ?_, ?_, ?_⟩
  · simp only [List.length_append, List.length_cons, List.length_take, List.length_drop]
    omega
  · rcases List.mem_append.1 hk with hk | hk
    · exact ho k (.inl hk)
    · rcases List.mem_cons.1 hk with rfl | hk
      · exact hL
      · rcases List.mem_cons.1 hk with rfl | hk
        · exact hK
        · exact ho k (.inr hk)
  · rw [pair_flat e3, hf, ← pair_flat e3, ← e1, ← e2]
  · show l.length ≤ (l.take j ++ x' :: l.drop (j + 1)).length + 1
    simp only [List.length_append, List.length_cons, List.length_take, List.length_drop]
    omega
  · show (l.take j ++ x' :: l.drop (j + 1)).length ≤ l.length
    simp only [List.length_append, List.length_cons, List.length_take, List.length_drop]
    omega
theorem one_ok {J : BT} (H : Near h l ks i) (hj : j < l.length) (hij : i = j ∨ i = j + 1) (hJ : 2 ≤ J.l.length ∧ J.l.length ≤ 4 ∧ Shp h J) (hf : flat h J = flat h (kth ks j) ++ tth l j :: flat h (kth ks (j + 1))) :
    Filled h l ks (.nd (l.take j ++ l.drop (j + 1)) (ks.take j ++ J :: ks.drop (j + 2))) := by
  obtain ⟨e1, e2, e3⟩ := pair_cut H.len hj
  have hlen := H.len
  have ho := H.out hij
  refine ⟨⟨?_, fun k hk => ?_⟩, ?_, ?_, ?_⟩
  · simp only [List.length_append, List.length_cons, List.length_take, List.length_drop]
    omega
  · rcases List.mem_append.1 hk with hk | hk
    · exact ho k (.inl hk)
    · rcases List.mem_cons.1 hk with rfl | hk
      · exact hJ
      · exact ho k (.inr hk)
  · rw [one_flat e3, hf, ← pair_flat e3, ← e1, ← e2]
  · show l.length ≤ (l.take j ++ l.drop (j + 1)).length + 1
    simp only [List.length_append, List.length_take, List.length_drop]
    omega
  · show (l.take j ++ l.drop (j + 1)).length ≤ l.length
    simp only [List.length_append, List.length_take, List.length_drop]
    omega
theorem fill_ok (H : Near h l ks i) : Filled h l ks (fillT l ks i) := by
  have hlen := H.len
  have hle := H.le
  have hn := H.n1
  unfold fillT
  split
  · rename_i h2
    refine ⟨⟨H.len, fun k hk => ?_⟩, rfl, Nat.le_succ _, Nat.le_refl _⟩
    obtain ⟨q, hq, rfl⟩ := List.getElem_of_mem hk
    rw [← kth_get hq]
    by_cases hqi : q = i
    · subst hqi
      exact ⟨h2, H.it.2⟩
    · exact H.rest q hq hqi
  · rename_i h2
    have hKi := H.it
    split
    · rename_i h3
      obtain ⟨j, rfl⟩ : ∃ j, i = j + 1 := ⟨i - 1, by omega⟩
      rw [Nat.add_sub_cancel] at h3 ⊢
      have hL := H.rest j (by omega) (by omega)
      have k := leftK (x := tth l j) (h := h) (ll := (kth ks j).l) (kl := (kth ks (j + 1)).l) (lk := (kth ks j).ks) (kk := (kth ks (j + 1)).ks) (by rw [nd_eta]; exact hL.2.2) (by rw [nd_eta]; exact hKi.2.2) (by omega)
      rw [nd_eta, nd_eta] at k
      refine two_ok H (by omega) (.inr rfl) ⟨?_, ?_, k.1⟩ ⟨?_, ?_, k.2.1⟩ k.2.2
      · show 2 ≤ ((kth ks j).l.take _).length
        rw [List.length_take]; omega
      · show ((kth ks j).l.take _).length ≤ 4
        rw [List.length_take]; omega
      · show 2 ≤ ((kth ks (j + 1)).l.length + 1)
        omega
      · show (kth ks (j + 1)).l.length + 1 ≤ 4
        omega
    · rename_i h3
      split
      · rename_i h4
        have hR := H.rest (i + 1) (by omega) (by omega)
        have k := rightK (x := tth l i) (h := h) (ll := (kth ks i).l) (rl := (kth ks (i + 1)).l) (lk := (kth ks i).ks) (rk := (kth ks (i + 1)).ks) (by rw [nd_eta]; exact hKi.2.2) (by rw [nd_eta]; exact hR.2.2) (by omega)
        rw [nd_eta, nd_eta] at k
        refine two_ok H h4.1 (.inl rfl) ⟨?_, ?_, k.1⟩ ⟨?_, ?_, k.2.1⟩ k.2.2
        · show 2 ≤ ((kth ks i).l ++ [tth l i]).length
          rw [List.length_append, List.length_singleton]; omega
        · show ((kth ks i).l ++ [tth l i]).length ≤ 4
          rw [List.length_append, List.length_singleton]; omega
        · show 2 ≤ ((kth ks (i + 1)).l.drop 1).length
          rw [List.length_drop]; omega
        · show ((kth ks (i + 1)).l.drop 1).length ≤ 4
          rw [List.length_drop]; omega
      · rename_i h4
        split
        · rename_i h5
          obtain ⟨j, rfl⟩ : ∃ j, i = j + 1 := ⟨i - 1, by omega⟩
          rw [Nat.add_sub_cancel] at h3 ⊢
          have hL := H.rest j (by omega) (by omega)
          have k := joinK (x := tth l j) (h := h) (ll := (kth ks j).l) (rl := (kth ks (j + 1)).l) (lk := (kth ks j).ks) (rk := (kth ks (j + 1)).ks) (by rw [nd_eta]; exact hL.2.2) (by rw [nd_eta]; exact hKi.2.2)
          rw [nd_eta, nd_eta] at k
          refine one_ok H (by omega) (.inr rfl) ⟨?_, ?_, k.1⟩ k.2
          · show 2 ≤ ((kth ks j).l ++ tth l j :: (kth ks (j + 1)).l).length
            rw [List.length_append, List.length_cons]; omega
          · show ((kth ks j).l ++ tth l j :: (kth ks (j + 1)).l).length ≤ 4
            rw [List.length_append, List.length_cons]; omega
        · rename_i h5
          obtain rfl : i = 0 := by omega
          rw [Nat.zero_add] at h4
          have hR := H.rest 1 (by omega) (by omega)
          have k := joinK (x := tth l 0) (h := h) (ll := (kth ks 0).l) (rl := (kth ks 1).l) (lk := (kth ks 0).ks) (rk := (kth ks 1).ks) (by rw [nd_eta]; exact hKi.2.2) (by rw [nd_eta]; exact hR.2.2)
          rw [nd_eta, nd_eta] at k
          refine one_ok H (by omega) (.inl rfl) ⟨?_, ?_, k.1⟩ k.2
          · show 2 ≤ ((kth ks 0).l ++ tth l 0 :: (kth ks 1).l).length
            rw [List.length_append, List.length_cons]; omega
          · show ((kth ks 0).l ++ tth l 0 :: (kth ks 1).l).length ≤ 4
            rw [List.length_append, List.length_cons]; omega
end
end Go.Proofs.Ytpijfiaecicpfaa
