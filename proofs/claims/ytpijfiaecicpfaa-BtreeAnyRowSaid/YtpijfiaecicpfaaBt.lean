/-
  Trees of entries, plainly: what is in them in order; putting an entry in. No program in sight.
-/
import Derived.Test.YtpijfiaecicpfaaBo
namespace Go.Proofs.Ytpijfiaecicpfaa
set_option linter.unusedVariables false
set_option linter.unusedSimpArgs false
inductive BT where
  | nd (l : List Te) (ks : List BT) : BT
instance : Inhabited BT := ⟨.nd [] []⟩
def BT.l : BT → List Te | .nd l _ => l
def BT.ks : BT → List BT | .nd _ ks => ks
/-- What stands behind the first kid. -/
def tlW : List Te → List (List Te) → List Te
  | [], _ => []
  | x :: l, [] => x :: l
  | x :: l, m :: ms => x :: (m ++ tlW l ms)
/-- The first kids, each with the entry behind it. -/
def wvp : List Te → List (List Te) → List Te
  | x :: l, m :: ms => m ++ x :: wvp l ms
  | _, _ => []
def wv (l : List Te) : List (List Te) → List Te
  | [] => l
  | m :: ms => m ++ tlW l ms
/-- All entries of a tree of a height, in the order in which they stand. -/
def flat : Nat → BT → List Te
  | 0, .nd l _ => l
  | h + 1, .nd l ks => wv l (ks.map (flat h))
theorem wv_app : ∀ {l1 l2 : List Te} {m1 : List (List Te)} {m : List Te} {m2 : List (List Te)}, l1.length = m1.length → wv (l1 ++ l2) (m1 ++ m :: m2) = wvp l1 m1 ++ (m ++ tlW l2 m2)
  | [], l2, [], m, m2, _ => rfl
  | [], l2, _ :: _, m, m2, h => by cases h
  | _ :: _, l2, [], m, m2, h => by cases h
  | x :: l1, l2, n :: m1, m, m2, h => by
    have ih := wv_app (l1 := l1) (l2 := l2) (m1 := m1) (m := m) (m2 := m2) (by simpa using h)
    have e : wv (x :: l1 ++ l2) (n :: m1 ++ m :: m2) = n ++ x :: wv (l1 ++ l2) (m1 ++ m :: m2) := by
      cases m1 <;> rfl
    rw [e, ih, wvp]
    simp
theorem flat_cut {h : Nat} {l1 l2 : List Te} {k1 : List BT} {K : BT} {k2 : List BT} (hl : l1.length = k1.length) : flat (h + 1) (.nd (l1 ++ l2) (k1 ++ K :: k2)) = wvp l1 (k1.map (flat h)) ++ (flat h K ++ tlW l2 (k2.map (flat h))) := by
  rw [flat, List.map_append, List.map_cons]
  exact wv_app (by simpa using hl)
theorem wvp_lt {e : Te} : ∀ {l : List Te} {ms : List (List Te)}, Srt (wvp l ms) → (∀ y ∈ l, cmpT y e < 0) → ∀ x ∈ wvp l ms, cmpT x e < 0
  | [], _, _, _, x, hx => by cases hx
  | _ :: _, [], _, _, x, hx => by cases hx
  | y :: l, m :: ms, hs, hl, x, hx => by
    rw [wvp] at hs hx
    obtain ⟨s1, s2, s3⟩ := srt_app.1 hs
    have hy := hl y (by simp)
    rcases List.mem_append.1 hx with h | h
    · exact cmpT_trans (s3 x h y (by simp)) hy
    · rcases List.mem_cons.1 h with rfl | h
      · exact hy
      · exact wvp_lt (srt_cons.1 s2).2 (fun z hz => hl z (List.mem_cons_of_mem _ hz)) x h
theorem tlW_gt {e : Te} {l : List Te} {ms : List (List Te)} (hs : Srt (tlW l ms)) (hl : ∀ y ∈ l, cmpT e y < 0) : ∀ x ∈ tlW l ms, cmpT e x < 0 := by
  intro x hx
  cases l with
  | nil => cases hx
  | cons y l =>
    have hy := hl y (by simp)
    have hh : ∃ t, tlW (y :: l) ms = y :: t := by cases ms <;> exact ⟨_, rfl⟩
    obtain ⟨t, ht⟩ := hh
    rw [ht] at hs hx
    rcases List.mem_cons.1 hx with rfl | h
    · exact hy
    · exact cmpT_trans hy ((srt_cons.1 hs).1 x h)
theorem tlW_sub {l : List Te} {ms : List (List Te)} : ∀ {y : Te}, y ∈ l → y ∈ tlW l ms := by
  induction l generalizing ms with
  | nil => intro y h; cases h
  | cons z l ih =>
    intro y h
    cases ms with
    | nil => exact h
    | cons m ms =>
      rw [tlW]
      rcases List.mem_cons.1 h with rfl | h
      · simp
      · exact List.mem_cons_of_mem _ (List.mem_append_right _ (ih h))
/-- An entry is there. -/
def memT (l : List Te) (e : Te) : Bool := l.any (fun x => cmpT x e == 0)
theorem memT_iff {l : List Te} {e : Te} : memT l e = true ↔ e ∈ l := by
  unfold memT
  rw [List.any_eq_true]
  constructor
  · rintro ⟨x, hx, h⟩
    rw [beq_iff_eq, cmpT_zero] at h
    exact h ▸ hx
  · intro h
    exact ⟨e, h, by rw [beq_iff_eq]; exact cmpT_refl e⟩
theorem memT_app (a b : List Te) (e : Te) : memT (a ++ b) e = (memT a e || memT b e) := List.any_append
theorem memT_lt {l : List Te} {e : Te} (h : ∀ x ∈ l, cmpT x e < 0) : memT l e = false := by
  cases q : memT l e with
  | false => rfl
  | true => have := h e (memT_iff.1 q); rw [cmpT_refl] at this; exact absurd this (by decide)
theorem memT_gt {l : List Te} {e : Te} (h : ∀ x ∈ l, cmpT e x < 0) : memT l e = false := by
  cases q : memT l e with
  | false => rfl
  | true => have := h e (memT_iff.1 q); rw [cmpT_refl] at this; exact absurd this (by decide)
theorem memT_false {l : List Te} {e : Te} : memT l e = false ↔ e ∉ l := by
  rw [← memT_iff]; simp
theorem list_cut {α : Type} {l : List α} {i : Nat} (hi : i < l.length) : l = l.take i ++ l[i] :: l.drop (i + 1) := by
  conv => lhs; rw [← List.take_append_drop i l]
  rw [List.drop_eq_getElem_cons hi]
/-- A tree of a height: each node but the leaves has a kid more than entries; a kid has 2 to 4 entries. -/
def Shp : Nat → BT → Prop
  | 0, .nd _ ks => ks = []
  | h + 1, .nd l ks => ks.length = l.length + 1 ∧ ∀ k ∈ ks, 2 ≤ k.l.length ∧ k.l.length ≤ 4 ∧ Shp h k
/-- Cut a node's lists at a place. -/
theorem node_cut {h : Nat} {l : List Te} {ks : List BT} (hs : Shp (h + 1) (.nd l ks)) {i : Nat} (hi : i ≤ l.length) : ∃ K, ks[i]? = some K ∧ ks = ks.take i ++ K :: ks.drop (i + 1) ∧ (ks.take i).length = i ∧ (l.take i).length = i ∧ (ks.drop (i + 1)).length = (l.drop i).length := by
  have hk : i < ks.length := by rw [hs.1]; omega
  refine ⟨ks[i], List.getElem?_eq_getElem hk, list_cut hk, by rw [List.length_take]; omega, by rw [List.length_take]; omega, ?_⟩
  rw [List.length_drop, List.length_drop, hs.1]
  omega
/-- What is less than an entry stands ahead of its place, what is greater behind it. -/
theorem node_lt {h : Nat} {l : List Te} {ks : List BT} (hs : Shp (h + 1) (.nd l ks)) (hS : Srt (flat (h + 1) (.nd l ks))) (e : Te) : Srt l ∧ ∃ K, ks[rankT l e]? = some K ∧
    flat (h + 1) (.nd l ks) = wvp (l.take (rankT l e)) ((ks.take (rankT l e)).map (flat h)) ++ (flat h K ++ tlW (l.drop (rankT l e)) ((ks.drop (rankT l e + 1)).map (flat h))) ∧
    (∀ x ∈ wvp (l.take (rankT l e)) ((ks.take (rankT l e)).map (flat h)), cmpT x e < 0) ∧ (e ∉ l → ∀ x ∈ tlW (l.drop (rankT l e)) ((ks.drop (rankT l e + 1)).map (flat h)), cmpT e x < 0) ∧ Srt (flat h K) := by
  have hl : Srt l := by
    -- every entry of the node stands among all of them, in its order
    have key : ∀ (l : List Te) (ms : List (List Te)), Srt (tlW l ms) → Srt l := by
      intro l
      induction l with
      | nil => intro ms _; exact List.Pairwise.nil
      | cons y l ih =>
        intro ms h
        cases ms with
        | nil => exact h
        | cons m ms =>
          rw [tlW] at h
          obtain ⟨h1, h2⟩ := srt_cons.1 h
          obtain ⟨_, h3, _⟩ := srt_app.1 h2
          exact srt_cons.2 ⟨fun x hx => h1 x (List.mem_append_right _ (tlW_sub hx)), ih ms h3⟩
    obtain ⟨K, _, hk, _⟩ := node_cut hs (Nat.zero_le _)
    have := flat_cut (h := h) (l1 := []) (l2 := l) (k1 := []) (K := K) (k2 := ks.drop 1) rfl
    rw [show ks = [] ++ K :: ks.drop 1 from hk] at hS
    rw [show l = [] ++ l from rfl, this] at hS
    exact key l _ (srt_app.1 (srt_app.1 hS).2.1).2.1
  obtain ⟨r1, r2, r3⟩ := rank_cut hl e
  obtain ⟨K, hK, hk, h1, h2, h3⟩ := node_cut hs r1
  have hf := flat_cut (h := h) (l1 := l.take (rankT l e)) (l2 := l.drop (rankT l e)) (k1 := ks.take (rankT l e)) (K := K) (k2 := ks.drop (rankT l e + 1)) (by rw [h1, h2])
  rw [List.take_append_drop, ← hk] at hf
  rw [hf] at hS
  obtain ⟨s1, s2, s3⟩ := srt_app.1 hS
  obtain ⟨s4, s5, s6⟩ := srt_app.1 s2
  refine ⟨hl, K, hK, hf, wvp_lt s1 r2, fun hne => tlW_gt s5 (fun y hy => ?_), s4⟩
  have h4 := r3 y hy
  have h5 : cmpT y e ≠ 0 := fun e0 => hne (by rw [← cmpT_zero.1 e0]; exact List.mem_of_mem_drop hy)
  rw [cmpT_anti]
  omega
/-- An entry is in a node, or in the kid at its place. -/
theorem mem_node {h : Nat} {l : List Te} {ks : List BT} (hs : Shp (h + 1) (.nd l ks)) (hS : Srt (flat (h + 1) (.nd l ks))) (e : Te) : ∃ K, ks[rankT l e]? = some K ∧ memT (flat (h + 1) (.nd l ks)) e = (memT l e || memT (flat h K) e) := by
  obtain ⟨hl, K, hK, hf, hA, hB, _⟩ := node_lt hs hS e
  refine ⟨K, hK, ?_⟩
  rw [hf, memT_app, memT_app, memT_lt hA, Bool.false_or]
  by_cases q : e ∈ l
  · rw [memT_iff.2 q, Bool.true_or]
    obtain ⟨r1, r2, r3⟩ := rank_cut hl e
    have hd : e ∈ l.drop (rankT l e) := by
      have h0 : e ∈ l.take (rankT l e) ++ l.drop (rankT l e) := by rw [List.take_append_drop]; exact q
      rcases List.mem_append.1 h0 with h1 | h1
      · have := r2 e h1; rw [cmpT_refl] at this; exact absurd this (by decide)
      · exact h1
    rw [memT_iff.2 (tlW_sub hd), Bool.or_true]
  · rw [memT_gt (hB q), memT_false.2 q, Bool.or_false, Bool.false_or]
/-! ### Putting in -/
/-- A kid in two: the middle entry goes up. -/
def splitT (l : List Te) (ks : List BT) (i : Nat) (K : BT) : BT :=
  .nd (l.take i ++ K.l.getD (K.l.length / 2) ⟨⟨#[]⟩, 0⟩ :: l.drop i)
    (ks.take i ++ .nd (K.l.take (K.l.length / 2)) (K.ks.take (K.l.length / 2 + 1)) :: .nd (K.l.drop (K.l.length / 2 + 1)) (K.ks.drop (K.l.length / 2 + 1)) :: ks.drop (i + 1))
def putT : Nat → BT → Te → BT
  | 0, .nd l ks, e => .nd (insT l e) ks
  | h + 1, .nd l ks, e => if 4 < (putT h (ks.getD (rankT l e) default) e).l.length then splitT l ks (rankT l e) (putT h (ks.getD (rankT l e) default) e) else .nd l (ks.set (rankT l e) (putT h (ks.getD (rankT l e) default) e))
/-- The halves of a node hold what it holds. -/
theorem flat_halves {h : Nat} {K : BT} (hs : Shp h K) {m : Nat} (hm : m < K.l.length) : flat h K = flat h (.nd (K.l.take m) (K.ks.take (m + 1))) ++ K.l.getD m ⟨⟨#[]⟩, 0⟩ :: flat h (.nd (K.l.drop (m + 1)) (K.ks.drop (m + 1))) ∧ Shp h (.nd (K.l.take m) (K.ks.take (m + 1))) ∧ Shp h (.nd (K.l.drop (m + 1)) (K.ks.drop (m + 1))) := by
  obtain ⟨l, ks⟩ := K
  have hm' : m < l.length := hm
  have hg : l.getD m ⟨⟨#[]⟩, 0⟩ = l[m] := by simp [List.getD, hm']
  show flat h (.nd l ks) = flat h (.nd (l.take m) (ks.take (m + 1))) ++ l.getD m ⟨⟨#[]⟩, 0⟩ :: flat h (.nd (l.drop (m + 1)) (ks.drop (m + 1))) ∧ _
  rw [hg]
  cases h with
  | zero =>
    have hk : ks = [] := hs
    subst hk
    exact ⟨list_cut hm', rfl, rfl⟩
  | succ h =>
    have hk : ks.length = l.length + 1 := hs.1
    obtain ⟨K1, e1, c1, d1, d2, _⟩ := node_cut hs (i := m) (by omega)
    obtain ⟨K2, e2, c2, d3, d4, d5⟩ := node_cut hs (i := m + 1) (by omega)
    have t1 : ks.take (m + 1) = ks.take m ++ K1 :: [] := by
      rw [List.take_add_one, e1]
      rfl
    have t2 : ks.drop (m + 1) = K2 :: ks.drop (m + 1 + 1) := by
      have hlt : m + 1 < ks.length := by omega
      rw [List.drop_eq_getElem_cons hlt]
      rw [List.getElem?_eq_getElem hlt] at e2
      rw [Option.some.inj e2]
    refine ⟨?_, ⟨?_, fun k hk2 => hs.2 k (List.mem_of_mem_take hk2)⟩, ⟨?_, fun k hk2 => hs.2 k (List.mem_of_mem_drop hk2)⟩⟩
    · have f1 := flat_cut (h := h) (l1 := l.take (m + 1)) (l2 := l.drop (m + 1)) (k1 := ks.take (m + 1)) (K := K2) (k2 := ks.drop (m + 1 + 1)) (by rw [d3, d4])
      rw [List.take_append_drop, ← c2] at f1
      have f2 := flat_cut (h := h) (l1 := l.take m) (l2 := []) (k1 := ks.take m) (K := K1) (k2 := []) (by rw [d1, d2])
      have f3 := flat_cut (h := h) (l1 := []) (l2 := l.drop (m + 1)) (k1 := []) (K := K2) (k2 := ks.drop (m + 1 + 1)) rfl
      rw [List.append_nil] at f2
      rw [← t1] at f2
      rw [List.nil_append, List.nil_append, ← t2] at f3
      rw [f1, f2, f3]
      have wv1 : ∀ {l1 : List Te} {m1 : List (List Te)} {x : Te} {m : List Te}, l1.length = m1.length → wvp (l1 ++ [x]) (m1 ++ [m]) = wvp l1 m1 ++ (m ++ [x]) := by
        intro l1
        induction l1 with
        | nil => intro m1 x m hl; cases m1 with
          | nil => rfl
          | cons _ _ => cases hl
        | cons y l1 ih => intro m1 x m hl; cases m1 with
          | nil => cases hl
          | cons n m1 =>
            rw [List.cons_append, List.cons_append, wvp, wvp, ih (by simpa using hl)]
            simp
      rw [List.take_succ_eq_append_getElem hm', t1, List.map_append, List.map_cons, List.map_nil, wv1 (by rw [List.length_map, d1, d2])]
      simp [tlW, wvp]
    · show (ks.take (m + 1)).length = (l.take m).length + 1
      rw [List.length_take, List.length_take]; omega
    · show (ks.drop (m + 1)).length = (l.drop (m + 1)).length + 1
      rw [List.length_drop, List.length_drop]; omega
theorem splitT_ok {h : Nat} {l : List Te} {ks : List BT} {i : Nat} {K : BT} (hs : Shp (h + 1) (.nd l ks)) (hi : i ≤ l.length) (hK : Shp h K) (h5 : K.l.length = 5) : Shp (h + 1) (splitT l ks i K) ∧ flat (h + 1) (splitT l ks i K) = wvp (l.take i) ((ks.take i).map (flat h)) ++ (flat h K ++ tlW (l.drop i) ((ks.drop (i + 1)).map (flat h))) := by
  obtain ⟨_, _, c1, d1, d2, d3⟩ := node_cut hs hi
  obtain ⟨f1, s1, s2⟩ := flat_halves hK (m := K.l.length / 2) (by omega)
  have hk := hs.1
  unfold splitT
  refine ⟨⟨?_, fun k hk2 => ?_⟩, ?_⟩
  · simp only [List.length_append, List.length_cons, List.length_drop, List.length_take]
    omega
  · rcases List.mem_append.1 hk2 with h1 | h1
    · exact hs.2 k (List.mem_of_mem_take h1)
    · rcases List.mem_cons.1 h1 with rfl | h1
      · refine ⟨?_, ?_, s1⟩
        · show 2 ≤ (K.l.take (K.l.length / 2)).length
          rw [List.length_take]; omega
        · show (K.l.take (K.l.length / 2)).length ≤ 4
          rw [List.length_take]; omega
      · rcases List.mem_cons.1 h1 with rfl | h1
        · refine ⟨?_, ?_, s2⟩
          · show 2 ≤ (K.l.drop (K.l.length / 2 + 1)).length
            rw [List.length_drop]; omega
          · show (K.l.drop (K.l.length / 2 + 1)).length ≤ 4
            rw [List.length_drop]; omega
        · exact hs.2 k (List.mem_of_mem_drop h1)
  · rw [flat_cut (by rw [d1, d2]), f1]
    have e : ∀ (x : Te) (l : List Te) (m : List Te) (ms : List (List Te)), tlW (x :: l) (m :: ms) = x :: (m ++ tlW l ms) := fun _ _ _ _ => rfl
    rw [List.map_cons, e]
    simp
/-- What putting an entry in makes of a tree. -/
theorem putT_ok : ∀ (h : Nat) (T : BT) (e : Te), Shp h T → Srt (flat h T) → e ∉ flat h T → Shp h (putT h T e) ∧ flat h (putT h T e) = insT (flat h T) e ∧ T.l.length ≤ (putT h T e).l.length ∧ (putT h T e).l.length ≤ T.l.length + 1
  | 0, .nd l ks, e, hs, hS, hn => ⟨hs, rfl, by show l.length ≤ (insT l e).length; rw [len_ins]; omega, by show (insT l e).length ≤ l.length + 1; rw [len_ins]; omega⟩
  | h + 1, .nd l ks, e, hs, hS, hn => by
    obtain ⟨hl, K, hK, hf, hA, hB, hSK⟩ := node_lt hs hS e
    obtain ⟨r1, _, _⟩ := rank_cut hl e
    have hel : e ∉ l := fun hm => hn (by
      obtain ⟨K0, _, hk0, _⟩ := node_cut hs (Nat.zero_le _)
      have := flat_cut (h := h) (l1 := []) (l2 := l) (k1 := []) (K := K0) (k2 := ks.drop 1) rfl
      rw [List.nil_append, List.nil_append] at this
      rw [show ks = K0 :: ks.drop 1 from hk0, this]
      exact List.mem_append_right _ (List.mem_append_right _ (tlW_sub hm)))
    have hgK : ks.getD (rankT l e) default = K := by simp [List.getD, hK]
    have hmK : K ∈ ks := List.mem_of_getElem? hK
    obtain ⟨k1, k2, k3⟩ := hs.2 K hmK
    have hnK : e ∉ flat h K := fun hm => hn (by rw [hf]; exact List.mem_append_right _ (List.mem_append_left _ hm))
    obtain ⟨p1, p2, p3, p4⟩ := putT_ok h K e k3 hSK hnK
    obtain ⟨_, _, c1, d1, d2, d3⟩ := node_cut hs r1
    have hins : insT (flat (h + 1) (.nd l ks)) e = wvp (l.take (rankT l e)) ((ks.take (rankT l e)).map (flat h)) ++ (insT (flat h K) e ++ tlW (l.drop (rankT l e)) ((ks.drop (rankT l e + 1)).map (flat h))) := by
      rw [hf, insT_app hA, insT_app2 (hB hel)]
    unfold putT
    rw [hgK, hins]
    by_cases q : 4 < (putT h K e).l.length
    · rw [if_pos q]
      obtain ⟨s1, s2⟩ := splitT_ok hs r1 p1 (by omega)
      refine ⟨s1, by rw [s2, p2], ?_, ?_⟩ <;> show _ ≤ _ <;> simp only [splitT, BT.l, List.length_append, List.length_cons, List.length_take, List.length_drop] <;> omega
    · rw [if_neg q]
      have hset : ks.set (rankT l e) (putT h K e) = ks.take (rankT l e) ++ putT h K e :: ks.drop (rankT l e + 1) := by
        rw [List.set_eq_take_append_cons_drop, if_pos (by have := hs.1; omega)]
      refine ⟨⟨by rw [List.length_set]; exact hs.1, fun k hk => ?_⟩, ?_, Nat.le_refl _, Nat.le_succ _⟩
      · rw [hset] at hk
        rcases List.mem_append.1 hk with h1 | h1
        · exact hs.2 k (List.mem_of_mem_take h1)
        · rcases List.mem_cons.1 h1 with rfl | h1
          · exact ⟨by omega, by omega, p1⟩
          · exact hs.2 k (List.mem_of_mem_drop h1)
      · rw [hset]
        have := flat_cut (h := h) (l1 := l.take (rankT l e)) (l2 := l.drop (rankT l e)) (k1 := ks.take (rankT l e)) (K := putT h K e) (k2 := ks.drop (rankT l e + 1)) (by rw [d1, d2])
        rw [List.take_append_drop] at this
        rw [this, p2]
end Go.Proofs.Ytpijfiaecicpfaa
