/-
  What an index of nodes is as a tree: the nodes below one, depths, the entries in order; what is wrong with it first. No program in sight.
-/
import Derived.Test.YtpijfiaecicpfaaBm
namespace Go.Proofs.Ytpijfiaecicpfaa
set_option linter.unusedVariables false
set_option linter.unusedSimpArgs false
/-- The nodes from one on down. -/
def sub (xs : List Nx) : Nat → Nat → List Nat
  | 0, _ => []
  | f + 1, k => k :: (kd xs k).flatMap (sub xs f)
theorem ordV_perm {xs : List Nx} {todo todo' : List Nat} (hp : ∀ x, x ∈ todo → x ∈ todo') : ∀ {V : List Nat}, ordV xs V todo → ordV xs V todo'
  | [], _ => trivial
  | a :: V, ⟨h1, h2⟩ => ⟨fun u hu => by
      rcases List.mem_append.1 (h1 u hu) with h | h
      · exact List.mem_append_left _ h
      · exact List.mem_append_right _ (hp u h), ordV_perm hp h2⟩
section
variable {xs : List Nx} {V todo : List Nat}
theorem Vis.perm' {todo' : List Nat} (h : Vis xs V todo) (hp : todo.Perm todo') : Vis xs V todo' :=
  ⟨(hp.symm.append_left V).trans h.perm, ordV_perm (fun x hx => hp.mem_iff.1 hx) h.ord, fun k hk => by
    rcases List.mem_append.1 hk with h1 | h1
    · exact h.reach k (List.mem_append_left _ h1)
    · exact h.reach k (List.mem_append_right _ (hp.mem_iff.2 h1)), h.nd⟩
theorem Vis.subs (ok : okP xs.length (allK xs)) : ∀ {f k : Nat} {V todo rest : List Nat}, Vis xs V todo → todo.Perm (k :: rest) → UT xs f k → Vis xs (V ++ sub xs f k) rest
  | 0, _, _, _, _, _, _, h => h.elim
  | f + 1, k, V, todo, rest, hV, hp, hU => by
    have key : ∀ (us : List Nat) (V : List Nat), Vis xs V (us ++ rest) → (∀ u ∈ us, UT xs f u) → Vis xs (V ++ us.flatMap (sub xs f)) rest := fun us => by
      induction us with
      | nil => intro V h _; simpa using h
      | cons u us ih =>
        intro V h hu
        have h1 := Vis.subs ok h (List.Perm.refl _) (hu u List.mem_cons_self)
        have h2 := ih _ h1 (fun x hx => hu x (List.mem_cons_of_mem _ hx))
        rw [List.flatMap_cons, ← List.append_assoc]
        exact h2
    have h1 := key _ _ ((hV.step ok hp).1.perm' List.perm_append_comm) hU.2
    rw [List.append_assoc] at h1
    exact h1
end
theorem sub_le {xs : List Nx} (h : treeP xs) (hn : 0 < xs.length) {f : Nat} (hU : UT xs f 0) : (sub xs f 0).length ≤ xs.length := by
  have h1 := Vis.subs h.1 Vis.start (List.Perm.refl _) hU
  exact h1.le h.1 hn
theorem sub_kid {xs : List Nx} {f k u : Nat} (hu : u ∈ kd xs k) : (sub xs f u).length < (sub xs (f + 1) k).length := by
  show _ < (k :: (kd xs k).flatMap (sub xs f)).length
  obtain ⟨a, b, e⟩ := List.append_of_mem hu
  rw [e, List.length_cons, List.flatMap_append, List.flatMap_cons]
  simp only [List.length_append]
  omega
/-- The depths of the leaves. -/
def dps (xs : List Nx) : Nat → Nat → Int → List Int
  | 0, _, _ => []
  | f + 1, k, d => if kd xs k = [] then [d] else (kd xs k).flatMap (fun u => dps xs f u (d + 1))
theorem flat_len_le {α β γ : Type} {F : α → List β} {G : α → List γ} : ∀ {l : List α}, (∀ x ∈ l, (F x).length ≤ (G x).length) → (l.flatMap F).length ≤ (l.flatMap G).length
  | [], _ => Nat.le_refl _
  | x :: l, h => by
    rw [List.flatMap_cons, List.flatMap_cons, List.length_append, List.length_append]
    have h1 := h x List.mem_cons_self
    have h2 := flat_len_le (l := l) (fun y hy => h y (List.mem_cons_of_mem _ hy))
    omega
theorem dps_len {xs : List Nx} : ∀ {f k : Nat} {d : Int}, (dps xs f k d).length ≤ (sub xs f k).length
  | 0, _, _ => Nat.le_refl _
  | f + 1, k, d => by
    unfold dps
    show _ ≤ (k :: (kd xs k).flatMap (sub xs f)).length
    rw [List.length_cons]
    split
    · simp
    · have := flat_len_le (F := fun u => dps xs f u (d + 1)) (G := sub xs f) (l := kd xs k) (fun u _ => dps_len)
      omega
/-- All leaves below a node are equally deep. -/
def UD (xs : List Nx) : Nat → Nat → Prop
  | 0, k => k < xs.length ∧ kd xs k = []
  | h + 1, k => k < xs.length ∧ kd xs k ≠ [] ∧ ∀ u ∈ kd xs k, UD xs h u
theorem UD.lt {xs : List Nx} : ∀ {h k : Nat}, UD xs h k → k < xs.length
  | 0, _, h => h.1
  | _ + 1, _, h => h.1
theorem UD.one {xs : List Nx} : ∀ {h h' k : Nat}, UD xs h k → UD xs h' k → h = h'
  | 0, 0, _, _, _ => rfl
  | 0, h' + 1, _, a, b => absurd a.2 b.2.1
  | h + 1, 0, _, a, b => absurd b.2 a.2.1
  | h + 1, h' + 1, k, a, b => by
    obtain ⟨u, hu⟩ := List.exists_mem_of_ne_nil _ a.2.1
    rw [UD.one (a.2.2 u hu) (b.2.2 u hu)]
theorem UD.fuel {xs : List Nx} : ∀ {h f k : Nat}, UD xs h k → UT xs f k → h < f
  | _, 0, _, _, b => b.elim
  | 0, f + 1, _, _, _ => Nat.succ_pos _
  | h + 1, f + 1, k, a, b => by
    obtain ⟨u, hu⟩ := List.exists_mem_of_ne_nil _ a.2.1
    have := UD.fuel (a.2.2 u hu) (b.2 u hu)
    omega
theorem UD.ut {xs : List Nx} : ∀ {h k : Nat}, UD xs h k → UT xs (h + 1) k
  | 0, k, a => ⟨a.1, fun u hu => by rw [a.2] at hu; cases hu⟩
  | h + 1, k, a => ⟨a.1, fun u hu => (a.2.2 u hu).ut⟩
theorem dps_ne {xs : List Nx} : ∀ {f k : Nat} {d : Int}, UT xs f k → dps xs f k d ≠ []
  | 0, _, _, h => h.elim
  | f + 1, k, d, h => by
    unfold dps
    by_cases e : kd xs k = []
    · rw [if_pos e]; simp
    · rw [if_neg e]
      obtain ⟨u, hu⟩ := List.exists_mem_of_ne_nil _ e
      intro h0
      obtain ⟨x, hx⟩ := List.exists_mem_of_ne_nil _ (dps_ne (d := d + 1) (h.2 u hu))
      have : x ∈ (kd xs k).flatMap (fun u => dps xs f u (d + 1)) := List.mem_flatMap.2 ⟨u, hu, hx⟩
      rw [h0] at this
      cases this
theorem dps_ud {xs : List Nx} : ∀ {f h k : Nat} {d : Int}, UT xs f k → UD xs h k → ∀ x ∈ dps xs f k d, x = d + h
  | 0, _, _, _, b, _, _, _ => b.elim
  | f + 1, 0, k, d, b, a, x, hx => by
    unfold dps at hx
    rw [if_pos a.2, List.mem_singleton] at hx
    subst hx
    simp
  | f + 1, h + 1, k, d, b, a, x, hx => by
    unfold dps at hx
    rw [if_neg a.2.1] at hx
    obtain ⟨u, hu, hx⟩ := List.mem_flatMap.1 hx
    have := dps_ud (b.2 u hu) (a.2.2 u hu) x hx
    omega
theorem ud_dps {xs : List Nx} : ∀ {f k : Nat} {d m : Int}, UT xs f k → (∀ x ∈ dps xs f k d, x = m) → ∃ h, UD xs h k ∧ m = d + h
  | 0, _, _, _, b, _ => b.elim
  | f + 1, k, d, m, b, a => by
    unfold dps at a
    by_cases e : kd xs k = []
    · rw [if_pos e] at a
      exact ⟨0, ⟨b.1, e⟩, by have := a d List.mem_cons_self; omega⟩
    · rw [if_neg e] at a
      have hk : ∀ u ∈ kd xs k, ∃ h, UD xs h u ∧ m = d + 1 + h := fun u hu => ud_dps (b.2 u hu) (fun x hx => a x (List.mem_flatMap.2 ⟨u, hu, hx⟩))
      obtain ⟨u, hu⟩ := List.exists_mem_of_ne_nil _ e
      obtain ⟨h, h1, h2⟩ := hk u hu
      refine ⟨h + 1, ⟨b.1, e, fun v hv => ?_⟩, by omega⟩
      obtain ⟨h', g1, g2⟩ := hk v hv
      obtain rfl : h = h' := by omega
      exact g1
/-- How deep a node's leaves are; -1 if they are not equally deep. -/
def DP (xs : List Nx) (k : Nat) (r : Int) : Prop := (∃ h : Nat, r = h ∧ UD xs h k) ∨ (r = -1 ∧ ∀ h, ¬ UD xs h k)
/-- The depths are one. -/
theorem dps_same {xs : List Nx} {f k : Nat} (hU : UT xs f k) : (∃ h, UD xs h k) ↔ ∀ j, j < (dps xs f k 0).length → ith (dps xs f k 0) j = ith (dps xs f k 0) 0 := by
  constructor
  · rintro ⟨h, hd⟩ j hj
    rw [ith_get hj, ith_get (by omega), dps_ud hU hd _ (List.getElem_mem _), dps_ud hU hd _ (List.getElem_mem _)]
  · intro hj
    obtain ⟨h, hd, _⟩ := ud_dps (d := 0) (m := ith (dps xs f k 0) 0) hU (fun x hx => by
      obtain ⟨j, h1, rfl⟩ := List.mem_iff_getElem.1 hx
      rw [← ith_get h1]
      exact hj j h1)
    exact ⟨h, hd⟩
/-! ### The entries -/
def ents (x : Nx) : List Te := List.zipWith Te.mk x.keys x.recs
theorem ents_len {x : Nx} (h : x.recs.length = x.keys.length) : (ents x).length = x.keys.length := by unfold ents; rw [List.length_zipWith, h, Nat.min_self]
theorem ents_at {x : Nx} (h : x.recs.length = x.keys.length) {k : Nat} (hk : k < x.keys.length) : tth (ents x) k = ⟨sth x.keys k, ith x.recs k⟩ := by
  rw [tth_get (by rw [ents_len h]; exact hk), sth_get hk, ith_get (by omega)]
  unfold ents
  rw [List.getElem_zipWith]
theorem ents_keys {x : Nx} (h : x.recs.length = x.keys.length) : (ents x).map Te.key = x.keys := by
  unfold ents
  rw [List.map_zipWith]
  apply List.ext_getElem
  · rw [List.length_zipWith, h, Nat.min_self]
  · intro i h1 h2; rw [List.getElem_zipWith]
theorem ents_recs {x : Nx} (h : x.recs.length = x.keys.length) : (ents x).map Te.no = x.recs := by
  unfold ents
  rw [List.map_zipWith]
  apply List.ext_getElem
  · rw [List.length_zipWith, h, Nat.min_self]
  · intro i h1 h2; rw [List.getElem_zipWith]
theorem ents_of (l : List Te) (k : List Int) : ents ⟨l.map Te.key, l.map Te.no, k⟩ = l := by
  unfold ents
  induction l with
  | nil => rfl
  | cons x l ih => rw [List.map_cons, List.map_cons, List.zipWith_cons_cons, ih]
/-- The tree of a height below a node. -/
def btx (xs : List Nx) : Nat → Nat → BT
  | 0, k => .nd (ents (xth xs k)) []
  | h + 1, k => .nd (ents (xth xs k)) ((kd xs k).map (btx xs h))
theorem shape_is {x : Nx} (h : shapeB x = true) : x.recs.length = x.keys.length ∧ x.keys.length ≤ 4 ∧ (x.kids.length = 0 ∨ x.kids.length = x.keys.length + 1) := by
  unfold shapeB shapeN at h
  simp only [Bool.and_eq_true, Bool.or_eq_true, decide_eq_true_eq] at h
  exact h
/-- Each node is shaped. -/
def shpX (xs : List Nx) : Prop := ∀ k, k < xs.length → shapeB (xth xs k) = true
theorem kd_len (xs : List Nx) (k : Nat) : (kd xs k).length = (xth xs k).kids.length := by simp [kd]
theorem btx_shw {xs : List Nx} (hs : shpX xs) : ∀ {h k : Nat}, UD xs h k → Shw h (btx xs h k)
  | 0, k, _ => rfl
  | h + 1, k, a => by
    have s1 := shape_is (hs k a.1)
    have hne : (kd xs k).length ≠ 0 := fun e => a.2.1 (List.eq_nil_of_length_eq_zero e)
    rw [kd_len] at hne
    refine ⟨?_, fun K hK => ?_⟩
    · rw [List.length_map, kd_len, ents_len s1.1]; omega
    · obtain ⟨u, hu, rfl⟩ := List.mem_map.1 hK
      exact btx_shw hs (a.2.2 u hu)
theorem sum_le {α : Type} {F G : α → Nat} : ∀ {l : List α}, (∀ x ∈ l, F x ≤ G x) → (l.map F).sum ≤ (l.map G).sum
  | [], _ => Nat.le_refl _
  | x :: l, h => by
    rw [List.map_cons, List.map_cons, List.sum_cons, List.sum_cons]
    have h1 := h x List.mem_cons_self
    have h2 := sum_le (l := l) (fun y hy => h y (List.mem_cons_of_mem _ hy))
    omega
theorem flatMap_len {α β : Type} (F : α → List β) : ∀ l : List α, (l.flatMap F).length = (l.map (fun x => (F x).length)).sum
  | [] => rfl
  | x :: l => by rw [List.flatMap_cons, List.length_append, List.map_cons, List.sum_cons, flatMap_len F l]
theorem sum_mul (m : Nat) {α : Type} (F : α → Nat) : ∀ l : List α, (l.map (fun x => F x * m)).sum = (l.map F).sum * m
  | [] => by simp
  | x :: l => by rw [List.map_cons, List.map_cons, List.sum_cons, List.sum_cons, sum_mul m F l, Nat.add_mul]
/-- The entries below a node are not many. -/
theorem btx_len {xs : List Nx} (hs : shpX xs) : ∀ {h f k : Nat}, UD xs h k → UT xs f k → (flat h (btx xs h k)).length ≤ (sub xs f k).length * 4
  | _, 0, _, _, b => b.elim
  | 0, f + 1, k, a, _ => by
    have s1 := shape_is (hs k a.1)
    show (ents (xth xs k)).length ≤ _
    rw [ents_len s1.1]
    show _ ≤ (k :: (kd xs k).flatMap (sub xs f)).length * 4
    rw [List.length_cons]
    omega
  | h + 1, f + 1, k, a, b => by
    have s1 := shape_is (hs k a.1)
    have s2 := btx_shw hs a
    show (flat (h + 1) (.nd (ents (xth xs k)) ((kd xs k).map (btx xs h)))).length ≤ (k :: (kd xs k).flatMap (sub xs f)).length * 4
    rw [flat_len s2.1, ents_len s1.1, List.length_cons, flatMap_len, List.map_map, List.map_map]
    have h1 := sum_le (l := kd xs k) (F := (List.length ∘ flat h) ∘ btx xs h) (G := fun u => (sub xs f u).length * 4) (fun u hu => btx_len hs (a.2.2 u hu) (b.2 u hu))
    rw [sum_mul] at h1
    omega
/-! ### What is wrong first -/
noncomputable def cdec (p : Prop) : Bool := @decide p (Classical.propDecidable p)
theorem cdec_iff {p : Prop} : cdec p = true ↔ p := @decide_eq_true_iff _ (Classical.propDecidable _)
theorem cdec_not {p : Prop} : cdec p = false ↔ ¬ p := @decide_eq_false_iff_not _ (Classical.propDecidable _)
/-- Each node has enough entries. -/
def fullP (xs : List Nx) : Prop := ∀ k, k < xs.length → (if k = 0 then min 1 (xth xs 0).kids.length else 2) ≤ (xth xs k).keys.length
noncomputable def hX (xs : List Nx) : Nat := @dite _ (∃ h, UD xs h 0) (Classical.propDecidable _) (fun h => h.choose) (fun _ => 0)
theorem hX_is {xs : List Nx} {h : Nat} (hd : UD xs h 0) : hX xs = h := by
  unfold hX
  rw [dif_pos ⟨h, hd⟩]
  exact UD.one (Exists.choose_spec (p := fun h => UD xs h 0) ⟨h, hd⟩) hd
noncomputable def entX (xs : List Nx) : List Te := flat (hX xs) (btx xs (hX xs) 0)
noncomputable def wrongX (xs : List Nx) : Int :=
  if xs.length < 1 ∨ 2400 < xs.length then 1 else if cdec (shpX xs) = false then 2 else if treeB xs = false then 3 else if cdec (fullP xs) = false then 4
  else if cdec (∃ h, UD xs h 0) = false then 5 else if cdec (∀ x ∈ entX xs, okT x = true) = false then 6 else if cdec (Srt (entX xs)) = false then 7 else 0
theorem wrong_none {xs : List Nx} : wrongX xs = 0 ↔ 1 ≤ xs.length ∧ xs.length ≤ 2400 ∧ shpX xs ∧ treeP xs ∧ fullP xs ∧ (∃ h, UD xs h 0) ∧ (∀ x ∈ entX xs, okT x = true) ∧ Srt (entX xs) := by
  unfold wrongX
  constructor
  · intro h
    by_cases c1 : xs.length < 1 ∨ 2400 < xs.length
    · rw [if_pos c1] at h; cases h
    rw [if_neg c1] at h
    by_cases c2 : shpX xs
    · rw [if_neg (fun hc => cdec_not.1 hc c2)] at h
      by_cases c3 : treeP xs
      · rw [if_neg (fun hc => by rw [treeB_iff.2 c3] at hc; cases hc)] at h
        by_cases c4 : fullP xs
        · rw [if_neg (fun hc => cdec_not.1 hc c4)] at h
          by_cases c5 : ∃ h, UD xs h 0
          · rw [if_neg (fun hc => cdec_not.1 hc c5)] at h
            by_cases c6 : ∀ x ∈ entX xs, okT x = true
            · rw [if_neg (fun hc => cdec_not.1 hc c6)] at h
              by_cases c7 : Srt (entX xs)
              · exact ⟨by omega, by omega, c2, c3, c4, c5, c6, c7⟩
              · rw [if_pos (cdec_not.2 c7)] at h; cases h
            · rw [if_pos (cdec_not.2 c6)] at h; cases h
          · rw [if_pos (cdec_not.2 c5)] at h; cases h
        · rw [if_pos (cdec_not.2 c4)] at h; cases h
      · rw [if_pos (treeB_false c3)] at h; cases h
    · rw [if_pos (cdec_not.2 c2)] at h; cases h
  · rintro ⟨c1, c1', c2, c3, c4, c5, c6, c7⟩
    rw [if_neg (by omega), if_neg (fun hc => cdec_not.1 hc c2), if_neg (fun hc => by rw [treeB_iff.2 c3] at hc; cases hc), if_neg (fun hc => cdec_not.1 hc c4), if_neg (fun hc => cdec_not.1 hc c5), if_neg (fun hc => cdec_not.1 hc c6), if_neg (fun hc => cdec_not.1 hc c7)]
theorem wrong_rng (xs : List Nx) : 0 ≤ wrongX xs ∧ wrongX xs ≤ 7 := by
  unfold wrongX
  split
  · decide
  · split
    · decide
    · split
      · decide
      · split
        · decide
        · split
          · decide
          · split
            · decide
            · split <;> decide
/-- In order, one by one. -/
theorem srt_steps {l : List Te} : Srt l ↔ ∀ i, i + 1 < l.length → cmpT (tth l i) (tth l (i + 1)) < 0 := by
  constructor
  · intro h i hi
    exact srt_nth h (Nat.lt_succ_self i) hi
  · intro h
    induction l with
    | nil => exact List.Pairwise.nil
    | cons x l ih =>
      have ih := ih (fun i hi => by
        have := h (i + 1) (by simp; omega)
        simpa [tth] using this)
      refine srt_cons.2 ⟨fun y hy => ?_, ih⟩
      cases l with
      | nil => cases hy
      | cons z l =>
        have h0 : cmpT x z < 0 := by
          have := h 0 (by simp)
          simpa [tth] using this
        rcases List.mem_cons.1 hy with rfl | hy
        · exact h0
        · exact cmpT_trans h0 ((srt_cons.1 ih).1 y hy)
end Go.Proofs.Ytpijfiaecicpfaa
