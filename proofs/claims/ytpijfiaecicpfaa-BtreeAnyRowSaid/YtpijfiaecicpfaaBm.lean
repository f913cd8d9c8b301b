/-
  When nodes are a tree: each but the first the kid of just one, and all reached. No program in sight.
-/
import Derived.Test.YtpijfiaecicpfaaBl
namespace Go.Proofs.Ytpijfiaecicpfaa
set_option linter.unusedVariables false
set_option linter.unusedSimpArgs false
def okP (n : Nat) (l : List Int) : Prop := (∀ k ∈ l, 1 ≤ k ∧ k < (n : Int)) ∧ l.Nodup
theorem okP_app {n : Nat} {a b : List Int} (h : okP n (a ++ b)) : okP n a := ⟨fun k hk => h.1 k (List.mem_append_left _ hk), (List.nodup_append.1 h.2).1⟩
theorem okP_snoc {n : Nat} {a : List Int} {k : Int} (h : okP n a) : okP n (a ++ [k]) ↔ 1 ≤ k ∧ k < (n : Int) ∧ k ∉ a := by
  constructor
  · intro h2
    have h3 := h2.1 k (List.mem_append_right _ (List.mem_singleton.2 rfl))
    exact ⟨h3.1, h3.2, fun hk => (List.nodup_append.1 h2.2).2.2 k hk k (List.mem_singleton.2 rfl) rfl⟩
  · rintro ⟨h1, h2, h3⟩
    refine ⟨fun x hx => ?_, ?_⟩
    · rcases List.mem_append.1 hx with hx | hx
      · exact h.1 x hx
      · rw [List.mem_singleton.1 hx]; exact ⟨h1, h2⟩
    · exact List.nodup_append.2 ⟨h.2, by simp, fun x hx y hy e => h3 (by rw [List.mem_singleton.1 hy] at e; rw [← e]; exact hx)⟩
def allK (xs : List Nx) : List Int := xs.flatMap Nx.kids
/-- The kids that have been looked at ahead of kid j of node i. -/
def preK (xs : List Nx) (i j : Nat) : List Int := allK (xs.take i) ++ (xth xs i).kids.take j
theorem preK_step {xs : List Nx} {i j : Nat} (hj : j < (xth xs i).kids.length) : preK xs i (j + 1) = preK xs i j ++ [ith (xth xs i).kids j] := by
  unfold preK
  rw [List.take_succ_eq_append_getElem hj, ith_get hj, List.append_assoc]
theorem preK_next {xs : List Nx} {i : Nat} (hi : i < xs.length) : preK xs i (xth xs i).kids.length = preK xs (i + 1) 0 := by
  unfold preK allK
  rw [List.take_length, List.take_zero, List.append_nil, List.take_succ_eq_append_getElem hi, List.flatMap_append, xth_get hi]
  simp
theorem preK_zero (xs : List Nx) : preK xs 0 0 = [] := by unfold preK allK; simp
theorem preK_all (xs : List Nx) : preK xs xs.length 0 = allK xs := by unfold preK; simp
theorem preK_pre {xs : List Nx} {i j : Nat} (hi : i < xs.length) (hj : j ≤ (xth xs i).kids.length) : ∃ r, allK xs = preK xs i j ++ r := by
  refine ⟨(xth xs i).kids.drop j ++ allK (xs.drop (i + 1)), ?_⟩
  unfold preK allK
  conv => lhs; rw [list_cut hi]
  rw [List.flatMap_append, List.flatMap_cons, xth_get hi, List.append_assoc, ← List.append_assoc (xs[i].kids.take j), List.take_append_drop]
def kd (xs : List Nx) (k : Nat) : List Nat := (xth xs k).kids.map Int.toNat
inductive Reach (xs : List Nx) : Nat → Prop
  | zero : Reach xs 0
  | kid {k u : Nat} (h : Reach xs k) (hu : u ∈ kd xs k) : Reach xs u
def treeP (xs : List Nx) : Prop := okP xs.length (allK xs) ∧ ∀ k, k < xs.length → Reach xs k
noncomputable def treeB (xs : List Nx) : Bool := @decide (treeP xs) (Classical.propDecidable _)
theorem treeB_iff {xs : List Nx} : treeB xs = true ↔ treeP xs := by unfold treeB; exact @decide_eq_true_iff _ (Classical.propDecidable _)
theorem treeB_false {xs : List Nx} (h : ¬ treeP xs) : treeB xs = false := by unfold treeB; exact @decide_eq_false _ (Classical.propDecidable _) h
/-- Each one's kids stand behind it, or are still to be looked at. -/
def ordV (xs : List Nx) : List Nat → List Nat → Prop
  | [], _ => True
  | k :: V, todo => (∀ u ∈ kd xs k, u ∈ V ++ todo) ∧ ordV xs V todo
/-- What has been reached, and what is still to be looked at. -/
structure Vis (xs : List Nx) (V todo : List Nat) : Prop where
  perm : (V ++ todo).Perm (0 :: V.flatMap (kd xs))
  ord : ordV xs V todo
  reach : ∀ k ∈ V ++ todo, Reach xs k
  nd : V.Nodup
theorem xth_out {xs : List Nx} {k : Nat} (h : xs.length ≤ k) : xth xs k = nxD := by unfold xth; rw [List.getD_eq_getElem?_getD, List.getElem?_eq_none h]; rfl
theorem kd_mem {xs : List Nx} {k u : Nat} (h : u ∈ kd xs k) : k < xs.length ∧ ∃ x ∈ allK xs, x ∈ (xth xs k).kids ∧ x.toNat = u := by
  unfold kd at h
  obtain ⟨x, hx, rfl⟩ := List.mem_map.1 h
  have hk : k < xs.length := by
    rcases Nat.lt_or_ge k xs.length with h1 | h1
    · exact h1
    · rw [xth_out h1] at hx; cases hx
  refine ⟨hk, x, ?_, hx, rfl⟩
  rw [xth_get hk] at hx
  exact List.mem_flatMap.2 ⟨xs[k], List.getElem_mem hk, hx⟩
theorem kd_rng {xs : List Nx} (ok : okP xs.length (allK xs)) {k u : Nat} (h : u ∈ kd xs k) : 1 ≤ u ∧ u < xs.length := by
  obtain ⟨_, x, hx, _, rfl⟩ := kd_mem h
  have := ok.1 x hx
  omega
theorem kd_nodup {xs : List Nx} (ok : okP xs.length (allK xs)) (k : Nat) : (kd xs k).Nodup := by
  rcases Nat.lt_or_ge k xs.length with h1 | h1
  · have h2 := (List.pairwise_flatMap.1 ok.2).1 xs[k] (List.getElem_mem h1)
    unfold kd
    rw [xth_get h1]
    refine List.pairwise_map.2 (h2.imp_of_mem (fun {a b} ha hb hab e => hab ?_))
    have q1 := ok.1 a (List.mem_flatMap.2 ⟨xs[k], List.getElem_mem h1, ha⟩)
    have q2 := ok.1 b (List.mem_flatMap.2 ⟨xs[k], List.getElem_mem h1, hb⟩)
    omega
  · unfold kd
    rw [xth_out h1]
    exact List.Pairwise.nil
theorem kd_apart {xs : List Nx} (ok : okP xs.length (allK xs)) {i j : Nat} (hij : i ≠ j) {u : Nat} (hi : u ∈ kd xs i) (hj : u ∈ kd xs j) : False := by
  have key : ∀ {i j : Nat}, i < j → u ∈ kd xs i → u ∈ kd xs j → False := fun {i j} h hi hj => by
    obtain ⟨h1, x, hx, hx2, e1⟩ := kd_mem hi
    obtain ⟨h2, y, hy, hy2, e2⟩ := kd_mem hj
    have h3 := (List.pairwise_iff_getElem.1 (List.pairwise_flatMap.1 ok.2).2) i j h1 h2 h
    rw [xth_get h1] at hx2
    rw [xth_get h2] at hy2
    have q1 := ok.1 x hx
    have q2 := ok.1 y hy
    exact h3 x hx2 y hy2 (by omega)
  rcases Nat.lt_or_gt_of_ne hij with h | h
  · exact key h hi hj
  · exact key h hj hi
section
variable {xs : List Nx} {V todo : List Nat}
theorem Vis.start : Vis xs [] [0] := ⟨by simp, trivial, fun k hk => by rw [List.nil_append] at hk; rw [List.mem_singleton.1 hk]; exact .zero, List.Pairwise.nil⟩
theorem Vis.lt (h : Vis xs V todo) (ok : okP xs.length (allK xs)) (hn : 0 < xs.length) : ∀ k ∈ V ++ todo, k < xs.length := fun k hk => by
  rcases List.mem_cons.1 (h.perm.mem_iff.1 hk) with rfl | hk
  · exact hn
  · obtain ⟨u, _, hu⟩ := List.mem_flatMap.1 hk
    exact (kd_rng ok hu).2
theorem Vis.nodup (h : Vis xs V todo) (ok : okP xs.length (allK xs)) : (V ++ todo).Nodup := by
  refine h.perm.nodup_iff.2 (List.nodup_cons.2 ⟨fun h0 => ?_, ?_⟩)
  · obtain ⟨u, _, hu⟩ := List.mem_flatMap.1 h0
    have := (kd_rng ok hu).1
    omega
  · refine List.pairwise_flatMap.2 ⟨fun k _ => kd_nodup ok k, h.nd.imp (fun {a b} hab x hx y hy e => ?_)⟩
    subst e
    exact kd_apart ok hab hx hy
theorem ordV_step {k : Nat} {rest : List Nat} (hs : ∀ x ∈ todo, x = k ∨ x ∈ rest) : ∀ {V : List Nat}, ordV xs V todo → ordV xs (V ++ [k]) (rest ++ kd xs k)
  | [], _ => ⟨fun u hu => List.mem_append_right _ (List.mem_append_right _ hu), trivial⟩
  | a :: V, ⟨h1, h2⟩ => by
    refine ⟨fun u hu => ?_, ordV_step hs h2⟩
    rcases List.mem_append.1 (h1 u hu) with h3 | h3
    · exact List.mem_append_left _ (List.mem_append_left _ h3)
    · rcases hs u h3 with rfl | h4
      · exact List.mem_append_left _ (List.mem_append_right _ (List.mem_singleton.2 rfl))
      · exact List.mem_append_right _ (List.mem_append_left _ h4)
theorem Vis.step (h : Vis xs V todo) (ok : okP xs.length (allK xs)) {k : Nat} {rest : List Nat} (hp : todo.Perm (k :: rest)) : Vis xs (V ++ [k]) (rest ++ kd xs k) ∧ k ∉ V := by
  have hk : k ∉ V := fun hk => (List.nodup_append.1 (h.nodup ok)).2.2 k hk k (hp.mem_iff.2 List.mem_cons_self) rfl
  refine ⟨⟨?_, ordV_step (fun x hx => List.mem_cons.1 (hp.mem_iff.1 hx)) h.ord, fun x hx => ?_, ?_⟩, hk⟩
  · have h1 : ((V ++ todo) ++ kd xs k).Perm ((0 :: V.flatMap (kd xs)) ++ kd xs k) := h.perm.append_right _
    have h2 : ((V ++ (k :: rest)) ++ kd xs k).Perm ((V ++ todo) ++ kd xs k) := (hp.symm.append_left V).append_right _
    have h3 := h2.trans h1
    rw [List.flatMap_append]
    simpa using h3
  · rcases List.mem_append.1 hx with h1 | h1
    · rcases List.mem_append.1 h1 with h2 | h2
      · exact h.reach x (List.mem_append_left _ h2)
      · rw [List.mem_singleton.1 h2]
        exact h.reach k (List.mem_append_right _ (hp.mem_iff.2 List.mem_cons_self))
    · rcases List.mem_append.1 h1 with h2 | h2
      · exact h.reach x (List.mem_append_right _ (hp.mem_iff.2 (List.mem_cons_of_mem _ h2)))
      · exact .kid (h.reach k (List.mem_append_right _ (hp.mem_iff.2 List.mem_cons_self))) h2
  · exact List.nodup_append.2 ⟨h.nd, by simp, fun x hx y hy e => hk (by rw [List.mem_singleton.1 hy] at e; rw [← e]; exact hx)⟩
end
theorem nodup_le : ∀ {n : Nat} {l : List Nat}, l.Nodup → (∀ x ∈ l, x < n) → l.length ≤ n
  | 0, l, _, h => by
    cases l with
    | nil => exact Nat.le_refl _
    | cons x l => exact absurd (h x List.mem_cons_self) (by omega)
  | n + 1, l, hn, h => by
    have h1 : (l.erase n).length ≤ n := nodup_le (hn.erase n) (fun x hx => by
      have h2 := h x (List.mem_of_mem_erase hx)
      have h3 : x ≠ n := fun e => by
        rw [e] at hx
        exact (hn.mem_erase_iff.1 hx).1 rfl
      omega)
    have h4 : l.length ≤ (l.erase n).length + 1 := by
      by_cases hm : n ∈ l
      · rw [List.length_erase_of_mem hm]; omega
      · rw [List.erase_of_not_mem hm]; omega
    omega
theorem full_le : ∀ {n : Nat} {l : List Nat}, (∀ k, k < n → k ∈ l) → n ≤ l.length
  | 0, _, _ => Nat.zero_le _
  | n + 1, l, h => by
    have h1 : n ≤ (l.erase n).length := full_le (fun k hk => (List.mem_erase_of_ne (by omega)).2 (h k (by omega)))
    rw [List.length_erase_of_mem (h n (by omega))] at h1
    have : 0 < l.length := List.length_pos_of_mem (h n (by omega))
    omega
section
variable {xs : List Nx} {V todo : List Nat}
theorem Vis.le (h : Vis xs V todo) (ok : okP xs.length (allK xs)) (hn : 0 < xs.length) : V.length ≤ xs.length := nodup_le h.nd (fun x hx => h.lt ok hn x (List.mem_append_left _ hx))
theorem Vis.le2 (h : Vis xs V todo) (ok : okP xs.length (allK xs)) (hn : 0 < xs.length) : V.length + todo.length ≤ xs.length := by
  rw [← List.length_append]
  exact nodup_le (h.nodup ok) (h.lt ok hn)
theorem ordV_in : ∀ {V : List Nat}, ordV xs V [] → ∀ k ∈ V, ∀ u ∈ kd xs k, u ∈ V
  | a :: V, ⟨h1, h2⟩, k, hk, u, hu => by
    rcases List.mem_cons.1 hk with rfl | hk
    · exact List.mem_cons_of_mem _ (by have := h1 u hu; rwa [List.append_nil] at this)
    · exact List.mem_cons_of_mem _ (ordV_in h2 k hk u hu)
theorem Vis.all (h : Vis xs V []) (ok : okP xs.length (allK xs)) (hn : 0 < xs.length) : V.length = xs.length ↔ ∀ k, k < xs.length → Reach xs k := by
  have h0 : 0 ∈ V := by have := h.perm.mem_iff.2 List.mem_cons_self; rwa [List.append_nil] at this
  have hr : ∀ k, Reach xs k → k ∈ V := fun k hk => by
    induction hk with
    | zero => exact h0
    | kid _ hu ih => exact ordV_in h.ord _ ih _ hu
  constructor
  · intro e k hk
    refine h.reach k (List.mem_append_left _ (Classical.byContradiction fun hc => ?_))
    have h1 := nodup_le (n := xs.length) (l := k :: V) (List.nodup_cons.2 ⟨hc, h.nd⟩) (fun x hx => by
      rcases List.mem_cons.1 hx with rfl | hx
      · exact hk
      · exact h.lt ok hn x (List.mem_append_left _ hx))
    rw [List.length_cons] at h1
    omega
  · intro ha
    have h1 := full_le (fun k hk => hr k (ha k hk))
    have h2 := h.le ok hn
    omega
theorem Vis.tree (h : Vis xs V []) (ok : okP xs.length (allK xs)) (hn : 0 < xs.length) : decide (V.length = xs.length) = treeB xs := by
  by_cases e : V.length = xs.length
  · rw [decide_eq_true e, treeB_iff.2 ⟨ok, (h.all ok hn).1 e⟩]
  · rw [decide_eq_false e, treeB_false (fun ht => e ((h.all ok hn).2 ht.2))]
theorem Vis.run (ok : okP xs.length (allK xs)) (hn : 0 < xs.length) : ∀ (m : Nat) (V todo : List Nat), Vis xs V todo → xs.length - V.length ≤ m → ∃ V', Vis xs V' []
  | m, V, [], h, _ => ⟨V, h⟩
  | 0, V, k :: rest, h, hm => by
    have h1 := h.le2 ok hn
    rw [List.length_cons] at h1
    omega
  | m + 1, V, k :: rest, h, hm => Vis.run ok hn m (V ++ [k]) (rest ++ kd xs k) (h.step ok (List.Perm.refl _)).1 (by rw [List.length_append, List.length_cons, List.length_nil]; omega)
end
/-- What hangs below a node is finite. -/
def UT (xs : List Nx) : Nat → Nat → Prop
  | 0, _ => False
  | f + 1, k => k < xs.length ∧ ∀ u ∈ kd xs k, UT xs f u
theorem UT.up {xs : List Nx} : ∀ {f k : Nat}, UT xs f k → UT xs (f + 1) k
  | 0, _, h => h.elim
  | f + 1, k, ⟨h1, h2⟩ => ⟨h1, fun u hu => UT.up (h2 u hu)⟩
theorem UT.mono {xs : List Nx} {f g k : Nat} (h : UT xs f k) (hg : f ≤ g) : UT xs g k := by
  induction hg with
  | refl => exact h
  | step _ ih => exact ih.up
theorem ordV_ut {xs : List Nx} : ∀ {V : List Nat}, ordV xs V [] → (∀ k ∈ V, k < xs.length) → ∀ k ∈ V, UT xs V.length k
  | a :: V, ⟨h1, h2⟩, hl, k, hk => by
    have ih := ordV_ut h2 (fun k hk => hl k (List.mem_cons_of_mem _ hk))
    rcases List.mem_cons.1 hk with rfl | hk
    · exact ⟨hl k List.mem_cons_self, fun u hu => ih u (by have := h1 u hu; rwa [List.append_nil] at this)⟩
    · exact (ih k hk).up
theorem tree_ut {xs : List Nx} (h : treeP xs) (hn : 0 < xs.length) : UT xs xs.length 0 := by
  obtain ⟨V, hV⟩ := Vis.run h.1 hn _ [] [0] Vis.start (Nat.le_refl _)
  have h0 : 0 ∈ V := by have := hV.perm.mem_iff.2 List.mem_cons_self; rwa [List.append_nil] at this
  exact (ordV_ut hV.ord (fun k hk => hV.lt h.1 hn k (List.mem_append_left _ hk)) 0 h0).mono (hV.le h.1 hn)
end Go.Proofs.Ytpijfiaecicpfaa
