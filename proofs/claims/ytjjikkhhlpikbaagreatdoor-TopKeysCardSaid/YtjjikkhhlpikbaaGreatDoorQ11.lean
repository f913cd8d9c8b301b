/-
  An index that is played with; Build of the program; For TopKeys, plainly: entries put in and taken out as permutations; sorting by insertion; What an index of nodes is as a tree: the nodes below one, depths, the entries in order; what is wrong with it first. No program in sight; When nodes are a tree: each but the first the kid of just one, and all reached. No program in sight.
-/
import Derived.Test.YtjjikkhhlpikbaaGreatDoorQ10
import Derived.Test.YtjjikkhhlpikbaaGreatDoorQ3
import Derived.Test.YtjjikkhhlpikbaaGreatDoorQ8
set_option maxRecDepth 100000
set_option maxHeartbeats 40000000
set_option linter.unusedVariables false
set_option linter.unusedSimpArgs false
namespace Go.Proofs.YtjjikkhhlpikbaaGreatDoor
def okP (n : Nat) (l : List Int) : Prop := (∀ k ∈ l, 1 ≤ k ∧ k < (n : Int)) ∧ l.Nodup
theorem okP_app {n : Nat} {a b : List Int} (h : okP n (a ++ b)) : okP n a := ⟨fun k hk => h.1 k (List.mem_append_left _ hk), (List.nodup_append.1 h.2).1⟩
theorem okP_snoc {n : Nat} {a : List Int} {k : Int} (h : okP n a) : okP n (a ++ [k]) ↔ 1 ≤ k ∧ k < (n : Int) ∧ k ∉ a := by
  constructor
  · intro h2
    have h3 := h2.1 k (List.mem_append_right _ (List.mem_singleton.2 rfl))
    exact ⟨h3.1, h3.2, fun hk => (List.nodup_append.1 h2.2).2.2 k hk k (List.mem_singleton.2 rfl) rfl⟩
  · rintro ⟨h1, h2, h3⟩
    refine ⟨fun x hx => ?_, ?_⟩
    · rcases List.mem_append.1 hx with hx | hx
      · exact h.1 x hx
      · rw [List.mem_singleton.1 hx]; exact ⟨h1, h2⟩
    · exact List.nodup_append.2 ⟨h.2, by simp, fun x hx y hy e => h3 (by rw [List.mem_singleton.1 hy] at e; rw [← e]; exact hx)⟩
def allK (xs : List Nx) : List Int := xs.flatMap Nx.kids
def preK (xs : List Nx) (i j : Nat) : List Int := allK (xs.take i) ++ (xth xs i).kids.take j
theorem preK_step {xs : List Nx} {i j : Nat} (hj : j < (xth xs i).kids.length) : preK xs i (j + 1) = preK xs i j ++ [ith (xth xs i).kids j] := by
  unfold preK
  rw [List.take_succ_eq_append_getElem hj, ith_get hj, List.append_assoc]
theorem preK_next {xs : List Nx} {i : Nat} (hi : i < xs.length) : preK xs i (xth xs i).kids.length = preK xs (i + 1) 0 := by
  unfold preK allK
  rw [List.take_length, List.take_zero, List.append_nil, List.take_succ_eq_append_getElem hi, List.flatMap_append, xth_get hi]
  simp
theorem preK_zero (xs : List Nx) : preK xs 0 0 = [] := by unfold preK allK; simp
theorem preK_all (xs : List Nx) : preK xs xs.length 0 = allK xs := by unfold preK; simp
theorem preK_pre {xs : List Nx} {i j : Nat} (hi : i < xs.length) (hj : j ≤ (xth xs i).kids.length) : ∃ r, allK xs = preK xs i j ++ r := by
  refine ⟨(xth xs i).kids.drop j ++ allK (xs.drop (i + 1)), ?_⟩
  unfold preK allK
  conv => lhs; rw [list_cut hi]
  rw [List.flatMap_append, List.flatMap_cons, xth_get hi, List.append_assoc, ← List.append_assoc (xs[i].kids.take j), List.take_append_drop]
def kd (xs : List Nx) (k : Nat) : List Nat := (xth xs k).kids.map Int.toNat
inductive Reach (xs : List Nx) : Nat → Prop
  | zero : Reach xs 0
  | kid {k u : Nat} (h : Reach xs k) (hu : u ∈ kd xs k) : Reach xs u
def treeP (xs : List Nx) : Prop := okP xs.length (allK xs) ∧ ∀ k, k < xs.length → Reach xs k
noncomputable def treeB (xs : List Nx) : Bool := @decide (treeP xs) (Classical.propDecidable _)
theorem treeB_iff {xs : List Nx} : treeB xs = true ↔ treeP xs := by unfold treeB; exact @decide_eq_true_iff _ (Classical.propDecidable _)
theorem treeB_false {xs : List Nx} (h : ¬ treeP xs) : treeB xs = false := by unfold treeB; exact @decide_eq_false _ (Classical.propDecidable _) h
def ordV (xs : List Nx) : List Nat → List Nat → Prop
  | [], _ => True
  | k :: V, todo => (∀ u ∈ kd xs k, u ∈ V ++ todo) ∧ ordV xs V todo
structure Vis (xs : List Nx) (V todo : List Nat) : Prop where
  perm : (V ++ todo).Perm (0 :: V.flatMap (kd xs))
  ord : ordV xs V todo
  reach : ∀ k ∈ V ++ todo, Reach xs k
  nd : V.Nodup
theorem xth_out {xs : List Nx} {k : Nat} (h : xs.length ≤ k) : xth xs k = nxD := by unfold xth; rw [List.getD_eq_getElem?_getD, List.getElem?_eq_none h]; rfl
theorem kd_mem {xs : List Nx} {k u : Nat} (h : u ∈ kd xs k) : k < xs.length ∧ ∃ x ∈ allK xs, x ∈ (xth xs k).kids ∧ x.toNat = u := by
  unfold kd at h
  obtain ⟨x, hx, rfl⟩ := List.mem_map.1 h
  have hk : k < xs.length := by
    rcases Nat.lt_or_ge k xs.length with h1 | h1
    · exact h1
    · rw [xth_out h1] at hx; cases hx
  refine ⟨hk, x, ?_, hx, rfl⟩
  rw [xth_get hk] at hx
  exact List.mem_flatMap.2 ⟨xs[k], List.getElem_mem hk, hx⟩
theorem kd_rng {xs : List Nx} (ok : okP xs.length (allK xs)) {k u : Nat} (h : u ∈ kd xs k) : 1 ≤ u ∧ u < xs.length := by
  obtain ⟨_, x, hx, _, rfl⟩ := kd_mem h
  have := ok.1 x hx
  omega
theorem kd_nodup {xs : List Nx} (ok : okP xs.length (allK xs)) (k : Nat) : (kd xs k).Nodup := by
  rcases Nat.lt_or_ge k xs.length with h1 | h1
  · have h2 := (List.pairwise_flatMap.1 ok.2).1 xs[k] (List.getElem_mem h1)
    unfold kd
    rw [xth_get h1]
    refine List.pairwise_map.2 (h2.imp_of_mem (fun {a b} ha hb hab e => hab ?_))
    have q1 := ok.1 a (List.mem_flatMap.2 ⟨xs[k], List.getElem_mem h1, ha⟩)
    have q2 := ok.1 b (List.mem_flatMap.2 ⟨xs[k], List.getElem_mem h1, hb⟩)
    omega
  · unfold kd
    rw [xth_out h1]
    exact List.Pairwise.nil
theorem kd_apart {xs : List Nx} (ok : okP xs.length (allK xs)) {i j : Nat} (hij : i ≠ j) {u : Nat} (hi : u ∈ kd xs i) (hj : u ∈ kd xs j) : False := by
  have key : ∀ {i j : Nat}, i < j → u ∈ kd xs i → u ∈ kd xs j → False := fun {i j} h hi hj => by
    obtain ⟨h1, x, hx, hx2, e1⟩ := kd_mem hi
    obtain ⟨h2, y, hy, hy2, e2⟩ := kd_mem hj
    have h3 := (List.pairwise_iff_getElem.1 (List.pairwise_flatMap.1 ok.2).2) i j h1 h2 h
    rw [xth_get h1] at hx2
    rw [xth_get h2] at hy2
    have q1 := ok.1 x hx
    have q2 := ok.1 y hy
    exact h3 x hx2 y hy2 (by omega)
  rcases Nat.lt_or_gt_of_ne hij with h | h
  · exact key h hi hj
  · exact key h hj hi
section
variable {xs : List Nx} {V todo : List Nat}
theorem Vis.start : Vis xs [] [0] := ⟨by simp, trivial, fun k hk => by rw [List.nil_append] at hk; rw [List.mem_singleton.1 hk]; exact .zero, List.Pairwise.nil⟩
theorem Vis.lt (h : Vis xs V todo) (ok : okP xs.length (allK xs)) (hn : 0 < xs.length) : ∀ k ∈ V ++ todo, k < xs.length := fun k hk => by
  rcases List.mem_cons.1 (h.perm.mem_iff.1 hk) with rfl | hk
  · exact hn
  · obtain ⟨u, _, hu⟩ := List.mem_flatMap.1 hk
    exact (kd_rng ok hu).2
theorem Vis.nodup (h : Vis xs V todo) (ok : okP xs.length (allK xs)) : (V ++ todo).Nodup := by
  refine h.perm.nodup_iff.2 (List.nodup_cons.2 ⟨fun h0 => ?_, ?_⟩)
  · obtain ⟨u, _, hu⟩ := List.mem_flatMap.1 h0
    have := (kd_rng ok hu).1
    omega
  · refine List.pairwise_flatMap.2 ⟨fun k _ => kd_nodup ok k, h.nd.imp (fun {a b} hab x hx y hy e => ?_)⟩
    subst e
    exact kd_apart ok hab hx hy
theorem ordV_step {k : Nat} {rest : List Nat} (hs : ∀ x ∈ todo, x = k ∨ x ∈ rest) : ∀ {V : List Nat}, ordV xs V todo → ordV xs (V ++ [k]) (rest ++ kd xs k)
  | [], _ => ⟨fun u hu => List.mem_append_right _ (List.mem_append_right _ hu), trivial⟩
  | a :: V, ⟨h1, h2⟩ => by
    refine ⟨fun u hu => ?_, ordV_step hs h2⟩
    rcases List.mem_append.1 (h1 u hu) with h3 | h3
    · exact List.mem_append_left _ (List.mem_append_left _ h3)
    · rcases hs u h3 with rfl | h4
      · exact List.mem_append_left _ (List.mem_append_right _ (List.mem_singleton.2 rfl))
      · exact List.mem_append_right _ (List.mem_append_left _ h4)
theorem Vis.step (h : Vis xs V todo) (ok : okP xs.length (allK xs)) {k : Nat} {rest : List Nat} (hp : todo.Perm (k :: rest)) : Vis xs (V ++ [k]) (rest ++ kd xs k) ∧ k ∉ V := by
  have hk : k ∉ V := fun hk => (List.nodup_append.1 (h.nodup ok)).2.2 k hk k (hp.mem_iff.2 List.mem_cons_self) rfl
  refine ⟨⟨?_, ordV_step (fun x hx => List.mem_cons.1 (hp.mem_iff.1 hx)) h.ord, fun x hx => ?_, ?_⟩, hk⟩
  · have h1 : ((V ++ todo) ++ kd xs k).Perm ((0 :: V.flatMap (kd xs)) ++ kd xs k) := h.perm.append_right _
    have h2 : ((V ++ (k :: rest)) ++ kd xs k).Perm ((V ++ todo) ++ kd xs k) := (hp.symm.append_left V).append_right _
    have h3 := h2.trans h1
    rw [List.flatMap_append]
    simpa using h3
  · rcases List.mem_append.1 hx with h1 | h1
    · rcases List.mem_append.1 h1 with h2 | h2
      · exact h.reach x (List.mem_append_left _ h2)
      · rw [List.mem_singleton.1 h2]
        exact h.reach k (List.mem_append_right _ (hp.mem_iff.2 List.mem_cons_self))
    · rcases List.mem_append.1 h1 with h2 | h2
      · exact h.reach x (List.mem_append_right _ (hp.mem_iff.2 (List.mem_cons_of_mem _ h2)))
      · exact .kid (h.reach k (List.mem_append_right _ (hp.mem_iff.2 List.mem_cons_self))) h2
  · exact List.nodup_append.2 ⟨h.nd, by simp, fun x hx y hy e => hk (by rw [List.mem_singleton.1 hy] at e; rw [← e]; exact hx)⟩
end
theorem nodup_le : ∀ {n : Nat} {l : List Nat}, l.Nodup → (∀ x ∈ l, x < n) → l.length ≤ n
  | 0, l, _, h => by
    cases l with
    | nil => exact Nat.le_refl _
    | cons x l => exact absurd (h x List.mem_cons_self) (by omega)
  | n + 1, l, hn, h => by
    have h1 : (l.erase n).length ≤ n := nodup_le (hn.erase n) (fun x hx => by
      have h2 := h x (List.mem_of_mem_erase hx)
      have h3 : x ≠ n := fun e => by
        rw [e] at hx
        exact (hn.mem_erase_iff.1 hx).1 rfl
      omega)
    have h4 : l.length ≤ (l.erase n).length + 1 := by
      by_cases hm : n ∈ l
      · rw [List.length_erase_of_mem hm]; omega
      · rw [List.erase_of_not_mem hm]; omega
    omega
theorem full_le : ∀ {n : Nat} {l : List Nat}, (∀ k, k < n → k ∈ l) → n ≤ l.length
  | 0, _, _ => Nat.zero_le _
  | n + 1, l, h => by
    have h1 : n ≤ (l.erase n).length := full_le (fun k hk => (List.mem_erase_of_ne (by omega)).2 (h k (by omega)))
    rw [List.length_erase_of_mem (h n (by omega))] at h1
    have : 0 < l.length := List.length_pos_of_mem (h n (by omega))
    omega
section
variable {xs : List Nx} {V todo : List Nat}
theorem Vis.le (h : Vis xs V todo) (ok : okP xs.length (allK xs)) (hn : 0 < xs.length) : V.length ≤ xs.length := nodup_le h.nd (fun x hx => h.lt ok hn x (List.mem_append_left _ hx))
theorem Vis.le2 (h : Vis xs V todo) (ok : okP xs.length (allK xs)) (hn : 0 < xs.length) : V.length + todo.length ≤ xs.length := by
  rw [← List.length_append]
  exact nodup_le (h.nodup ok) (h.lt ok hn)
theorem ordV_in : ∀ {V : List Nat}, ordV xs V [] → ∀ k ∈ V, ∀ u ∈ kd xs k, u ∈ V
  | a :: V, ⟨h1, h2⟩, k, hk, u, hu => by
    rcases List.mem_cons.1 hk with rfl | hk
    · exact List.mem_cons_of_mem _ (by have := h1 u hu; rwa [List.append_nil] at this)
    · exact List.mem_cons_of_mem _ (ordV_in h2 k hk u hu)
theorem Vis.all (h : Vis xs V []) (ok : okP xs.length (allK xs)) (hn : 0 < xs.length) : V.length = xs.length ↔ ∀ k, k < xs.length → Reach xs k := by
  have h0 : 0 ∈ V := by have := h.perm.mem_iff.2 List.mem_cons_self; rwa [List.append_nil] at this
  have hr : ∀ k, Reach xs k → k ∈ V := fun k hk => by
    induction hk with
    | zero => exact h0
    | kid _ hu ih => exact ordV_in h.ord _ ih _ hu
  constructor
  · intro e k hk
    refine h.reach k (List.mem_append_left _ (Classical.byContradiction fun hc => ?_))
    have h1 := nodup_le (n := xs.length) (l := k :: V) (List.nodup_cons.2 ⟨hc, h.nd⟩) (fun x hx => by
      rcases List.mem_cons.1 hx with rfl | hx
      · exact hk
      · exact h.lt ok hn x (List.mem_append_left _ hx))
    rw [List.length_cons] at h1
    omega
  · intro ha
    have h1 := full_le (fun k hk => hr k (ha k hk))
    have h2 := h.le ok hn
    omega
theorem Vis.tree (h : Vis xs V []) (ok : okP xs.length (allK xs)) (hn : 0 < xs.length) : decide (V.length = xs.length) = treeB xs := by
  by_cases e : V.length = xs.length
  · rw [decide_eq_true e, treeB_iff.2 ⟨ok, (h.all ok hn).1 e⟩]
  · rw [decide_eq_false e, treeB_false (fun ht => e ((h.all ok hn).2 ht.2))]
theorem Vis.run (ok : okP xs.length (allK xs)) (hn : 0 < xs.length) : ∀ (m : Nat) (V todo : List Nat), Vis xs V todo → xs.length - V.length ≤ m → ∃ V', Vis xs V' []
  | m, V, [], h, _ => ⟨V, h⟩
  | 0, V, k :: rest, h, hm => by
    have h1 := h.le2 ok hn
    rw [List.length_cons] at h1
    omega
  | m + 1, V, k :: rest, h, hm => Vis.run ok hn m (V ++ [k]) (rest ++ kd xs k) (h.step ok (List.Perm.refl _)).1 (by rw [List.length_append, List.length_cons, List.length_nil]; omega)
end
def UT (xs : List Nx) : Nat → Nat → Prop
  | 0, _ => False
  | f + 1, k => k < xs.length ∧ ∀ u ∈ kd xs k, UT xs f u
theorem UT.up {xs : List Nx} : ∀ {f k : Nat}, UT xs f k → UT xs (f + 1) k
  | 0, _, h => h.elim
  | f + 1, k, ⟨h1, h2⟩ => ⟨h1, fun u hu => UT.up (h2 u hu)⟩
theorem UT.mono {xs : List Nx} {f g k : Nat} (h : UT xs f k) (hg : f ≤ g) : UT xs g k := by
  induction hg with
  | refl => exact h
  | step _ ih => exact ih.up
theorem ordV_ut {xs : List Nx} : ∀ {V : List Nat}, ordV xs V [] → (∀ k ∈ V, k < xs.length) → ∀ k ∈ V, UT xs V.length k
  | a :: V, ⟨h1, h2⟩, hl, k, hk => by
    have ih := ordV_ut h2 (fun k hk => hl k (List.mem_cons_of_mem _ hk))
    rcases List.mem_cons.1 hk with rfl | hk
    · exact ⟨hl k List.mem_cons_self, fun u hu => ih u (by have := h1 u hu; rwa [List.append_nil] at this)⟩
    · exact (ih k hk).up
theorem tree_ut {xs : List Nx} (h : treeP xs) (hn : 0 < xs.length) : UT xs xs.length 0 := by
  obtain ⟨V, hV⟩ := Vis.run h.1 hn _ [] [0] Vis.start (Nat.le_refl _)
  have h0 : 0 ∈ V := by have := hV.perm.mem_iff.2 List.mem_cons_self; rwa [List.append_nil] at this
  exact (ordV_ut hV.ord (fun k hk => hV.lt h.1 hn k (List.mem_append_left _ hk)) 0 h0).mono (hV.le h.1 hn)
def sub (xs : List Nx) : Nat → Nat → List Nat
  | 0, _ => []
  | f + 1, k => k :: (kd xs k).flatMap (sub xs f)
theorem ordV_perm {xs : List Nx} {todo todo' : List Nat} (hp : ∀ x, x ∈ todo → x ∈ todo') : ∀ {V : List Nat}, ordV xs V todo → ordV xs V todo'
  | [], _ => trivial
  | a :: V, ⟨h1, h2⟩ => ⟨fun u hu => by
      rcases List.mem_append.1 (h1 u hu) with h | h
      · exact List.mem_append_left _ h
      · exact List.mem_append_right _ (hp u h), ordV_perm hp h2⟩
section
variable {xs : List Nx} {V todo : List Nat}
theorem Vis.perm' {todo' : List Nat} (h : Vis xs V todo) (hp : todo.Perm todo') : Vis xs V todo' :=
  ⟨(hp.symm.append_left V).trans h.perm, ordV_perm (fun x hx => hp.mem_iff.1 hx) h.ord, fun k hk => by
    rcases List.mem_append.1 hk with h1 | h1
    · exact h.reach k (List.mem_append_left _ h1)
    · exact h.reach k (List.mem_append_right _ (hp.mem_iff.2 h1)), h.nd⟩
theorem Vis.subs (ok : okP xs.length (allK xs)) : ∀ {f k : Nat} {V todo rest : List Nat}, Vis xs V todo → todo.Perm (k :: rest) → UT xs f k → Vis xs (V ++ sub xs f k) rest
  | 0, _, _, _, _, _, _, h => h.elim
  | f + 1, k, V, todo, rest, hV, hp, hU => by
    have key : ∀ (us : List Nat) (V : List Nat), Vis xs V (us ++ rest) → (∀ u ∈ us, UT xs f u) → Vis xs (V ++ us.flatMap (sub xs f)) rest := fun us => by
      induction us with
      | nil => intro V h _; simpa using h
      | cons u us ih =>
        intro V h hu
        have h1 := Vis.subs ok h (List.Perm.refl _) (hu u List.mem_cons_self)
        have h2 := ih _ h1 (fun x hx => hu x (List.mem_cons_of_mem _ hx))
        rw [List.flatMap_cons, ← List.append_assoc]
        exact h2
    have h1 := key _ _ ((hV.step ok hp).1.perm' List.perm_append_comm) hU.2
    rw [List.append_assoc] at h1
    exact h1
end
theorem sub_le {xs : List Nx} (h : treeP xs) (hn : 0 < xs.length) {f : Nat} (hU : UT xs f 0) : (sub xs f 0).length ≤ xs.length := by
  have h1 := Vis.subs h.1 Vis.start (List.Perm.refl _) hU
  exact h1.le h.1 hn
def UD (xs : List Nx) : Nat → Nat → Prop
  | 0, k => k < xs.length ∧ kd xs k = []
  | h + 1, k => k < xs.length ∧ kd xs k ≠ [] ∧ ∀ u ∈ kd xs k, UD xs h u
theorem UD.lt {xs : List Nx} : ∀ {h k : Nat}, UD xs h k → k < xs.length
  | 0, _, h => h.1
  | _ + 1, _, h => h.1
theorem UD.one {xs : List Nx} : ∀ {h h' k : Nat}, UD xs h k → UD xs h' k → h = h'
  | 0, 0, _, _, _ => rfl
  | 0, h' + 1, _, a, b => absurd a.2 b.2.1
  | h + 1, 0, _, a, b => absurd b.2 a.2.1
  | h + 1, h' + 1, k, a, b => by
    obtain ⟨u, hu⟩ := List.exists_mem_of_ne_nil _ a.2.1
    rw [UD.one (a.2.2 u hu) (b.2.2 u hu)]
theorem UD.fuel {xs : List Nx} : ∀ {h f k : Nat}, UD xs h k → UT xs f k → h < f
  | _, 0, _, _, b => b.elim
  | 0, f + 1, _, _, _ => Nat.succ_pos _
  | h + 1, f + 1, k, a, b => by
    obtain ⟨u, hu⟩ := List.exists_mem_of_ne_nil _ a.2.1
    have := UD.fuel (a.2.2 u hu) (b.2 u hu)
    omega
def DP (xs : List Nx) (k : Nat) (r : Int) : Prop := (∃ h : Nat, r = h ∧ UD xs h k) ∨ (r = -1 ∧ ∀ h, ¬ UD xs h k)
def ents (x : Nx) : List Te := List.zipWith Te.mk x.keys x.recs
theorem ents_len {x : Nx} (h : x.recs.length = x.keys.length) : (ents x).length = x.keys.length := by unfold ents; rw [List.length_zipWith, h, Nat.min_self]
theorem ents_at {x : Nx} (h : x.recs.length = x.keys.length) {k : Nat} (hk : k < x.keys.length) : tth (ents x) k = ⟨sth x.keys k, ith x.recs k⟩ := by
  rw [tth_get (by rw [ents_len h]; exact hk), sth_get hk, ith_get (by omega)]
  unfold ents
  rw [List.getElem_zipWith]
theorem ents_keys {x : Nx} (h : x.recs.length = x.keys.length) : (ents x).map Te.key = x.keys := by
  unfold ents
  rw [List.map_zipWith]
  apply List.ext_getElem
  · rw [List.length_zipWith, h, Nat.min_self]
  · intro i h1 h2; rw [List.getElem_zipWith]
theorem ents_recs {x : Nx} (h : x.recs.length = x.keys.length) : (ents x).map Te.no = x.recs := by
  unfold ents
  rw [List.map_zipWith]
  apply List.ext_getElem
  · rw [List.length_zipWith, h, Nat.min_self]
  · intro i h1 h2; rw [List.getElem_zipWith]
theorem ents_of (l : List Te) (k : List Int) : ents ⟨l.map Te.key, l.map Te.no, k⟩ = l := by
  unfold ents
  induction l with
  | nil => rfl
  | cons x l ih => rw [List.map_cons, List.map_cons, List.zipWith_cons_cons, ih]
def btx (xs : List Nx) : Nat → Nat → BT
  | 0, k => .nd (ents (xth xs k)) []
  | h + 1, k => .nd (ents (xth xs k)) ((kd xs k).map (btx xs h))
theorem shape_is {x : Nx} (h : shapeB x = true) : x.recs.length = x.keys.length ∧ x.keys.length ≤ 4 ∧ (x.kids.length = 0 ∨ x.kids.length = x.keys.length + 1) := by
  unfold shapeB shapeN at h
  simp only [Bool.and_eq_true, Bool.or_eq_true, decide_eq_true_eq] at h
  exact h
def shpX (xs : List Nx) : Prop := ∀ k, k < xs.length → shapeB (xth xs k) = true
theorem kd_len (xs : List Nx) (k : Nat) : (kd xs k).length = (xth xs k).kids.length := by simp [kd]
theorem btx_shw {xs : List Nx} (hs : shpX xs) : ∀ {h k : Nat}, UD xs h k → Shw h (btx xs h k)
  | 0, k, _ => rfl
  | h + 1, k, a => by
    have s1 := shape_is (hs k a.1)
    have hne : (kd xs k).length ≠ 0 := fun e => a.2.1 (List.eq_nil_of_length_eq_zero e)
    rw [kd_len] at hne
    refine ⟨?_, fun K hK => ?_⟩
    · rw [List.length_map, kd_len, ents_len s1.1]; omega
    · obtain ⟨u, hu, rfl⟩ := List.mem_map.1 hK
      exact btx_shw hs (a.2.2 u hu)
theorem sum_le {α : Type} {F G : α → Nat} : ∀ {l : List α}, (∀ x ∈ l, F x ≤ G x) → (l.map F).sum ≤ (l.map G).sum
  | [], _ => Nat.le_refl _
  | x :: l, h => by
    rw [List.map_cons, List.map_cons, List.sum_cons, List.sum_cons]
    have h1 := h x List.mem_cons_self
    have h2 := sum_le (l := l) (fun y hy => h y (List.mem_cons_of_mem _ hy))
    omega
theorem flatMap_len {α β : Type} (F : α → List β) : ∀ l : List α, (l.flatMap F).length = (l.map (fun x => (F x).length)).sum
  | [] => rfl
  | x :: l => by rw [List.flatMap_cons, List.length_append, List.map_cons, List.sum_cons, flatMap_len F l]
theorem sum_mul (m : Nat) {α : Type} (F : α → Nat) : ∀ l : List α, (l.map (fun x => F x * m)).sum = (l.map F).sum * m
  | [] => by simp
  | x :: l => by rw [List.map_cons, List.map_cons, List.sum_cons, List.sum_cons, sum_mul m F l, Nat.add_mul]
theorem btx_len {xs : List Nx} (hs : shpX xs) : ∀ {h f k : Nat}, UD xs h k → UT xs f k → (flat h (btx xs h k)).length ≤ (sub xs f k).length * 4
  | _, 0, _, _, b => b.elim
  | 0, f + 1, k, a, _ => by
    have s1 := shape_is (hs k a.1)
    show (ents (xth xs k)).length ≤ _
    rw [ents_len s1.1]
    show _ ≤ (k :: (kd xs k).flatMap (sub xs f)).length * 4
    rw [List.length_cons]
    omega
  | h + 1, f + 1, k, a, b => by
    have s1 := shape_is (hs k a.1)
    have s2 := btx_shw hs a
    show (flat (h + 1) (.nd (ents (xth xs k)) ((kd xs k).map (btx xs h)))).length ≤ (k :: (kd xs k).flatMap (sub xs f)).length * 4
    rw [flat_len s2.1, ents_len s1.1, List.length_cons, flatMap_len, List.map_map, List.map_map]
    have h1 := sum_le (l := kd xs k) (F := (List.length ∘ flat h) ∘ btx xs h) (G := fun u => (sub xs f u).length * 4) (fun u hu => btx_len hs (a.2.2 u hu) (b.2 u hu))
    rw [sum_mul] at h1
    omega
noncomputable def cdec (p : Prop) : Bool := @decide p (Classical.propDecidable p)
theorem cdec_iff {p : Prop} : cdec p = true ↔ p := @decide_eq_true_iff _ (Classical.propDecidable _)
theorem cdec_not {p : Prop} : cdec p = false ↔ ¬ p := @decide_eq_false_iff_not _ (Classical.propDecidable _)
def fullP (xs : List Nx) : Prop := ∀ k, k < xs.length → (if k = 0 then min 1 (xth xs 0).kids.length else 2) ≤ (xth xs k).keys.length
noncomputable def hX (xs : List Nx) : Nat := @dite _ (∃ h, UD xs h 0) (Classical.propDecidable _) (fun h => h.choose) (fun _ => 0)
theorem hX_is {xs : List Nx} {h : Nat} (hd : UD xs h 0) : hX xs = h := by
  unfold hX
  rw [dif_pos ⟨h, hd⟩]
  exact UD.one (Exists.choose_spec (p := fun h => UD xs h 0) ⟨h, hd⟩) hd
noncomputable def entX (xs : List Nx) : List Te := flat (hX xs) (btx xs (hX xs) 0)
noncomputable def wrongX (xs : List Nx) : Int :=
  if xs.length < 1 ∨ 2400 < xs.length then 1 else if cdec (shpX xs) = false then 2 else if treeB xs = false then 3 else if cdec (fullP xs) = false then 4
  else if cdec (∃ h, UD xs h 0) = false then 5 else if cdec (∀ x ∈ entX xs, okT x = true) = false then 6 else if cdec (Srt (entX xs)) = false then 7 else 0
theorem wrong_none {xs : List Nx} : wrongX xs = 0 ↔ 1 ≤ xs.length ∧ xs.length ≤ 2400 ∧ shpX xs ∧ treeP xs ∧ fullP xs ∧ (∃ h, UD xs h 0) ∧ (∀ x ∈ entX xs, okT x = true) ∧ Srt (entX xs) := by
  unfold wrongX
  constructor
  · intro h
    by_cases c1 : xs.length < 1 ∨ 2400 < xs.length
    · rw [if_pos c1] at h; cases h
    rw [if_neg c1] at h
    by_cases c2 : shpX xs
    · rw [if_neg (fun hc => cdec_not.1 hc c2)] at h
      by_cases c3 : treeP xs
      · rw [if_neg (fun hc => by rw [treeB_iff.2 c3] at hc; cases hc)] at h
        by_cases c4 : fullP xs
        · rw [if_neg (fun hc => cdec_not.1 hc c4)] at h
          by_cases c5 : ∃ h, UD xs h 0
          · rw [if_neg (fun hc => cdec_not.1 hc c5)] at h
            by_cases c6 : ∀ x ∈ entX xs, okT x = true
            · rw [if_neg (fun hc => cdec_not.1 hc c6)] at h
              by_cases c7 : Srt (entX xs)
              · exact ⟨by omega, by omega, c2, c3, c4, c5, c6, c7⟩
              · rw [if_pos (cdec_not.2 c7)] at h; cases h
            · rw [if_pos (cdec_not.2 c6)] at h; cases h
          · rw [if_pos (cdec_not.2 c5)] at h; cases h
        · rw [if_pos (cdec_not.2 c4)] at h; cases h
      · rw [if_pos (treeB_false c3)] at h; cases h
    · rw [if_pos (cdec_not.2 c2)] at h; cases h
  · rintro ⟨c1, c1', c2, c3, c4, c5, c6, c7⟩
    rw [if_neg (by omega), if_neg (fun hc => cdec_not.1 hc c2), if_neg (fun hc => by rw [treeB_iff.2 c3] at hc; cases hc), if_neg (fun hc => cdec_not.1 hc c4), if_neg (fun hc => cdec_not.1 hc c5), if_neg (fun hc => cdec_not.1 hc c6), if_neg (fun hc => cdec_not.1 hc c7)]
theorem wrong_rng (xs : List Nx) : 0 ≤ wrongX xs ∧ wrongX xs ≤ 7 := by
  unfold wrongX
  split
  · decide
  · split
    · decide
    · split
      · decide
      · split
        · decide
        · split
          · decide
          · split
            · decide
            · split <;> decide
theorem srt_steps {l : List Te} : Srt l ↔ ∀ i, i + 1 < l.length → cmpT (tth l i) (tth l (i + 1)) < 0 := by
  constructor
  · intro h i hi
    exact srt_nth h (Nat.lt_succ_self i) hi
  · intro h
    induction l with
    | nil => exact List.Pairwise.nil
    | cons x l ih =>
      have ih := ih (fun i hi => by
        have := h (i + 1) (by simp; omega)
        simpa [tth] using this)
      refine srt_cons.2 ⟨fun y hy => ?_, ih⟩
      cases l with
      | nil => cases hy
      | cons z l =>
        have h0 : cmpT x z < 0 := by
          have := h 0 (by simp)
          simpa [tth] using this
        rcases List.mem_cons.1 hy with rfl | hy
        · exact h0
        · exact cmpT_trans h0 ((srt_cons.1 ih).1 y hy)
open Go.RowKit Go.Shelf
def ascP (L : List Te) : Prop := (∀ x ∈ L, okT x = true) ∧ Srt L
noncomputable def bldE (ks : List ByteArray) (rs : List Int) : Int := if ks.length ≠ rs.length then 10 else if cdec (ascP (ents ⟨ks, rs, []⟩)) = false then 1 else if 1200 < ks.length then 3 else 0
def GiveBT (E : Int) (L : List Te) (w : World) (e : Ending) (w' : World) : Prop := ∃ v E', e = .returned (.tuple #[v, .int .i64 E']) ∧ Ext w w' ∧ (E' = 0 → ∃ t, v = .pointer (some ⟨t, 0, none⟩) ∧ TA w w' t L) ∧ (E' ≠ 0 → v = .pointer none) ∧ E' = E
theorem bt_no {E : Int} {L : List Te} {w w' : World} (hx : Ext w w') (h : E ≠ 0) : GiveBT E L w (.returned (.tuple #[.pointer none, .int .i64 E])) w' := ⟨_, _, rfl, hx, fun h0 => absurd h0 h, fun _ => rfl, rfl⟩
theorem bt_yes {L : List Te} {w w' : World} {t : Nat} (h : TA w w' t L) : GiveBT 0 L w (.returned (.tuple #[.pointer (some ⟨t, 0, none⟩), .int .i64 0])) w' := ⟨_, _, rfl, h.2.1, fun _ => ⟨t, rfl, h⟩, fun h => absurd rfl h, rfl⟩
theorem tput_TA {w0 w : World} {t : Nat} {L : List Te} (H : TA w0 w t L) (x : Te) : Calls Tryz.prog 20 #[.pointer (some ⟨t, 0, none⟩), .agg #[.string x.key, .int .i64 x.no]] w fun e w' => e = .returned (.int .i64 (putEr L x)) ∧ TA w0 w' t (putLs L x) := by
  obtain ⟨h1, h2, h, p, T, fT, h3, h4⟩ := H
  refine (tput_any 0 t L h p T fT x w h3).mono ?_
  rintro e w' ⟨rfl, ht⟩
  exact ⟨rfl, TA.turn h3 h1 h2 h4 ht⟩
theorem put_asc {L : List Te} (h : ascP L) (hn : L.length ≤ 1200) {k : Nat} (hk : k < L.length) : putEr (L.take k) (tth L k) = 0 ∧ putLs (L.take k) (tth L k) = L.take (k + 1) := by
  have hlt : ∀ x ∈ L.take k, cmpT x (tth L k) < 0 := fun x hx => by
    obtain ⟨j, hj, rfl⟩ := List.mem_take_iff_getElem.1 hx
    have := srt_nth h.2 (show j < k by omega) hk
    rw [tth_get (show j < L.length by omega)] at this
    exact this
  have e0 : putEr (L.take k) (tth L k) = 0 := by
    unfold putEr
    rw [if_pos (h.1 _ (by rw [tth_get hk]; exact List.getElem_mem _)), if_neg (by rw [memT_lt hlt]; decide), if_neg (by rw [List.length_take]; omega)]
  refine ⟨e0, ?_⟩
  unfold putLs
  rw [if_pos e0]
  have := insT_app (b := []) hlt
  rw [List.append_nil] at this
  rw [this, List.take_succ_eq_append_getElem hk, tth_get hk]
  rfl
theorem Build_any (A : Option Addr) (n c : Nat) (B : Option Addr) (m d : Nat) (ks : List ByteArray) (rs : List Int) (w : World) (ha : Rd w 1 A n c (strv ks)) (hb : RdI w B m d rs) (hm0 : m ≤ 2000000) : Calls Tryz.prog 32 #[.slice A n c, .slice B m d] w (GiveBT (bldE ks rs) (ents ⟨ks, rs, []⟩) w) := by
  have hm := Rd.max ha
  have hm2 := RdI.max hb
  have hkn : ks.length = n := by have := ha.1; rw [strv_len] at this; omega
  have hrn := hb.len
  by_cases hnm : n = m
  · subst hnm
    have hlr : rs.length = ks.length := by omega
    have hl := ents_len (x := ⟨ks, rs, []⟩) hlr
    have hat := fun k (hk : k < ks.length) => ents_at (x := ⟨ks, rs, []⟩) hlr hk
    have hl' : (ents ⟨ks, rs, []⟩).length = n := by rw [hl]; exact hkn
    have hkey : Hid (∀ k, k < n → ∀ w', Ext w w' → ∃ ka ra, A = some ka ∧ B = some ra ∧ w'.cell? (ka.add k) = some (.string (tth (ents ⟨ks, rs, []⟩) k).key) ∧ w'.cell? (ra.add k) = some (.int .i64 (tth (ents ⟨ks, rs, []⟩) k).no)) := fun k hk w' hx => by
      rw [hat k (by omega)]
      obtain ⟨ka, e1, e2⟩ := rds_at (ha.ext hx) hk
      obtain ⟨ra, e3, e4⟩ := rdi_at (hb.ext hx) hk
      exact ⟨ka, ra, e1, e3, e2, e4⟩
    have hE1 : Hid (¬ ascP (ents ⟨ks, rs, []⟩) → bldE ks rs = 1) := fun h => by unfold bldE; rw [if_neg (by omega), if_pos (cdec_not.2 h)]
    have hE3 : Hid (ascP (ents ⟨ks, rs, []⟩) → 1200 < n → bldE ks rs = 3) := fun h h2 => by unfold bldE; rw [if_neg (by omega), if_neg (fun hc => cdec_not.1 hc h), if_pos (by omega)]
    have hE0 : Hid (ascP (ents ⟨ks, rs, []⟩) → n ≤ 1200 → bldE ks rs = 0) := fun h h2 => by unfold bldE; rw [if_neg (by omega), if_neg (fun hc => cdec_not.1 hc h), if_neg (by omega)]
    have hks : Hid ((ents ⟨ks, rs, []⟩).map Te.key = ks) := ents_keys (x := ⟨ks, rs, []⟩) hlr
    have hrs : Hid ((ents ⟨ks, rs, []⟩).map Te.no = rs) := ents_recs (x := ⟨ks, rs, []⟩) hlr
    have hll := hid hl'
    replace ha := hid ha
    replace hb := hid hb
    clear hat hl hl' hlr hkn hrn
    generalize ents ⟨ks, rs, []⟩ = L at *
    generalize bldE ks rs = E at *
    go_enter Tryz.func32, Tryz.ntmps32
    go_wp2_with fail
    go_loopw [19] (fun i wr => ∃ k : Nat, k ≤ n ∧ i = .int .i64 k ∧ Hid (∀ j, j < k → okT (tth L j) = true ∧ (0 < j → cmpT (tth L (j - 1)) (tth L j) < 0)) ∧ Hid (Ext w wr)) (fun i _ => n - (intOf i).toNat)
    case atStart => exact ⟨0, by omega, rfl, fun j hj => by omega, Ext.refl _⟩
    case round =>
      obtain ⟨k, hk, rfl, hst, hx⟩ := hrel
      by_cases hlt : k < n
      · obtain ⟨ka, ra, rfl, rfl, z0, z1⟩ := hkey.out k hlt wr hx.out
        have hki : (k : Int) < (n : Int) := by omega
        have hst2 := hid (fun (h1 : okT (tth L k) = true) (h2 : 0 < k → cmpT (tth L (k - 1)) (tth L k) < 0) j (hj : j < k + 1) => (by
          by_cases e : j = k
          · rw [e]; exact ⟨h1, h2⟩
          · exact hst.out j (by omega) : okT (tth L j) = true ∧ (0 < j → cmpT (tth L (j - 1)) (tth L j) < 0)))
        have hno1 := hid (fun (h : okT (tth L k) = false) => hE1.out (fun ha => by rw [ha.1 _ (by rw [tth_get (by rw [hll.out]; exact hlt)]; exact List.getElem_mem _)] at h; cases h))
        have hno2 := hid (fun (h0 : 0 < k) (h : ¬ cmpT (tth L (k - 1)) (tth L k) < 0) => hE1.out (fun ha => h (srt_nth ha.2 (by omega) (by rw [hll.out]; exact hlt))))
        clear hst
        cases hok : okT (tth L k) with
        | false =>
          have hEE := hno1.out hok
          subst hEE
          obtain ⟨x, hxx⟩ : ∃ x, x = tth L k := ⟨_, rfl⟩
          rw [← hxx] at z0 z1 hok
          have hE := hid (fun w' => isEntry_any x w')
          rw [show okT x = false from hok] at hE
          clear hok hxx hst2 hno1 hno2
          have hxb := (Ext.refl wr).alloc_right (.cells #[.string x.key, .int .i64 x.no] 65)
          have hb0 := heap_alloc_new wr (.cells #[.string x.key, .int .i64 x.no] 65)
          have zc0 : (wr.alloc (.cells #[.string x.key, .int .i64 x.no] 65)).cell? ⟨wr.heap.size, 0, none⟩ = some (.string x.key) := by rw [Lib.cell_of_heap hb0]; rfl
          have zc1 : (wr.alloc (.cells #[.string x.key, .int .i64 x.no] 65)).cell? ⟨wr.heap.size, 1, none⟩ = some (.int .i64 x.no) := by rw [Lib.cell_of_heap hb0]; rfl
          go_upto_region 7 with fail
          generalize wr.heap.size = b at *
          have I0 : (fun w' : World => w'.cell? ⟨b, 0, none⟩ = some (.string x.key) ∧ w'.cell? ⟨b, 1, none⟩ = some (.int .i64 x.no)) (wr.alloc (.cells #[.string x.key, .int .i64 x.no] 65)).drew := ⟨zc0, zc1⟩
          have hx9 := hid (hx.out.trans hxb.drew_right)
          refine region_J (fun w' : World => w'.cell? ⟨b, 0, none⟩ = some (.string x.key) ∧ w'.cell? ⟨b, 1, none⟩ = some (.int .i64 x.no)) 23 (by kernel_rfl) ?_
          clear z0 z1 zc0 zc1 hxb hb0
          generalize (wr.alloc (.cells #[.string x.key, .int .i64 x.no] 65)).drew = w9 at *
          refine JO 0 (v := ?vp50) I0 ?yp50 ?rp50
          case yp50 => (intro w h; obtain ⟨_, _⟩ := h; go_simp; with_reducible rfl)
          simp only [Act.put, lyA, lyB, lyC, lyD, lyE, lyF]
          refine J_one 1 rfl (by kernel_rfl) (fun K hK => ?_)
          go_simp
          refine (hE.out _).mono ?_
          rintro e' w8 ⟨rfl, hx8⟩
          have I1 : (fun w' : World => w'.cell? ⟨b, 0, none⟩ = some (.string x.key) ∧ w'.cell? ⟨b, 1, none⟩ = some (.int .i64 x.no)) w8 := ⟨hx8.cell I0.1, hx8.cell I0.2⟩
          replace hx9 := hid (hx9.out.trans hx8)
          clear I0 hx8
          refine hK _ _ ⟨fun _ => I1, ?_⟩
          clear hK K
          try simp only [Act.put, lyA, lyB, lyC, lyD, lyE, lyF]
          refine J_one 2 rfl (by kernel_rfl) (fun K hK => ?_)
          go_simp
          refine hK _ _ ⟨fun _ => I1, ?_⟩
          clear hK K
          try simp only [Act.put, lyD, lyE, lyF]
          refine J_one 3 rfl (by kernel_rfl) (fun K hK => ?_)
          go_simp
          refine hK _ _ ⟨fun _ => I1, ?_⟩
          clear hK K
          try simp only [Act.put, lyD, lyE, lyF]
          refine J_takeO 4 rfl (by kernel_rfl) (by kernel_rfl) (by kernel_rfl) (by kernel_rfl) (fun _ _ _ h => h) (Or.inr ⟨by rfl, rfl⟩) I1 ?_
          simp only [Act.put, lyA, lyB, lyC, lyD, lyE, lyF]
          refine J_takeO 5 rfl (by kernel_rfl) (by kernel_rfl) (by kernel_rfl) (by kernel_rfl) (fun _ _ _ h => h) (Or.inr ⟨by rfl, rfl⟩) I1 ?_
          simp only [Act.put, lyA, lyB, lyC, lyD, lyE, lyF]
          refine J_takeO 6 rfl (by kernel_rfl) (by kernel_rfl) (by kernel_rfl) (by kernel_rfl) (fun _ _ _ h => h) (Or.inr ⟨by rfl, rfl⟩) I1 ?_
          simp only [Act.put, lyA, lyB, lyC, lyD, lyE, lyF]
          refine J_takeO 7 rfl (by kernel_rfl) (by kernel_rfl) (by kernel_rfl) (by kernel_rfl) (fun _ _ _ h => h) (Or.inr ⟨by rfl, rfl⟩) I1 ?_
          simp only [Act.put, lyA, lyB, lyC, lyD, lyE, lyF]
          refine J_takeO 8 rfl (by kernel_rfl) (by kernel_rfl) (by kernel_rfl) (by kernel_rfl) (fun _ _ _ h => h) (Or.inr ⟨by rfl, rfl⟩) I1 ?_
          simp only [Act.put, lyA, lyB, lyC, lyD, lyE, lyF]
          refine J_takeO 9 rfl (by kernel_rfl) (by kernel_rfl) (by kernel_rfl) (by kernel_rfl) (fun _ _ _ h => h) (Or.inr ⟨by rfl, rfl⟩) I1 ?_
          simp only [Act.put, lyA, lyB, lyC, lyD, lyE, lyF]
          refine J_takeO 10 rfl (by kernel_rfl) (by kernel_rfl) (by kernel_rfl) (by kernel_rfl) (fun _ _ _ h => h) (Or.inr ⟨by rfl, rfl⟩) I1 ?_
          simp only [Act.put, lyA, lyB, lyC, lyD, lyE, lyF]
          refine J_takeO 11 rfl (by kernel_rfl) (by kernel_rfl) (by kernel_rfl) (by kernel_rfl) (fun _ _ _ h => h) (Or.inr ⟨by rfl, rfl⟩) I1 ?_
          simp only [Act.put, lyA, lyB, lyC, lyD, lyE, lyF]
          refine J_takeO 12 rfl (by kernel_rfl) (by kernel_rfl) (by kernel_rfl) (by kernel_rfl) (fun _ _ _ h => h) (Or.inr ⟨by rfl, rfl⟩) I1 ?_
          simp only [Act.put, lyA, lyB, lyC, lyD, lyE, lyF]
          refine J_takeO 13 rfl (by kernel_rfl) (by kernel_rfl) (by kernel_rfl) (by kernel_rfl) (fun _ _ _ h => h) (Or.inr ⟨by rfl, rfl⟩) I1 ?_
          simp only [Act.put, lyA, lyB, lyC, lyD, lyE, lyF]
          refine J_takeO 14 rfl (by kernel_rfl) (by kernel_rfl) (by kernel_rfl) (by kernel_rfl) (fun _ _ _ h => h) (Or.inr ⟨by rfl, rfl⟩) I1 ?_
          simp only [Act.put, lyA, lyB, lyC, lyD, lyE, lyF]
          refine J_takeO 15 rfl (by kernel_rfl) (by kernel_rfl) (by kernel_rfl) (by kernel_rfl) (fun _ _ _ h => h) (Or.inr ⟨by rfl, rfl⟩) I1 ?_
          simp only [Act.put, lyA, lyB, lyC, lyD, lyE, lyF]
          refine J_takeO 16 rfl (by kernel_rfl) (by kernel_rfl) (by kernel_rfl) (by kernel_rfl) (fun _ _ _ h => h) (Or.inr ⟨by rfl, rfl⟩) I1 ?_
          simp only [Act.put, lyA, lyB, lyC, lyD, lyE, lyF]
          refine J_takeO 17 rfl (by kernel_rfl) (by kernel_rfl) (by kernel_rfl) (by kernel_rfl) (fun _ _ _ h => h) (Or.inr ⟨by rfl, rfl⟩) I1 ?_
          simp only [Act.put, lyA, lyB, lyC, lyD, lyE, lyF]
          refine J_takeO 18 rfl (by kernel_rfl) (by kernel_rfl) (by kernel_rfl) (by kernel_rfl) (fun _ _ _ h => h) (Or.inr ⟨by rfl, rfl⟩) I1 ?_
          simp only [Act.put, lyA, lyB, lyC, lyD, lyE, lyF]
          refine J_takeO 19 rfl (by kernel_rfl) (by kernel_rfl) (by kernel_rfl) (by kernel_rfl) (fun _ _ _ h => h) (Or.inr ⟨by rfl, rfl⟩) I1 ?_
          simp only [Act.put, lyA, lyB, lyC, lyD, lyE, lyF]
          refine J_takeO 20 rfl (by kernel_rfl) (by kernel_rfl) (by kernel_rfl) (by kernel_rfl) (fun _ _ _ h => h) (Or.inr ⟨by rfl, rfl⟩) I1 ?_
          simp only [Act.put, lyA, lyB, lyC, lyD, lyE, lyF]
          refine J_takeO 21 rfl (by kernel_rfl) (by kernel_rfl) (by kernel_rfl) (by kernel_rfl) (fun _ _ _ h => h) (Or.inr ⟨by rfl, rfl⟩) I1 ?_
          simp only [Act.put, lyA, lyB, lyC, lyD, lyE, lyF]
          refine J_one 22 rfl (by kernel_rfl) (fun K hK => ?_)
          go_simp
          refine hK _ _ ⟨fun _ => I1, ?_⟩
          clear hK K
          try simp only [Act.put, lyD, lyE, lyF]
          refine J_done (by kernel_rfl) (OnlyOn.normal ?_)
          go_wp2
          go_ret2
          exact bt_no hx9.out (by decide)
        | true =>
          rcases Nat.eq_zero_or_pos k with rfl | hk0
          · have hst3 := hid (hst2.out hok (fun h => by omega))
            rw [show ka.add 0 = ka by unfold Addr.add; simp] at z0
            rw [show ra.add 0 = ra by unfold Addr.add; simp] at z1
            obtain ⟨x, hxx⟩ : ∃ x, x = tth L 0 := ⟨_, rfl⟩
            rw [← hxx] at z0 z1 hok
            have hE := hid (fun w' => isEntry_any x w')
            rw [show okT x = true from hok] at hE
            clear hok hxx hst2 hno1 hno2
            have hxb := (Ext.refl wr).alloc_right (.cells #[.string x.key, .int .i64 x.no] 65)
            have hb0 := heap_alloc_new wr (.cells #[.string x.key, .int .i64 x.no] 65)
            have zc0 : (wr.alloc (.cells #[.string x.key, .int .i64 x.no] 65)).cell? ⟨wr.heap.size, 0, none⟩ = some (.string x.key) := by rw [Lib.cell_of_heap hb0]; rfl
            have zc1 : (wr.alloc (.cells #[.string x.key, .int .i64 x.no] 65)).cell? ⟨wr.heap.size, 1, none⟩ = some (.int .i64 x.no) := by rw [Lib.cell_of_heap hb0]; rfl
            go_upto_region 7 with fail
            generalize wr.heap.size = b at *
            have I0 : (fun w' : World => w'.cell? ⟨b, 0, none⟩ = some (.string x.key) ∧ w'.cell? ⟨b, 1, none⟩ = some (.int .i64 x.no)) (wr.alloc (.cells #[.string x.key, .int .i64 x.no] 65)).drew := ⟨zc0, zc1⟩
            have hx9 := hid (hx.out.trans hxb.drew_right)
            refine region_J (fun w' : World => w'.cell? ⟨b, 0, none⟩ = some (.string x.key) ∧ w'.cell? ⟨b, 1, none⟩ = some (.int .i64 x.no)) 23 (by kernel_rfl) ?_
            clear z0 z1 zc0 zc1 hxb hb0
            generalize (wr.alloc (.cells #[.string x.key, .int .i64 x.no] 65)).drew = w9 at *
            refine JO 0 (v := ?vp60) I0 ?yp60 ?rp60
            case yp60 => (intro w h; obtain ⟨_, _⟩ := h; go_simp; with_reducible rfl)
            simp only [Act.put, lyA, lyB, lyC, lyD, lyE, lyF]
            refine J_one 1 rfl (by kernel_rfl) (fun K hK => ?_)
            go_simp
            refine (hE.out _).mono ?_
            rintro e' w8 ⟨rfl, hx8⟩
            have I1 : (fun w' : World => w'.cell? ⟨b, 0, none⟩ = some (.string x.key) ∧ w'.cell? ⟨b, 1, none⟩ = some (.int .i64 x.no)) w8 := ⟨hx8.cell I0.1, hx8.cell I0.2⟩
            replace hx9 := hid (hx9.out.trans hx8)
            clear I0 hx8
            refine hK _ _ ⟨fun _ => I1, ?_⟩
            clear hK K
            try simp only [Act.put, lyA, lyB, lyC, lyD, lyE, lyF]
            refine J_one 2 rfl (by kernel_rfl) (fun K hK => ?_)
            go_simp
            refine hK _ _ ⟨fun _ => I1, ?_⟩
            clear hK K
            try simp only [Act.put, lyD, lyE, lyF]
            refine J_one 3 rfl (by kernel_rfl) (fun K hK => ?_)
            go_simp
            refine hK _ _ ⟨fun _ => I1, ?_⟩
            clear hK K
            try simp only [Act.put, lyD, lyE, lyF]
            refine JO 4 (v := ?vp64) I1 ?yp64 ?rp64
            case yp64 => (intro w h; obtain ⟨_, _⟩ := h; go_simp; with_reducible rfl)
            simp only [Act.put, lyA, lyB, lyC, lyD, lyE, lyF]
            refine JO 5 (v := ?vp65) I1 ?yp65 ?rp65
            case yp65 => (intro w h; obtain ⟨_, _⟩ := h; go_simp; with_reducible rfl)
            simp only [Act.put, lyA, lyB, lyC, lyD, lyE, lyF]
            refine JO 6 (v := ?vp66) I1 ?yp66 ?rp66
            case yp66 => (intro w h; obtain ⟨_, _⟩ := h; go_simp; with_reducible rfl)
            simp only [Act.put, lyA, lyB, lyC, lyD, lyE, lyF]
            refine J_takeO 7 rfl (by kernel_rfl) (by kernel_rfl) (by kernel_rfl) (by kernel_rfl) (fun _ _ _ h => h) (Or.inr ⟨by rfl, rfl⟩) I1 ?_
            simp only [Act.put, lyA, lyB, lyC, lyD, lyE, lyF]
            refine J_takeO 8 rfl (by kernel_rfl) (by kernel_rfl) (by kernel_rfl) (by kernel_rfl) (fun _ _ _ h => h) (Or.inr ⟨by rfl, rfl⟩) I1 ?_
            simp only [Act.put, lyA, lyB, lyC, lyD, lyE, lyF]
            refine J_takeO 9 rfl (by kernel_rfl) (by kernel_rfl) (by kernel_rfl) (by kernel_rfl) (fun _ _ _ h => h) (Or.inr ⟨by rfl, rfl⟩) I1 ?_
            simp only [Act.put, lyA, lyB, lyC, lyD, lyE, lyF]
            refine J_takeO 10 rfl (by kernel_rfl) (by kernel_rfl) (by kernel_rfl) (by kernel_rfl) (fun _ _ _ h => h) (Or.inr ⟨by rfl, rfl⟩) I1 ?_
            simp only [Act.put, lyA, lyB, lyC, lyD, lyE, lyF]
            refine J_takeO 11 rfl (by kernel_rfl) (by kernel_rfl) (by kernel_rfl) (by kernel_rfl) (fun _ _ _ h => h) (Or.inr ⟨by rfl, rfl⟩) I1 ?_
            simp only [Act.put, lyA, lyB, lyC, lyD, lyE, lyF]
            refine J_takeO 12 rfl (by kernel_rfl) (by kernel_rfl) (by kernel_rfl) (by kernel_rfl) (fun _ _ _ h => h) (Or.inr ⟨by rfl, rfl⟩) I1 ?_
            simp only [Act.put, lyA, lyB, lyC, lyD, lyE, lyF]
            refine J_takeO 13 rfl (by kernel_rfl) (by kernel_rfl) (by kernel_rfl) (by kernel_rfl) (fun _ _ _ h => h) (Or.inr ⟨by rfl, rfl⟩) I1 ?_
            simp only [Act.put, lyA, lyB, lyC, lyD, lyE, lyF]
            refine J_takeO 14 rfl (by kernel_rfl) (by kernel_rfl) (by kernel_rfl) (by kernel_rfl) (fun _ _ _ h => h) (Or.inr ⟨by rfl, rfl⟩) I1 ?_
            simp only [Act.put, lyA, lyB, lyC, lyD, lyE, lyF]
            refine J_takeO 15 rfl (by kernel_rfl) (by kernel_rfl) (by kernel_rfl) (by kernel_rfl) (fun _ _ _ h => h) (Or.inr ⟨by rfl, rfl⟩) I1 ?_
            simp only [Act.put, lyA, lyB, lyC, lyD, lyE, lyF]
            refine J_takeO 16 rfl (by kernel_rfl) (by kernel_rfl) (by kernel_rfl) (by kernel_rfl) (fun _ _ _ h => h) (Or.inr ⟨by rfl, rfl⟩) I1 ?_
            simp only [Act.put, lyA, lyB, lyC, lyD, lyE, lyF]
            refine J_takeO 17 rfl (by kernel_rfl) (by kernel_rfl) (by kernel_rfl) (by kernel_rfl) (fun _ _ _ h => h) (Or.inr ⟨by rfl, rfl⟩) I1 ?_
            simp only [Act.put, lyA, lyB, lyC, lyD, lyE, lyF]
            refine J_takeO 18 rfl (by kernel_rfl) (by kernel_rfl) (by kernel_rfl) (by kernel_rfl) (fun _ _ _ h => h) (Or.inr ⟨by rfl, rfl⟩) I1 ?_
            simp only [Act.put, lyA, lyB, lyC, lyD, lyE, lyF]
            refine J_takeO 19 rfl (by kernel_rfl) (by kernel_rfl) (by kernel_rfl) (by kernel_rfl) (fun _ _ _ h => h) (Or.inr ⟨by rfl, rfl⟩) I1 ?_
            simp only [Act.put, lyA, lyB, lyC, lyD, lyE, lyF]
            refine J_takeO 20 rfl (by kernel_rfl) (by kernel_rfl) (by kernel_rfl) (by kernel_rfl) (fun _ _ _ h => h) (Or.inr ⟨by rfl, rfl⟩) I1 ?_
            simp only [Act.put, lyA, lyB, lyC, lyD, lyE, lyF]
            refine J_one 21 rfl (by kernel_rfl) (fun K hK => ?_)
            go_simp
            refine hK _ _ ⟨fun _ => I1, ?_⟩
            clear hK K
            try simp only [Act.put, lyD, lyE, lyF]
            refine J_one 22 rfl (by kernel_rfl) (fun K hK => ?_)
            go_simp
            refine hK _ _ ⟨fun _ => I1, ?_⟩
            clear hK K
            try simp only [Act.put, lyD, lyE, lyF]
            refine J_done (by kernel_rfl) (OnlyOn.normal ?_)
            go_wp2
            go_roundw
            case rel => exact ⟨0 + 1, by omega, by go_num, hst3, hx9⟩
            case measure => simp [intOf]; omega
          · obtain ⟨j, hj⟩ : ∃ j, j = k - 1 := ⟨_, rfl⟩
            rw [← hj] at hst2 hno2
            obtain ⟨ka', ra', e1, e2, z2, z3⟩ := hkey.out j (by omega) wr hx.out
            injection e1 with e1
            injection e2 with e2
            subst e1 e2
            have hji : (j : Int) < (n : Int) := by omega
            have hk2 : (0 : Int) < (k : Int) := by omega
            have hwj : IntKind.i64.wrap ((k : Int) - 1) = (j : Int) := by rw [show (k : Int) - 1 = j by omega]; exact IntWalk.i64_in _ (by omega)
            replace hj := hid hj
            by_cases hc : cmpT (tth L j) (tth L k) < 0
            · have hst3 := hid (hst2.out hok (fun _ => hc))
              have hcl := hid hc
              obtain ⟨x, hxx⟩ : ∃ x, x = tth L k := ⟨_, rfl⟩
              obtain ⟨y, hyy⟩ : ∃ y, y = tth L j := ⟨_, rfl⟩
              rw [← hxx] at z0 z1 hok hc
              rw [← hyy] at z2 z3 hc
              have hE := hid (fun w' => isEntry_any x w')
              rw [show okT x = true from hok] at hE
              have hF := hid (fun w' => compare_any y x w')
              have hge : ¬ 0 ≤ cmpT y x := by omega
              generalize cmpT y x = z at *
              clear hok hxx hyy hst2 hno1 hno2 hcl
              have hxb := (Ext.refl wr).alloc_right (.cells #[.string x.key, .int .i64 x.no] 65)
              have hb0 := heap_alloc_new wr (.cells #[.string x.key, .int .i64 x.no] 65)
              have zc0 : (wr.alloc (.cells #[.string x.key, .int .i64 x.no] 65)).cell? ⟨wr.heap.size, 0, none⟩ = some (.string x.key) := by rw [Lib.cell_of_heap hb0]; rfl
              have zc1 : (wr.alloc (.cells #[.string x.key, .int .i64 x.no] 65)).cell? ⟨wr.heap.size, 1, none⟩ = some (.int .i64 x.no) := by rw [Lib.cell_of_heap hb0]; rfl
              go_upto_region 7 with fail
              generalize wr.heap.size = b at *
              have I0 : (fun w' : World => w'.cell? ⟨b, 0, none⟩ = some (.string x.key) ∧ w'.cell? ⟨b, 1, none⟩ = some (.int .i64 x.no) ∧ w'.cell? (ka.add j) = some (.string y.key) ∧ w'.cell? (ra.add j) = some (.int .i64 y.no)) (wr.alloc (.cells #[.string x.key, .int .i64 x.no] 65)).drew := ⟨zc0, zc1, hxb.cell z2, hxb.cell z3⟩
              have hx9 := hid (hx.out.trans hxb.drew_right)
              refine region_J (fun w' : World => w'.cell? ⟨b, 0, none⟩ = some (.string x.key) ∧ w'.cell? ⟨b, 1, none⟩ = some (.int .i64 x.no) ∧ w'.cell? (ka.add j) = some (.string y.key) ∧ w'.cell? (ra.add j) = some (.int .i64 y.no)) 23 (by kernel_rfl) ?_
              clear z0 z1 zc0 zc1 hxb hb0 z2 z3
              generalize (wr.alloc (.cells #[.string x.key, .int .i64 x.no] 65)).drew = w9 at *
              refine JO 0 (v := ?vp70) I0 ?yp70 ?rp70
              case yp70 => (intro w h; obtain ⟨_, _, _, _⟩ := h; go_simp; with_reducible rfl)
              simp only [Act.put, lyA, lyB, lyC, lyD, lyE, lyF]
              refine J_one 1 rfl (by kernel_rfl) (fun K hK => ?_)
              go_simp
              refine (hE.out _).mono ?_
              rintro e' w8 ⟨rfl, hx8⟩
              have I1 : (fun w' : World => w'.cell? ⟨b, 0, none⟩ = some (.string x.key) ∧ w'.cell? ⟨b, 1, none⟩ = some (.int .i64 x.no) ∧ w'.cell? (ka.add j) = some (.string y.key) ∧ w'.cell? (ra.add j) = some (.int .i64 y.no)) w8 := ⟨hx8.cell I0.1, hx8.cell I0.2.1, hx8.cell I0.2.2.1, hx8.cell I0.2.2.2⟩
              replace hx9 := hid (hx9.out.trans hx8)
              clear I0 hx8
              refine hK _ _ ⟨fun _ => I1, ?_⟩
              clear hK K
              try simp only [Act.put, lyA, lyB, lyC, lyD, lyE, lyF]
              refine J_one 2 rfl (by kernel_rfl) (fun K hK => ?_)
              go_simp
              refine hK _ _ ⟨fun _ => I1, ?_⟩
              clear hK K
              try simp only [Act.put, lyD, lyE, lyF]
              refine J_one 3 rfl (by kernel_rfl) (fun K hK => ?_)
              go_simp
              refine hK _ _ ⟨fun _ => I1, ?_⟩
              clear hK K
              try simp only [Act.put, lyD, lyE, lyF]
              refine JO 4 (v := ?vp74) I1 ?yp74 ?rp74
              case yp74 => (intro w h; obtain ⟨_, _, _, _⟩ := h; go_simp; with_reducible rfl)
              simp only [Act.put, lyA, lyB, lyC, lyD, lyE, lyF]
              refine JO 5 (v := ?vp75) I1 ?yp75 ?rp75
              case yp75 => (intro w h; obtain ⟨_, _, _, _⟩ := h; go_simp; with_reducible rfl)
              simp only [Act.put, lyA, lyB, lyC, lyD, lyE, lyF]
              refine JO 6 (v := ?vp76) I1 ?yp76 ?rp76
              case yp76 => (intro w h; obtain ⟨_, _, _, _⟩ := h; go_simp; with_reducible rfl)
              simp only [Act.put, lyA, lyB, lyC, lyD, lyE, lyF]
              refine JO 7 (v := ?vp77) I1 ?yp77 ?rp77
              case yp77 => (intro w h; obtain ⟨_, _, _, _⟩ := h; go_simp; with_reducible rfl)
              simp only [Act.put, lyA, lyB, lyC, lyD, lyE, lyF]
              refine JO 8 (v := ?vp78) I1 ?yp78 ?rp78
              case yp78 => (intro w h; obtain ⟨_, _, _, _⟩ := h; go_simp; with_reducible rfl)
              simp only [Act.put, lyA, lyB, lyC, lyD, lyE, lyF]
              refine JO 9 (v := ?vp79) I1 ?yp79 ?rp79
              case yp79 => (intro w h; obtain ⟨_, _, _, _⟩ := h; go_simp; with_reducible rfl)
              simp only [Act.put, lyA, lyB, lyC, lyD, lyE, lyF]
              refine JO 10 (v := ?vp710) I1 ?yp710 ?rp710
              case yp710 => (intro w h; obtain ⟨_, _, _, _⟩ := h; go_simp; with_reducible rfl)
              simp only [Act.put, lyA, lyB, lyC, lyD, lyE, lyF]
              refine JO 11 (v := ?vp711) I1 ?yp711 ?rp711
              case yp711 => (intro w h; obtain ⟨_, _, _, _⟩ := h; go_simp; with_reducible rfl)
              simp only [Act.put, lyA, lyB, lyC, lyD, lyE, lyF]
              refine JO 12 (v := ?vp712) I1 ?yp712 ?rp712
              case yp712 => (intro w h; obtain ⟨_, _, _, _⟩ := h; go_simp; with_reducible rfl)
              simp only [Act.put, lyA, lyB, lyC, lyD, lyE, lyF]
              refine JO 13 (v := ?vp713) I1 ?yp713 ?rp713
              case yp713 => (intro w h; obtain ⟨_, _, _, _⟩ := h; go_simp; with_reducible rfl)
              simp only [Act.put, lyA, lyB, lyC, lyD, lyE, lyF]
              refine JO 14 (v := ?vp714) I1 ?yp714 ?rp714
              case yp714 => (intro w h; obtain ⟨_, _, _, _⟩ := h; go_simp; with_reducible rfl)
              simp only [Act.put, lyA, lyB, lyC, lyD, lyE, lyF]
              refine JO 15 (v := ?vp715) I1 ?yp715 ?rp715
              case yp715 => (intro w h; obtain ⟨_, _, _, _⟩ := h; go_simp; with_reducible rfl)
              simp only [Act.put, lyA, lyB, lyC, lyD, lyE, lyF]
              refine JO 16 (v := ?vp716) I1 ?yp716 ?rp716
              case yp716 => (intro w h; obtain ⟨_, _, _, _⟩ := h; go_simp; with_reducible rfl)
              simp only [Act.put, lyA, lyB, lyC, lyD, lyE, lyF]
              refine JO 17 (v := ?vp717) I1 ?yp717 ?rp717
              case yp717 => (intro w h; obtain ⟨_, _, _, _⟩ := h; go_simp; with_reducible rfl)
              simp only [Act.put, lyA, lyB, lyC, lyD, lyE, lyF]
              refine JO 18 (v := ?vp718) I1 ?yp718 ?rp718
              case yp718 => (intro w h; obtain ⟨_, _, _, _⟩ := h; go_simp; with_reducible rfl)
              simp only [Act.put, lyA, lyB, lyC, lyD, lyE, lyF]
              refine J_one 19 rfl (by kernel_rfl) (fun K hK => ?_)
              go_simp
              refine (hF.out _).mono ?_
              rintro e' w10 ⟨rfl, hx8⟩
              have I2 : (fun w' : World => w'.cell? ⟨b, 0, none⟩ = some (.string x.key) ∧ w'.cell? ⟨b, 1, none⟩ = some (.int .i64 x.no) ∧ w'.cell? (ka.add j) = some (.string y.key) ∧ w'.cell? (ra.add j) = some (.int .i64 y.no)) w10 := ⟨hx8.cell I1.1, hx8.cell I1.2.1, hx8.cell I1.2.2.1, hx8.cell I1.2.2.2⟩
              replace hx9 := hid (hx9.out.trans hx8)
              clear I1 hx8
              refine hK _ _ ⟨fun _ => I2, ?_⟩
              clear hK K
              try simp only [Act.put, lyA, lyB, lyC, lyD, lyE, lyF]
              refine J_one 20 rfl (by kernel_rfl) (fun K hK => ?_)
              go_simp
              refine hK _ _ ⟨fun _ => I2, ?_⟩
              clear hK K
              try simp only [Act.put, lyD, lyE, lyF]
              refine J_one 21 rfl (by kernel_rfl) (fun K hK => ?_)
              go_simp
              refine hK _ _ ⟨fun _ => I2, ?_⟩
              clear hK K
              try simp only [Act.put, lyD, lyE, lyF]
              refine J_one 22 rfl (by kernel_rfl) (fun K hK => ?_)
              go_simp
              refine hK _ _ ⟨fun _ => I2, ?_⟩
              clear hK K
              try simp only [Act.put, lyD, lyE, lyF]
              refine J_done (by kernel_rfl) (OnlyOn.normal ?_)
              go_wp2
              go_roundw
              case rel => exact ⟨k + 1, by omega, by go_num, hst3, hx9⟩
              case measure => simp [intOf]; omega
            · have hEE := hno2.out hk0 hc
              subst hEE
              obtain ⟨x, hxx⟩ : ∃ x, x = tth L k := ⟨_, rfl⟩
              obtain ⟨y, hyy⟩ : ∃ y, y = tth L j := ⟨_, rfl⟩
              rw [← hxx] at z0 z1 hok hc
              rw [← hyy] at z2 z3 hc
              have hE := hid (fun w' => isEntry_any x w')
              rw [show okT x = true from hok] at hE
              have hF := hid (fun w' => compare_any y x w')
              have hge : 0 ≤ cmpT y x := by omega
              generalize cmpT y x = z at *
              clear hok hxx hyy hst2 hno1 hno2
              have hxb := (Ext.refl wr).alloc_right (.cells #[.string x.key, .int .i64 x.no] 65)
              have hb0 := heap_alloc_new wr (.cells #[.string x.key, .int .i64 x.no] 65)
              have zc0 : (wr.alloc (.cells #[.string x.key, .int .i64 x.no] 65)).cell? ⟨wr.heap.size, 0, none⟩ = some (.string x.key) := by rw [Lib.cell_of_heap hb0]; rfl
              have zc1 : (wr.alloc (.cells #[.string x.key, .int .i64 x.no] 65)).cell? ⟨wr.heap.size, 1, none⟩ = some (.int .i64 x.no) := by rw [Lib.cell_of_heap hb0]; rfl
              go_upto_region 7 with fail
              generalize wr.heap.size = b at *
              have I0 : (fun w' : World => w'.cell? ⟨b, 0, none⟩ = some (.string x.key) ∧ w'.cell? ⟨b, 1, none⟩ = some (.int .i64 x.no) ∧ w'.cell? (ka.add j) = some (.string y.key) ∧ w'.cell? (ra.add j) = some (.int .i64 y.no)) (wr.alloc (.cells #[.string x.key, .int .i64 x.no] 65)).drew := ⟨zc0, zc1, hxb.cell z2, hxb.cell z3⟩
              have hx9 := hid (hx.out.trans hxb.drew_right)
              refine region_J (fun w' : World => w'.cell? ⟨b, 0, none⟩ = some (.string x.key) ∧ w'.cell? ⟨b, 1, none⟩ = some (.int .i64 x.no) ∧ w'.cell? (ka.add j) = some (.string y.key) ∧ w'.cell? (ra.add j) = some (.int .i64 y.no)) 23 (by kernel_rfl) ?_
              clear z0 z1 zc0 zc1 hxb hb0 z2 z3
              generalize (wr.alloc (.cells #[.string x.key, .int .i64 x.no] 65)).drew = w9 at *
              refine JO 0 (v := ?vp80) I0 ?yp80 ?rp80
              case yp80 => (intro w h; obtain ⟨_, _, _, _⟩ := h; go_simp; with_reducible rfl)
              simp only [Act.put, lyA, lyB, lyC, lyD, lyE, lyF]
              refine J_one 1 rfl (by kernel_rfl) (fun K hK => ?_)
              go_simp
              refine (hE.out _).mono ?_
              rintro e' w8 ⟨rfl, hx8⟩
              have I1 : (fun w' : World => w'.cell? ⟨b, 0, none⟩ = some (.string x.key) ∧ w'.cell? ⟨b, 1, none⟩ = some (.int .i64 x.no) ∧ w'.cell? (ka.add j) = some (.string y.key) ∧ w'.cell? (ra.add j) = some (.int .i64 y.no)) w8 := ⟨hx8.cell I0.1, hx8.cell I0.2.1, hx8.cell I0.2.2.1, hx8.cell I0.2.2.2⟩
              replace hx9 := hid (hx9.out.trans hx8)
              clear I0 hx8
              refine hK _ _ ⟨fun _ => I1, ?_⟩
              clear hK K
              try simp only [Act.put, lyA, lyB, lyC, lyD, lyE, lyF]
              refine J_one 2 rfl (by kernel_rfl) (fun K hK => ?_)
              go_simp
              refine hK _ _ ⟨fun _ => I1, ?_⟩
              clear hK K
              try simp only [Act.put, lyD, lyE, lyF]
              refine J_one 3 rfl (by kernel_rfl) (fun K hK => ?_)
              go_simp
              refine hK _ _ ⟨fun _ => I1, ?_⟩
              clear hK K
              try simp only [Act.put, lyD, lyE, lyF]
              refine JO 4 (v := ?vp84) I1 ?yp84 ?rp84
              case yp84 => (intro w h; obtain ⟨_, _, _, _⟩ := h; go_simp; with_reducible rfl)
              simp only [Act.put, lyA, lyB, lyC, lyD, lyE, lyF]
              refine JO 5 (v := ?vp85) I1 ?yp85 ?rp85
              case yp85 => (intro w h; obtain ⟨_, _, _, _⟩ := h; go_simp; with_reducible rfl)
              simp only [Act.put, lyA, lyB, lyC, lyD, lyE, lyF]
              refine JO 6 (v := ?vp86) I1 ?yp86 ?rp86
              case yp86 => (intro w h; obtain ⟨_, _, _, _⟩ := h; go_simp; with_reducible rfl)
              simp only [Act.put, lyA, lyB, lyC, lyD, lyE, lyF]
              refine JO 7 (v := ?vp87) I1 ?yp87 ?rp87
              case yp87 => (intro w h; obtain ⟨_, _, _, _⟩ := h; go_simp; with_reducible rfl)
              simp only [Act.put, lyA, lyB, lyC, lyD, lyE, lyF]
              refine JO 8 (v := ?vp88) I1 ?yp88 ?rp88
              case yp88 => (intro w h; obtain ⟨_, _, _, _⟩ := h; go_simp; with_reducible rfl)
              simp only [Act.put, lyA, lyB, lyC, lyD, lyE, lyF]
              refine JO 9 (v := ?vp89) I1 ?yp89 ?rp89
              case yp89 => (intro w h; obtain ⟨_, _, _, _⟩ := h; go_simp; with_reducible rfl)
              simp only [Act.put, lyA, lyB, lyC, lyD, lyE, lyF]
              refine JO 10 (v := ?vp810) I1 ?yp810 ?rp810
              case yp810 => (intro w h; obtain ⟨_, _, _, _⟩ := h; go_simp; with_reducible rfl)
              simp only [Act.put, lyA, lyB, lyC, lyD, lyE, lyF]
              refine JO 11 (v := ?vp811) I1 ?yp811 ?rp811
              case yp811 => (intro w h; obtain ⟨_, _, _, _⟩ := h; go_simp; with_reducible rfl)
              simp only [Act.put, lyA, lyB, lyC, lyD, lyE, lyF]
              refine JO 12 (v := ?vp812) I1 ?yp812 ?rp812
              case yp812 => (intro w h; obtain ⟨_, _, _, _⟩ := h; go_simp; with_reducible rfl)
              simp only [Act.put, lyA, lyB, lyC, lyD, lyE, lyF]
              refine JO 13 (v := ?vp813) I1 ?yp813 ?rp813
              case yp813 => (intro w h; obtain ⟨_, _, _, _⟩ := h; go_simp; with_reducible rfl)
              simp only [Act.put, lyA, lyB, lyC, lyD, lyE, lyF]
              refine JO 14 (v := ?vp814) I1 ?yp814 ?rp814
              case yp814 => (intro w h; obtain ⟨_, _, _, _⟩ := h; go_simp; with_reducible rfl)
              simp only [Act.put, lyA, lyB, lyC, lyD, lyE, lyF]
              refine JO 15 (v := ?vp815) I1 ?yp815 ?rp815
              case yp815 => (intro w h; obtain ⟨_, _, _, _⟩ := h; go_simp; with_reducible rfl)
              simp only [Act.put, lyA, lyB, lyC, lyD, lyE, lyF]
              refine JO 16 (v := ?vp816) I1 ?yp816 ?rp816
              case yp816 => (intro w h; obtain ⟨_, _, _, _⟩ := h; go_simp; with_reducible rfl)
              simp only [Act.put, lyA, lyB, lyC, lyD, lyE, lyF]
              refine JO 17 (v := ?vp817) I1 ?yp817 ?rp817
              case yp817 => (intro w h; obtain ⟨_, _, _, _⟩ := h; go_simp; with_reducible rfl)
              simp only [Act.put, lyA, lyB, lyC, lyD, lyE, lyF]
              refine JO 18 (v := ?vp818) I1 ?yp818 ?rp818
              case yp818 => (intro w h; obtain ⟨_, _, _, _⟩ := h; go_simp; with_reducible rfl)
              simp only [Act.put, lyA, lyB, lyC, lyD, lyE, lyF]
              refine J_one 19 rfl (by kernel_rfl) (fun K hK => ?_)
              go_simp
              refine (hF.out _).mono ?_
              rintro e' w10 ⟨rfl, hx8⟩
              have I2 : (fun w' : World => w'.cell? ⟨b, 0, none⟩ = some (.string x.key) ∧ w'.cell? ⟨b, 1, none⟩ = some (.int .i64 x.no) ∧ w'.cell? (ka.add j) = some (.string y.key) ∧ w'.cell? (ra.add j) = some (.int .i64 y.no)) w10 := ⟨hx8.cell I1.1, hx8.cell I1.2.1, hx8.cell I1.2.2.1, hx8.cell I1.2.2.2⟩
              replace hx9 := hid (hx9.out.trans hx8)
              clear I1 hx8
              refine hK _ _ ⟨fun _ => I2, ?_⟩
              clear hK K
              try simp only [Act.put, lyA, lyB, lyC, lyD, lyE, lyF]
              refine J_one 20 rfl (by kernel_rfl) (fun K hK => ?_)
              go_simp
              refine hK _ _ ⟨fun _ => I2, ?_⟩
              clear hK K
              try simp only [Act.put, lyD, lyE, lyF]
              refine J_one 21 rfl (by kernel_rfl) (fun K hK => ?_)
              go_simp
              refine hK _ _ ⟨fun _ => I2, ?_⟩
              clear hK K
              try simp only [Act.put, lyD, lyE, lyF]
              refine J_one 22 rfl (by kernel_rfl) (fun K hK => ?_)
              go_simp
              refine hK _ _ ⟨fun _ => I2, ?_⟩
              clear hK K
              try simp only [Act.put, lyD, lyE, lyF]
              refine J_done (by kernel_rfl) (OnlyOn.normal ?_)
              go_wp2
              go_ret2
              exact bt_no hx9.out (by decide)
      · obtain rfl : n = k := by omega
        have hasc : Hid (ascP L) := ⟨fun x hx => by
          obtain ⟨j, hj, rfl⟩ := List.mem_iff_getElem.1 hx
          rw [← tth_get hj]
          exact (hst.out j (by rw [← hll.out]; exact hj)).1, srt_steps.2 (fun i hi => by
          have := (hst.out (i + 1) (by rw [← hll.out]; exact hi)).2 (by omega)
          exact this)⟩
        clear hst
        by_cases hbig : 1200 < n
        · have hEE := hE3.out hasc.out hbig
          subst hEE
          have hb2 : (1200 : Int) < (n : Int) := by omega
          go_wp2
          go_ret2
          exact bt_no hx.out (by decide)
        · have hEE := hE0.out hasc.out (by omega)
          subst hEE
          have hb2 : ¬ (1200 : Int) < (n : Int) := by omega
          have hn12 : n ≤ 1200 := by omega
          clear hbig hE0 hE1 hE3
          have hN := hid (New_TA w wr hx.out)
          clear hx
          go_wp2_with fail
          refine hN.out.mono ?_
          rintro e w1 ⟨t, rfl, hT, -⟩
          replace hT : Hid (TA w w1 t (L.take 0)) := by rw [List.take_zero]; exact hT
          clear hN
          go_wp2_with fail
          go_loopw [60] (fun i wr => ∃ k : Nat, k ≤ n ∧ i = .int .i64 k ∧ Hid (TA w wr t (L.take k))) (fun i _ => n - (intOf i).toNat)
          case atStart => exact ⟨0, by omega, rfl, hT⟩
          case round =>
            clear hT
            obtain ⟨k, hk, rfl, hT⟩ := hrel
            by_cases hlt : k < n
            · obtain ⟨ka, ra, rfl, rfl, z0, z1⟩ := hkey.out k hlt wr hT.out.2.1
              have hki : (k : Int) < (n : Int) := by omega
              obtain ⟨q1, q2⟩ := put_asc hasc.out (by rw [hll.out]; exact hn12) (show k < L.length by rw [hll.out]; exact hlt)
              have hP := hid (tput_TA hT.out (tth L k))
              rw [q1, q2] at hP
              clear q1 q2 hT
              generalize tth L k = x at *
              go_wp2_with fail
              refine hP.out.mono ?_
              rintro e w2 ⟨rfl, hT2⟩
              replace hT2 := hid hT2
              clear hP z0 z1
              go_wp2_with fail
              go_roundw
              case rel => exact ⟨k + 1, by omega, by go_num, hT2⟩
              case measure => simp [intOf]; omega
            · obtain rfl : n = k := by omega
              have hT3 : Hid (TA w wr t L) := by have h9 := hT.out; rw [List.take_of_length_le (by rw [hll.out]; exact Nat.le_refl _)] at h9; exact h9
              clear hT
              go_wp2
              go_ret2
              exact bt_yes hT3.out
  · have hE : Hid (bldE ks rs = 10) := by unfold Hid bldE; rw [if_pos (by omega)]
    rw [hE.out]
    have h1 : ((n : Int) != (m : Int)) = true := by simpa using (by omega : ¬ (n : Int) = m)
    clear hE
    replace ha := hid ha
    replace hb := hid hb
    clear hkn hrn
    go_enter Tryz.func32, Tryz.ntmps32
    go_wp2
    go_ret2
    exact bt_no (Ext.refl _) (by decide)
open Go.RowKit Go.Shelf
section
variable {w0 w w' : World} {t : Nat} {L : List Te}
theorem At_TA (H : TA w0 w t L) (i : Int) (o : Option Te) (ho : Hid (o = atT L i)) : Calls Tryz.prog 13 #[.pointer (some ⟨t, 0, none⟩), .int .i64 i] w (Give (TV o) w) := by
  obtain ⟨h1, h2, h, p, T, fT, h3, h4⟩ := H
  exact At_any t L h p T fT i w h3 o ho
theorem Range_TA (H : TA w0 w t L) (lo hi : ByteArray) (most : Int) (l : List Te) (hl : Hid (l = rangeT (betwT L lo hi) most)) : Calls Tryz.prog 27 #[.pointer (some ⟨t, 0, none⟩), .string lo, .string hi, .int .i64 most] w (GiveE l w) := by
  obtain ⟨h1, h2, h, p, T, fT, h3, h4⟩ := H
  exact Range_any t L h p T fT lo hi most w h3 l hl
theorem Same_TA {u : Nat} {M : List Te} {v0 : World} (H : TA w0 w t L) (H2 : TA v0 w u M) (R : Bool) (hR : Hid (R = true ↔ L = M)) : Calls Tryz.prog 37 #[.pointer (some ⟨t, 0, none⟩), .pointer (some ⟨u, 0, none⟩)] w (Give (.bool R) w) := by
  obtain ⟨h1, h2, h, p, T, fT, h3, h4⟩ := H
  obtain ⟨k1, k2, h', p', T', fU, k3, k4⟩ := H2
  exact Same_any t u L M h p h' p' T T' fT fU w h3 k3 R hR
def TK (w0 w2 w5 w : World) (t : Nat) (L : List Te) : Prop := w0.heap.size ≤ t ∧ Ext w0 w ∧ t < w2.heap.size ∧ w5.heap.size ≤ w.heap.size ∧ (∀ a, w2.heap.size ≤ a → a < w5.heap.size → w.heap[a]? = w5.heap[a]?) ∧ ∃ h p T fT, TreeAt 0 w t L h p T fT ∧ (∀ a, a < w0.heap.size → fT a = 0) ∧ ∀ a, w2.heap.size ≤ a → a < w5.heap.size → fT a = 0
theorem TK.ta {w2 w5 : World} (H : TK w0 w2 w5 w t L) : TA w0 w t L := by
  obtain ⟨h1, h2, h3, h4, h5, h, p, T, fT, h6, h7, h8⟩ := H
  exact ⟨h1, h2, h, p, T, fT, h6, h7⟩
theorem TK.ext {w2 w5 : World} (H : TK w0 w2 w5 w t L) (hx : Ext w w') : TK w0 w2 w5 w' t L := by
  obtain ⟨h1, h2, h3, h4, h5, h, p, T, fT, h6, h7, h8⟩ := H
  exact ⟨h1, h2.trans hx, h3, Nat.le_trans h4 hx.size, fun a ha hb => (hx.block (Nat.lt_of_lt_of_le hb h4)).trans (h5 a ha hb), h, p, T, fT, h6.ext hx, h7, h8⟩
theorem TK.start {w2 w5 : World} (H : TA w0 w2 t L) (hx : Ext w2 w5) : TK w0 w2 w5 w5 t L := by
  obtain ⟨h1, h2, h, p, T, fT, h3, h4⟩ := H
  refine ⟨h1, h2.trans hx, h3.lt, Nat.le_refl _, fun _ _ _ => rfl, h, p, T, fT, h3.ext hx, h4, fun a ha _ => h3.tn.bound a ha⟩
theorem TK.put {w2 w5 : World} (H : TK w0 w2 w5 w t L) (s : ByteArray) (n : Int) : Calls Tryz.prog 8 #[.pointer (some ⟨t, 0, none⟩), .string s, .int .i64 n] w fun e w' => e = .returned (.int .i64 (putEr L ⟨s, n⟩)) ∧ TK w0 w2 w5 w' t (putLs L ⟨s, n⟩) := by
  obtain ⟨h1, h2, h3, h4, h5, h, p, T, fT, h6, h7, h8⟩ := H
  refine (Put_any t L h p T fT s n w h6).mono ?_
  rintro e w' ⟨rfl, ht⟩
  refine ⟨rfl, ?_⟩
  have hx := (TA.turn h6 h1 h2 h7 ht).2.1
  obtain ⟨h', p', T', f', H', k1, k2⟩ := ht
  have hsz := k2.2.2.2.1
  have z0 := h2.size
  refine ⟨h1, hx, h3, Nat.le_trans h4 hsz, fun a ha hb => ?_, h', p', T', f', H', fun a ha => ?_, fun a ha hb => ?_⟩
  · refine (k2.2.2.2.2 a (Nat.lt_of_lt_of_le hb h4) ?_).trans (h5 a ha hb)
    show one1 t a + fT a = 0
    rw [h8 a ha hb, show one1 t a = 0 from if_neg (by omega)]
  · have := k1 a (Nat.lt_of_lt_of_le ha z0)
    have := h7 a ha
    omega
  · have := k1 a (Nat.lt_of_lt_of_le hb h4)
    have := h8 a ha hb
    omega
theorem TK.rd {w2 w5 : World} (H : TK w0 w2 w5 w t L) {k n c : Nat} {A : Option Addr} {xs : List Value} (hr : Rd w5 k A n c xs) (hf : Fr w2.heap.size A) : Rd w k A n c xs := by
  obtain ⟨h1, h2, h3, h4, h5, -⟩ := H
  refine ⟨hr.1, hr.2.1, hr.2.2.1, fun hn => ?_⟩
  obtain ⟨ad, e, hc⟩ := hr.2.2.2 hn
  refine ⟨ad, e, fun j u hu => ?_⟩
  have h6 := hc j u hu
  have h7 := World.block_lt_of_cell? _ _ h6
  rw [block_add] at h7
  exact (World.cell?_of_block (by rw [block_add]; exact h5 ad.block (hf ad e) h7)).trans h6
end
theorem keyR_none (L : List Te) : keyR L ⟨#[]⟩ = 0 := by
  unfold keyR
  cases L with
  | nil => rfl
  | cons x L =>
    have hx : decide (cmpK x.key ⟨#[]⟩ < 0) = false := by
      apply decide_eq_false
      unfold cmpK
      show ¬ Lib.compareBytes x.key.data.toList [] < 0
      cases x.key.data.toList with
      | nil => decide
      | cons a b => simp [Lib.compareBytes]
    rw [List.takeWhile_cons_of_neg (by rw [hx]; decide)]
    rfl
theorem range_all (L : List Te) : rangeT (betwT L ⟨#[]⟩ ⟨#[]⟩) (-1) = L := by
  unfold rangeT betwT endR
  rw [if_pos (by decide), if_pos rfl, keyR_none, Nat.zero_min, List.drop_zero, List.take_length]
theorem rank_at {l : List Te} (hS : Srt l) {k : Nat} (hk : k < l.length) : rankT l (tth l k) = k := by
  refine rank_is (by omega) (fun t ht => srt_nth hS ht hk) (fun t h1 h2 => ?_)
  rcases Nat.lt_or_eq_of_le h1 with h3 | h3
  · have := srt_nth hS h3 h2
    rw [cmpT_anti]
    omega
  · rw [← h3, cmpT_refl]
    decide
theorem put_there {L : List Te} {x : Te} (h0 : okT x = true) (h : x ∈ L) : putEr L x = 5 ∧ putLs L x = L := by
  have e : putEr L x = 5 := by
    unfold putEr
    rw [if_pos h0, if_pos (memT_iff.2 h)]
  refine ⟨e, ?_⟩
  unfold putLs
  rw [if_neg (by rw [e]; decide)]
theorem zip_te : ∀ L : List Te, List.zipWith Te.mk (L.map Te.key) (L.map Te.no) = L
  | [] => rfl
  | x :: L => by rw [List.map_cons, List.map_cons, List.zipWith_cons_cons, zip_te L]
theorem build_all {L : List Te} (hS : Srt L) (hok : ∀ x ∈ L, okT x = true) (hl : L.length ≤ 1200) : bldE (L.map Te.key) (L.map Te.no) = 0 ∧ ents ⟨L.map Te.key, L.map Te.no, []⟩ = L := by
  have e : ents ⟨L.map Te.key, L.map Te.no, []⟩ = L := zip_te L
  refine ⟨?_, e⟩
  unfold bldE
  rw [e, if_neg (by rw [List.length_map, List.length_map]; exact fun h => h rfl), if_neg (fun hc => cdec_not.1 hc ⟨hok, hS⟩), if_neg (by rw [List.length_map]; omega)]
theorem TA.oks {w0 w : World} {t : Nat} {L : List Te} (H : TA w0 w t L) : ∀ x ∈ L, okT x = true := by
  obtain ⟨h1, h2, h, p, T, fT, h3, h4⟩ := H
  exact h3.ok
open Go.RowKit Go.Shelf
theorem ins_perm : ∀ (l : List Te) (e : Te), (insT l e).Perm (e :: l)
  | [], e => List.Perm.refl _
  | x :: l, e => by
    rw [insT]
    split
    · exact ((ins_perm l e).cons x).trans (List.Perm.swap e x l)
    · exact List.Perm.refl _
theorem del_perm : ∀ {l : List Te} {e : Te}, e ∈ l → l.Perm (e :: delT l e)
  | x :: l, e, h => by
    rw [delT]
    split
    · rename_i h0
      rw [cmpT_zero.1 h0]
    · rename_i h0
      have hm : e ∈ l := by
        rcases List.mem_cons.1 h with h1 | h1
        · exact absurd (by rw [h1]; exact cmpT_refl _) h0
        · exact h1
      exact ((del_perm hm).cons x).trans (List.Perm.swap e x _)
theorem srt_perm : ∀ {a b : List Te}, Srt a → Srt b → a.Perm b → a = b
  | [], b, _, _, h => (List.nil_perm.1 h).symm
  | x :: a, [], _, _, h => by simpa using h.length_eq
  | x :: a, y :: b, ha, hb, h => by
    have hx : x = y := by
      rcases List.mem_cons.1 (h.subset (List.mem_cons_self (a := x) (l := a))) with h1 | h1
      · exact h1
      · rcases List.mem_cons.1 (h.symm.subset (List.mem_cons_self (a := y) (l := b))) with h2 | h2
        · exact h2.symm
        · have h3 := (srt_cons.1 hb).1 x h1
          have h4 := (srt_cons.1 ha).1 y h2
          rw [cmpT_anti] at h3
          omega
    subst hx
    rw [srt_perm (srt_cons.1 ha).2 (srt_cons.1 hb).2 (List.Perm.cons_inv h)]
def swT (m : List Te) (k : Nat) : List Te := (m.set k (tth m (k - 1))).set (k - 1) (tth m k)
theorem tth_set {m : List Te} {k j : Nat} {x : Te} (hk : k < m.length) : tth (m.set k x) j = if j = k then x else tth m j := by
  unfold tth
  by_cases h : j = k
  · subst h
    rw [if_pos rfl]
    simp [List.getD, hk]
  · rw [if_neg h]
    have h2 : k ≠ j := fun e => h e.symm
    simp [List.getD, List.getElem?_set, h2]
theorem swT_at {m : List Te} {k j : Nat} (h0 : 0 < k) (hk : k < m.length) : tth (swT m k) j = if j = k - 1 then tth m k else if j = k then tth m (k - 1) else tth m j := by
  unfold swT
  rw [tth_set (by rw [List.length_set]; omega), tth_set hk]
theorem swT_perm {m : List Te} {k : Nat} (h0 : 0 < k) (hk : k < m.length) : (swT m k).Perm m := by
  obtain ⟨a, x, y, b, rfl, rfl⟩ : ∃ a x y b, m = a ++ x :: y :: b ∧ a.length + 1 = k := by
    refine ⟨m.take (k - 1), m[k - 1], m[k], m.drop (k + 1), ?_, by rw [List.length_take]; omega⟩
    have h1 : m.drop (k - 1) = m[k - 1] :: m.drop k := by
      have := List.drop_eq_getElem_cons (l := m) (i := k - 1) (by omega)
      rw [this, show k - 1 + 1 = k by omega]
    rw [← List.drop_eq_getElem_cons hk, ← h1, List.take_append_drop]
  have hx : tth (a ++ x :: y :: b) (a.length + 1 - 1) = x := by simp [tth, List.getD]
  have hy : tth (a ++ x :: y :: b) (a.length + 1) = y := by simp [tth, List.getD]
  have : swT (a ++ x :: y :: b) (a.length + 1) = a ++ y :: x :: b := by
    unfold swT
    rw [hx, hy]
    simp [List.set_append]
  rw [this]
  exact (List.Perm.swap x y b).append_left a
def So (m : List Te) (i : Nat) : Prop := ∀ p q, p < q → q < i → cmpT (tth m p) (tth m q) < 0
def Sp (m : List Te) (i k : Nat) : Prop := (∀ p q, p < q → q ≤ i → p ≠ k → q ≠ k → cmpT (tth m p) (tth m q) < 0) ∧ ∀ q, k < q → q ≤ i → cmpT (tth m k) (tth m q) < 0
theorem So.enter {m : List Te} {i : Nat} (h : So m i) : Sp m i i := ⟨fun p q h1 h2 h3 h4 => h p q h1 (by omega), fun q h1 h2 => by omega⟩
theorem Sp.step {m : List Te} {i k : Nat} (h : Sp m i k) (h0 : 0 < k) (hk : k ≤ i) (hi : i < m.length) (hc : cmpT (tth m k) (tth m (k - 1)) < 0) : Sp (swT m k) i (k - 1) := by
  have hkl : k < m.length := by omega
  refine ⟨fun p q h1 h2 h3 h4 => ?_, fun q h1 h2 => ?_⟩
  · rw [swT_at h0 hkl, swT_at h0 hkl, if_neg h3, if_neg h4]
    by_cases hp : p = k
    · rw [if_pos hp, if_neg (by omega)]
      exact h.1 (k - 1) q (by omega) h2 (by omega) (by omega)
    · rw [if_neg hp]
      by_cases hq : q = k
      · rw [if_pos hq]
        exact h.1 p (k - 1) (by omega) (by omega) hp (by omega)
      · rw [if_neg hq]
        exact h.1 p q h1 h2 hp hq
  · rw [swT_at h0 hkl, swT_at h0 hkl, if_pos rfl, if_neg (by omega)]
    by_cases hq : q = k
    · rw [if_pos hq]; exact hc
    · rw [if_neg hq]; exact h.2 q (by omega) h2
theorem Sp.leave {m : List Te} {i k : Nat} (h : Sp m i k) (hk : k ≤ i) (hc : k = 0 ∨ cmpT (tth m (k - 1)) (tth m k) < 0) : So m (i + 1) := by
  intro p q h1 h2
  by_cases hp : p = k
  · subst hp; exact h.2 q h1 (by omega)
  · by_cases hq : q = k
    · subst hq
      rcases hc with h3 | h3
      · omega
      · by_cases h4 : p = q - 1
        · rw [h4]; exact h3
        · exact cmpT_trans (h.1 p (q - 1) (by omega) (by omega) hp (by omega)) h3
    · exact h.1 p q h1 (by omega) hp hq
theorem So.srt {m : List Te} (h : So m m.length) : Srt m := by
  unfold Srt
  rw [List.pairwise_iff_getElem]
  intro i j hi hj hij
  have := h i j hij hj
  rwa [tth_get hi, tth_get hj] at this
end Go.Proofs.YtjjikkhhlpikbaaGreatDoor
