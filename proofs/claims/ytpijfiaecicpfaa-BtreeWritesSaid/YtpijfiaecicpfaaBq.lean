/-
  The index that a tree lists is a right one, with the tree's entries. No program in sight.
-/
import Derived.Test.YtpijfiaecicpfaaBp
namespace Go.Proofs.Ytpijfiaecicpfaa
set_option linter.unusedVariables false
set_option linter.unusedSimpArgs false
theorem xth_at {xs a b : List Nx} {x : Nx} (e : xs = a ++ x :: b) : xth xs a.length = x := by
  subst e
  rw [xth_get (by simp)]
  simp
theorem lst_cons (h : Nat) (T : BT) (s : Nat) : ∃ x r, lst h T s = x :: r := by
  cases h with
  | zero => cases T; exact ⟨_, _, rfl⟩
  | succ h => cases T; exact ⟨_, _, rfl⟩
theorem lst_pos (h : Nat) (T : BT) (s : Nat) : 1 ≤ (lst h T s).length := by
  obtain ⟨x, r, e⟩ := lst_cons h T s
  rw [e]; simp
/-! ### The numbers of kids -/
theorem kids_kls {F : BT → Nat → List Nx} : ∀ {ks : List BT} {s : Nat}, (∀ K ∈ ks, ∀ s, 1 ≤ (F K s).length ∧ (∀ x ∈ allK (F K s), (s : Int) < x ∧ x < ((s + (F K s).length : Nat) : Int)) ∧ (allK (F K s)).Nodup) → (∀ x ∈ kno F ks s ++ allK (kls F ks s), (s : Int) ≤ x ∧ x < ((s + (kls F ks s).length : Nat) : Int)) ∧ (kno F ks s ++ allK (kls F ks s)).Nodup
  | [], s, _ => by
    show (∀ x ∈ ([] : List Int) ++ allK [], _) ∧ _
    exact ⟨fun x hx => (by cases hx), List.Pairwise.nil⟩
  | K :: ks, s, h => by
    obtain ⟨h1, h2, h3⟩ := h K List.mem_cons_self s
    obtain ⟨i1, i2⟩ := kids_kls (ks := ks) (s := s + (F K s).length) (fun K' hK => h K' (List.mem_cons_of_mem _ hK))
    rw [kno, kls, List.length_append]
    have e0 : allK (F K s ++ kls F ks (s + (F K s).length)) = allK (F K s) ++ allK (kls F ks (s + (F K s).length)) := by unfold allK; rw [List.flatMap_append]
    rw [e0]
    generalize kno F ks (s + (F K s).length) = A at *
    generalize allK (kls F ks (s + (F K s).length)) = D at *
    generalize (kls F ks (s + (F K s).length)).length = m at *
    generalize allK (F K s) = C at *
    generalize (F K s).length = q at *
    have hp : (((s : Int) :: A) ++ (C ++ D)).Perm ((s : Int) :: (C ++ (A ++ D))) := by
      rw [List.cons_append]
      refine List.Perm.cons _ ?_
      rw [← List.append_assoc, ← List.append_assoc]
      exact List.perm_append_comm.append_right D
    refine ⟨fun x hx => ?_, hp.nodup_iff.2 ?_⟩
    · rcases List.mem_cons.1 (hp.mem_iff.1 hx) with rfl | hx
      · omega
      · rcases List.mem_append.1 hx with hx | hx
        · have := h2 x hx; omega
        · have := i1 x hx; omega
    · refine List.nodup_cons.2 ⟨fun hx => ?_, List.nodup_append.2 ⟨h3, i2, fun x hx y hy e => ?_⟩⟩
      · rcases List.mem_append.1 hx with hx | hx
        · have := h2 _ hx; omega
        · have := i1 _ hx; omega
      · have := h2 x hx
        have := i1 y hy
        omega
theorem kids_lst : ∀ {h : Nat} {T : BT}, Shw h T → ∀ s, 1 ≤ (lst h T s).length ∧ (∀ x ∈ allK (lst h T s), (s : Int) < x ∧ x < ((s + (lst h T s).length : Nat) : Int)) ∧ (allK (lst h T s)).Nodup
  | 0, .nd l ks, _, s => by
    show 1 ≤ ([_] : List Nx).length ∧ (∀ x ∈ ([] : List Int) ++ [], _) ∧ (([] : List Int) ++ []).Nodup
    exact ⟨by simp, fun x hx => (by cases hx), List.Pairwise.nil⟩
  | h + 1, .nd l ks, hs, s => by
    have hk := kids_kls (F := lst h) (ks := ks) (s := s + 1) (fun K hK => kids_lst (hs.2 K hK))
    refine ⟨lst_pos _ _ _, ?_, hk.2⟩
    intro x hx
    have h1 := hk.1 x hx
    show _ ∧ x < ((s + ((_ : Nx) :: kls (lst h) ks (s + 1)).length : Nat) : Int)
    rw [List.length_cons]
    omega
/-! ### The tree back -/
theorem back_kls {xs : List Nx} {h : Nat} (F : BT → Nat → List Nx) (hF : ∀ (K : BT) (a b : List Nx), Shw h K → xs = a ++ (F K a.length ++ b) → UD xs h a.length ∧ btx xs h a.length = K ∧ (Reach xs a.length → ∀ k, a.length ≤ k → k < a.length + (F K a.length).length → Reach xs k)) : ∀ (ks : List BT) (a b : List Nx), (∀ K ∈ ks, Shw h K) → xs = a ++ (kls F ks a.length ++ b) → (∀ u ∈ (kno F ks a.length).map Int.toNat, UD xs h u) ∧ ((kno F ks a.length).map Int.toNat).map (btx xs h) = ks ∧ ((∀ u ∈ (kno F ks a.length).map Int.toNat, Reach xs u) → ∀ k, a.length ≤ k → k < a.length + (kls F ks a.length).length → Reach xs k)
  | [], a, b, _, _ => ⟨fun u hu => (by cases hu), rfl, fun _ k h1 h2 => (by simp [kls] at h2; omega)⟩
  | K :: ks, a, b, hs, e => by
    rw [kls, List.append_assoc] at e
    obtain ⟨f1, f2, f3⟩ := hF K a _ (hs K List.mem_cons_self) e
    have hl : (a ++ F K a.length).length = a.length + (F K a.length).length := by simp
    obtain ⟨i1, i2, i3⟩ := back_kls F hF ks (a ++ F K a.length) b (fun K' hK => hs K' (List.mem_cons_of_mem _ hK)) (by rw [hl, List.append_assoc]; exact e)
    rw [hl] at i1 i2 i3
    rw [kno, kls, List.map_cons, List.map_cons, Int.toNat_natCast]
    refine ⟨fun u hu => ?_, by rw [f2, i2], fun hr k h1 h2 => ?_⟩
    · rcases List.mem_cons.1 hu with rfl | hu
      · exact f1
      · exact i1 u hu
    · rw [List.length_append] at h2
      by_cases hk : k < a.length + (F K a.length).length
      · exact f3 (hr _ List.mem_cons_self) k h1 hk
      · exact i3 (fun u hu => hr u (List.mem_cons_of_mem _ hu)) k (by omega) (by omega)
theorem back_lst {xs : List Nx} : ∀ {h : Nat} (T : BT) (a b : List Nx), Shw h T → xs = a ++ (lst h T a.length ++ b) → UD xs h a.length ∧ btx xs h a.length = T ∧ (Reach xs a.length → ∀ k, a.length ≤ k → k < a.length + (lst h T a.length).length → Reach xs k)
  | 0, .nd l ks, a, b, hs, e => by
    have e1 : xs = a ++ (⟨l.map Te.key, l.map Te.no, []⟩ : Nx) :: b := e
    have hx := xth_at e1
    have hlt : a.length < xs.length := by rw [e1]; simp
    refine ⟨⟨hlt, by unfold kd; rw [hx]; rfl⟩, ?_, fun hr k h1 h2 => ?_⟩
    · show BT.nd (ents (xth xs a.length)) [] = _
      rw [hx, ents_of, show ks = [] from hs]
    · have : k < a.length + 1 := h2
      obtain rfl : k = a.length := by omega
      exact hr
  | h + 1, .nd l ks, a, b, hs, e => by
    have e1 : xs = a ++ (⟨l.map Te.key, l.map Te.no, kno (lst h) ks (a.length + 1)⟩ : Nx) :: (kls (lst h) ks (a.length + 1) ++ b) := e
    have hx := xth_at e1
    have hlt : a.length < xs.length := by rw [e1]; simp
    have hl : (a ++ [(⟨l.map Te.key, l.map Te.no, kno (lst h) ks (a.length + 1)⟩ : Nx)]).length = a.length + 1 := by simp
    obtain ⟨i1, i2, i3⟩ := back_kls (xs := xs) (h := h) (lst h) (fun K a b => back_lst K a b) ks (a ++ [⟨l.map Te.key, l.map Te.no, kno (lst h) ks (a.length + 1)⟩]) b hs.2 (by rw [hl, List.append_assoc]; exact e1)
    rw [hl] at i1 i2 i3
    have hkd : kd xs a.length = (kno (lst h) ks (a.length + 1)).map Int.toNat := by unfold kd; rw [hx]
    refine ⟨⟨hlt, ?_, by rw [hkd]; exact i1⟩, ?_, fun hr k h1 h2 => ?_⟩
    · intro h0
      have : (kd xs a.length).length = ks.length := by rw [hkd, List.length_map, kno_len]
      rw [h0, hs.1] at this
      simp at this
    · show BT.nd (ents (xth xs a.length)) ((kd xs a.length).map (btx xs h)) = _
      rw [hx, ents_of, hkd, i2]
    · by_cases hk : k = a.length
      · rw [hk]; exact hr
      · refine i3 (fun u hu => .kid hr (by rw [hkd]; exact hu)) k (by omega) ?_
        have : k < a.length + ((_ : Nx) :: kls (lst h) ks (a.length + 1)).length := h2
        rw [List.length_cons] at this
        omega
/-! ### Shape -/
theorem nodes_kls {h : Nat} : ∀ {ks : List BT} {s : Nat}, (∀ K ∈ ks, ∀ s, ∀ y ∈ lst h K s, shapeB y = true ∧ 2 ≤ y.keys.length) → ∀ y ∈ kls (lst h) ks s, shapeB y = true ∧ 2 ≤ y.keys.length
  | [], _, _, y, hy => by cases hy
  | K :: ks, s, hk, y, hy => by
    rw [kls] at hy
    rcases List.mem_append.1 hy with hy | hy
    · exact hk K List.mem_cons_self _ y hy
    · exact nodes_kls (fun K' hK => hk K' (List.mem_cons_of_mem _ hK)) y hy
theorem nodes_lst : ∀ {h : Nat} {T : BT}, Shp h T → T.l.length ≤ 4 → ∀ s, ∃ x r, lst h T s = x :: r ∧ shapeB x = true ∧ x.keys.length = T.l.length ∧ (h = 0 → x.kids = []) ∧ ∀ y ∈ r, shapeB y = true ∧ 2 ≤ y.keys.length
  | 0, .nd l ks, hs, h4, s => by
    refine ⟨_, _, rfl, ?_, by simp [BT.l], fun _ => rfl, fun y hy => (by cases hy)⟩
    have h4' : l.length ≤ 4 := h4
    simp [shapeB, shapeN, kno, h4']
  | h + 1, .nd l ks, hs, h4, s => by
    have h4' : l.length ≤ 4 := h4
    refine ⟨_, _, rfl, ?_, by simp [BT.l], fun h => (by cases h), nodes_kls (fun K hK s y hy => ?_)⟩
    · simp [shapeB, shapeN, kno_len, h4', hs.1]
    · obtain ⟨k2, k4, ks'⟩ := hs.2 K hK
      obtain ⟨x, r, e, g1, g2, _, g4⟩ := nodes_lst ks' k4 s
      rw [e] at hy
      rcases List.mem_cons.1 hy with rfl | hy
      · exact ⟨g1, by rw [g2]; exact k2⟩
      · exact g4 y hy
/-- A tree's own index is right. -/
theorem lst_right {h : Nat} {T : BT} (hs : Shp h T) (h4 : T.l.length ≤ 4) (h1 : h ≠ 0 → 1 ≤ T.l.length) (hn : (lst h T 0).length ≤ 2400) (hok : ∀ x ∈ flat h T, okT x = true) (hsr : Srt (flat h T)) : wrongX (lst h T 0) = 0 ∧ entX (lst h T 0) = flat h T := by
  obtain ⟨b1, b2, b3⟩ := back_lst (xs := lst h T 0) T [] [] hs.w (by simp)
  have hent : entX (lst h T 0) = flat h T := by
    unfold entX
    rw [hX_is b1]
    show flat h (btx (lst h T 0) h 0) = _
    rw [show btx (lst h T 0) h 0 = T from b2]
  obtain ⟨k1, k2, k3⟩ := kids_lst hs.w 0
  obtain ⟨x, r, e, g1, g2, g3, g4⟩ := nodes_lst hs h4 0
  have hnth : ∀ k, k < (lst h T 0).length → xth (lst h T 0) k = x ∧ k = 0 ∨ k ≠ 0 ∧ xth (lst h T 0) k ∈ r := fun k hk => by
    rw [e] at hk ⊢
    cases k with
    | zero => exact .inl ⟨rfl, rfl⟩
    | succ k =>
      refine .inr ⟨by omega, ?_⟩
      rw [xth_get hk, List.getElem_cons_succ]
      exact List.getElem_mem _
  refine ⟨wrong_none.2 ⟨k1, hn, fun k hk => ?_, ⟨⟨fun y hy => ?_, k3⟩, fun k hk => b3 .zero k (Nat.zero_le _) (by simpa using hk)⟩, fun k hk => ?_, ⟨h, b1⟩, by rw [hent]; exact hok, by rw [hent]; exact hsr⟩, hent⟩
  · rcases hnth k hk with ⟨e1, _⟩ | ⟨_, e1⟩
    · rw [e1]; exact g1
    · exact (g4 _ e1).1
  · have := k2 y hy
    rw [Nat.zero_add] at this
    omega
  · rcases hnth k hk with ⟨e1, rfl⟩ | ⟨e0, e1⟩
    · rw [if_pos rfl, e1, g2]
      by_cases h0 : h = 0
      · rw [g3 h0]; simp
      · have := h1 h0; omega
    · rw [if_neg e0]; exact (g4 _ e1).2
/-- A tree that is made of an index has as many nodes. -/
theorem kls_len {h : Nat} {xs : List Nx} {G : Nat → Nat} : ∀ {us : List Nat} {s : Nat}, (∀ u ∈ us, ∀ s, (lst h (btx xs h u) s).length = G u) → (kls (lst h) (us.map (btx xs h)) s).length = (us.map G).sum
  | [], _, _ => rfl
  | u :: us, s, hu => by
    rw [List.map_cons, kls, List.length_append, hu u List.mem_cons_self, kls_len (fun v hv => hu v (List.mem_cons_of_mem _ hv)), List.map_cons, List.sum_cons]
theorem lst_len {xs : List Nx} : ∀ {h f k : Nat}, UD xs h k → UT xs f k → ∀ s, (lst h (btx xs h k) s).length = (sub xs f k).length
  | _, 0, _, _, b, _ => b.elim
  | 0, f + 1, k, a, _, s => by
    show ([_] : List Nx).length = (k :: (kd xs k).flatMap (sub xs f)).length
    rw [a.2]; rfl
  | h + 1, f + 1, k, a, b, s => by
    show ((_ : Nx) :: kls (lst h) ((kd xs k).map (btx xs h)) (s + 1)).length = (k :: (kd xs k).flatMap (sub xs f)).length
    rw [List.length_cons, List.length_cons, flatMap_len, kls_len (G := fun u => (sub xs f u).length) (fun u hu s => lst_len (a.2.2 u hu) (b.2 u hu) s)]
end Go.Proofs.Ytpijfiaecicpfaa
