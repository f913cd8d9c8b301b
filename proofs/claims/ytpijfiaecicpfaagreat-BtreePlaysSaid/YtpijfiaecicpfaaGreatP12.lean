/-
  The reference's tree: what it tells.
-/
import Derived.Test.YtpijfiaecicpfaaGreatP11
namespace Go.Proofs.YtpijfiaecicpfaaGreat
open Go.RowKit Go.Shelf
set_option linter.unusedVariables false
set_option linter.unusedSimpArgs false
theorem keyR_is {L : List Te} {s : ByteArray} {k : Nat} (hk : k ≤ L.length) (h1 : ∀ t, t < k → cmpK (tth L t).key s < 0) (h2 : k < L.length → ¬ cmpK (tth L k).key s < 0) : keyR L s = k := by
  obtain ⟨a1, a2, a3⟩ := takeWhile_at (fun x : Te => decide (cmpK x.key s < 0)) L
  change keyR L s ≤ L.length at a1
  rcases Nat.lt_trichotomy (keyR L s) k with h | h | h
  · have hl : keyR L s < L.length := by omega
    have := h1 _ h
    rw [tth_get hl] at this
    exact absurd this (of_decide_eq_false (a3 hl))
  · exact h
  · have hl : k < L.length := by omega
    have h3 := a2 k hl h
    have := h2 hl
    rw [tth_get hl] at this
    exact absurd (of_decide_eq_true h3) this
theorem nextR_is {L : List Te} (hS : Srt L) {e : Te} {k : Nat} (hk : k ≤ L.length) (h1 : ∀ t, t < k → ¬ cmpT e (tth L t) < 0) (h2 : k < L.length → cmpT e (tth L k) < 0) : nextR L e = k := by
  obtain ⟨a1, a2, a3⟩ := nextR_cut hS e
  rcases Nat.lt_trichotomy (nextR L e) k with h | h | h
  · have := a3 _ (Nat.le_refl _) (by omega)
    have h3 := h1 _ h
    rw [cmpT_anti] at h3
    omega
  · exact h
  · have := a2 k h
    have h3 := h2 (by omega)
    rw [cmpT_anti] at h3
    omega
/-- A place of the reference's tree. -/
theorem RTr.at_ {w : World} {r : Nat} {L : List Te} (h : RTr w r L) : ∃ A1 c1 A2 c2, w.cell? ⟨r, 0, none⟩ = some (.slice A1 L.length c1) ∧ w.cell? ⟨r, 1, none⟩ = some (.slice A2 L.length c2) ∧ r < w.heap.size ∧ L.length ≤ c1 ∧ L.length ≤ c2 ∧ c1 ≤ 9223372036854775807 ∧ c2 ≤ 9223372036854775807 ∧ ∀ k, k < L.length → ∃ a1 a2, A1 = some a1 ∧ A2 = some a2 ∧ w.cell? (a1.add k) = some (.string (tth L k).key) ∧ w.cell? (a2.add k) = some (.int .i64 (tth L k).no) := by
  obtain ⟨A1, c1, A2, c2, h1, h2, h3⟩ := h
  have m1 := Rd.max h2
  have m2 := RdI.max h3
  refine ⟨A1, c1, A2, c2, by rw [Lib.cell_of_heap h1]; rfl, by rw [Lib.cell_of_heap h1]; rfl, (Array.getElem?_eq_some_iff.1 h1).1, m1.2.1, m2.2.1, m1.2.2, m2.2.2, fun k hk => ?_⟩
  obtain ⟨a1, e1, d1⟩ := rds_at h2 hk
  obtain ⟨a2, e2, d2⟩ := rdi_at h3 hk
  rw [sth_get (by rw [List.length_map]; exact hk), List.getElem_map] at d1
  rw [ith_get (by rw [List.length_map]; exact hk), List.getElem_map] at d2
  exact ⟨a1, a2, e1, e2, by rw [tth_get hk]; exact d1, by rw [tth_get hk]; exact d2⟩
set_option maxRecDepth 100000 in
set_option maxHeartbeats 4000000 in
theorem rRank_any (r : Nat) (L : List Te) (s : ByteArray) (i : Int) (w : World) (h : RTr w r L) (hS : Srt L) (hl : L.length ≤ 10000) (rk : Nat) (hrk : Hid (rk = rankT L ⟨s, i⟩)) : Calls Tryz.prog 22 #[.pointer (some ⟨r, 0, none⟩), .string s, .int .i64 i] w (Give (.int .i64 rk) w) := by
  obtain ⟨A1, c1, A2, c2, z0, z1, lr, m1, m2, m3, m4, hat⟩ := h.at_
  replace hat := hid hat
  have hS' := hid hS
  go_enter Tryz.func22, Tryz.ntmps22
  go_wp2_with fail
  go_loopw [7] (fun n wr => ∃ k : Nat, k ≤ L.length ∧ n = .int .i64 k ∧ Hid (Ext w wr) ∧ Hid (∀ t, t < k → cmpT (tth L t) ⟨s, i⟩ < 0)) (fun n _ => L.length - (intOf n).toNat)
  case atStart => exact ⟨0, Nat.zero_le _, rfl, Ext.refl w, fun t h => absurd h (Nat.not_lt_zero _)⟩
  case round =>
    obtain ⟨k, hk, rfl, hx, hall⟩ := hrel
    by_cases hlt : k < L.length
    · have hE := hid (fun w' => rLess_any (tth L k).key s (tth L k).no i w')
      obtain ⟨a1, a2, rfl, rfl, y1, y2⟩ := hat.out k hlt
      have hki : (k : Int) < (L.length : Int) := by omega
      replace z0 := hx.out.cell z0
      replace z1 := hx.out.cell z1
      replace y1 := hx.out.cell y1
      replace y2 := hx.out.cell y2
      replace lr := Nat.lt_of_lt_of_le lr hx.out.size
      by_cases hc : cmpT (tth L k) ⟨s, i⟩ < 0
      · have hall2 : Hid (∀ t, t < k + 1 → cmpT (tth L t) ⟨s, i⟩ < 0) := fun t ht => by
          rcases Nat.lt_or_eq_of_le (Nat.lt_succ_iff.1 ht) with h1 | h1
          · exact hall.out t h1
          · rw [h1]; exact hc
        rw [show decide (cmpT ⟨(tth L k).key, (tth L k).no⟩ ⟨s, i⟩ < 0) = true from decide_eq_true hc] at hE
        clear hc hall
        generalize tth L k = x at *
        go_upto_region 2 with fail
        have I0 : (fun w' : World => w'.cell? ⟨r, 0, none⟩ = some (.slice (some a1) L.length c1) ∧ w'.cell? ⟨r, 1, none⟩ = some (.slice (some a2) L.length c2) ∧ w'.cell? (a1.add k) = some (.string x.key) ∧ w'.cell? (a2.add k) = some (.int .i64 x.no)) wr.drew := ⟨z0, z1, y1, y2⟩
        have hx2 := hid (hx.out.drew_right)
        refine region_J (fun w' : World => w'.cell? ⟨r, 0, none⟩ = some (.slice (some a1) L.length c1) ∧ w'.cell? ⟨r, 1, none⟩ = some (.slice (some a2) L.length c2) ∧ w'.cell? (a1.add k) = some (.string x.key) ∧ w'.cell? (a2.add k) = some (.int .i64 x.no)) 26 (by kernel_rfl) ?_
        clear z0 z1 y1 y2 hx
        generalize wr.drew = w1 at *
        refine J_takeO 0 (v := ?va0) rfl (by kernel_rfl) (by kernel_rfl) (by kernel_rfl) (by kernel_rfl) (fun _ _ _ h => h) (Or.inl ⟨by rfl, ?ya0⟩) I0 ?ra0
        case ya0 => (intro w hSw; obtain ⟨_, _, _, _⟩ := hSw; (go_simp; with_reducible rfl))
        simp only [Act.put, List.getElem_toArray, List.getElem_cons_zero, List.getElem_cons_succ, List.setIfInBounds_toArray, List.set_cons_zero, List.set_cons_succ]
        refine J_takeO 1 (v := ?va1) rfl (by kernel_rfl) (by kernel_rfl) (by kernel_rfl) (by kernel_rfl) (fun _ _ _ h => h) (Or.inl ⟨by rfl, ?ya1⟩) I0 ?ra1
        case ya1 => (intro w hSw; obtain ⟨_, _, _, _⟩ := hSw; (go_simp; with_reducible rfl))
        simp only [Act.put, List.getElem_toArray, List.getElem_cons_zero, List.getElem_cons_succ, List.setIfInBounds_toArray, List.set_cons_zero, List.set_cons_succ]
        refine J_takeO 2 (v := ?va2) rfl (by kernel_rfl) (by kernel_rfl) (by kernel_rfl) (by kernel_rfl) (fun _ _ _ h => h) (Or.inl ⟨by rfl, ?ya2⟩) I0 ?ra2
        case ya2 => (intro w hSw; obtain ⟨_, _, _, _⟩ := hSw; (go_simp; with_reducible rfl))
        simp only [Act.put, List.getElem_toArray, List.getElem_cons_zero, List.getElem_cons_succ, List.setIfInBounds_toArray, List.set_cons_zero, List.set_cons_succ]
        refine J_takeO 3 (v := ?va3) rfl (by kernel_rfl) (by kernel_rfl) (by kernel_rfl) (by kernel_rfl) (fun _ _ _ h => h) (Or.inl ⟨by rfl, ?ya3⟩) I0 ?ra3
        case ya3 => (intro w hSw; obtain ⟨_, _, _, _⟩ := hSw; (go_simp; with_reducible rfl))
        simp only [Act.put, List.getElem_toArray, List.getElem_cons_zero, List.getElem_cons_succ, List.setIfInBounds_toArray, List.set_cons_zero, List.set_cons_succ]
        refine J_takeO 4 (v := ?va4) rfl (by kernel_rfl) (by kernel_rfl) (by kernel_rfl) (by kernel_rfl) (fun _ _ _ h => h) (Or.inl ⟨by rfl, ?ya4⟩) I0 ?ra4
        case ya4 => (intro w hSw; obtain ⟨_, _, _, _⟩ := hSw; (go_simp; with_reducible rfl))
        simp only [Act.put, List.getElem_toArray, List.getElem_cons_zero, List.getElem_cons_succ, List.setIfInBounds_toArray, List.set_cons_zero, List.set_cons_succ]
        refine J_takeO 5 (v := ?va5) rfl (by kernel_rfl) (by kernel_rfl) (by kernel_rfl) (by kernel_rfl) (fun _ _ _ h => h) (Or.inl ⟨by rfl, ?ya5⟩) I0 ?ra5
        case ya5 => (intro w hSw; obtain ⟨_, _, _, _⟩ := hSw; (go_simp; with_reducible rfl))
        simp only [Act.put, List.getElem_toArray, List.getElem_cons_zero, List.getElem_cons_succ, List.setIfInBounds_toArray, List.set_cons_zero, List.set_cons_succ]
        refine J_takeO 6 (v := ?va6) rfl (by kernel_rfl) (by kernel_rfl) (by kernel_rfl) (by kernel_rfl) (fun _ _ _ h => h) (Or.inl ⟨by rfl, ?ya6⟩) I0 ?ra6
        case ya6 => (intro w hSw; obtain ⟨_, _, _, _⟩ := hSw; (go_simp; with_reducible rfl))
        simp only [Act.put, List.getElem_toArray, List.getElem_cons_zero, List.getElem_cons_succ, List.setIfInBounds_toArray, List.set_cons_zero, List.set_cons_succ]
        refine J_takeO 7 (v := ?va7) rfl (by kernel_rfl) (by kernel_rfl) (by kernel_rfl) (by kernel_rfl) (fun _ _ _ h => h) (Or.inl ⟨by rfl, ?ya7⟩) I0 ?ra7
        case ya7 => (intro w hSw; obtain ⟨_, _, _, _⟩ := hSw; (go_simp; with_reducible rfl))
        simp only [Act.put, List.getElem_toArray, List.getElem_cons_zero, List.getElem_cons_succ, List.setIfInBounds_toArray, List.set_cons_zero, List.set_cons_succ]
        refine J_takeO 8 (v := ?va8) rfl (by kernel_rfl) (by kernel_rfl) (by kernel_rfl) (by kernel_rfl) (fun _ _ _ h => h) (Or.inl ⟨by rfl, ?ya8⟩) I0 ?ra8
        case ya8 => (intro w hSw; obtain ⟨_, _, _, _⟩ := hSw; (go_simp; with_reducible rfl))
        simp only [Act.put, List.getElem_toArray, List.getElem_cons_zero, List.getElem_cons_succ, List.setIfInBounds_toArray, List.set_cons_zero, List.set_cons_succ]
        refine J_takeO 9 (v := ?va9) rfl (by kernel_rfl) (by kernel_rfl) (by kernel_rfl) (by kernel_rfl) (fun _ _ _ h => h) (Or.inl ⟨by rfl, ?ya9⟩) I0 ?ra9
        case ya9 => (intro w hSw; obtain ⟨_, _, _, _⟩ := hSw; (go_simp; with_reducible rfl))
        simp only [Act.put, List.getElem_toArray, List.getElem_cons_zero, List.getElem_cons_succ, List.setIfInBounds_toArray, List.set_cons_zero, List.set_cons_succ]
        refine J_takeO 10 (v := ?va10) rfl (by kernel_rfl) (by kernel_rfl) (by kernel_rfl) (by kernel_rfl) (fun _ _ _ h => h) (Or.inl ⟨by rfl, ?ya10⟩) I0 ?ra10
        case ya10 => (intro w hSw; obtain ⟨_, _, _, _⟩ := hSw; (go_simp; with_reducible rfl))
        simp only [Act.put, List.getElem_toArray, List.getElem_cons_zero, List.getElem_cons_succ, List.setIfInBounds_toArray, List.set_cons_zero, List.set_cons_succ]
        refine J_takeO 11 (v := ?va11) rfl (by kernel_rfl) (by kernel_rfl) (by kernel_rfl) (by kernel_rfl) (fun _ _ _ h => h) (Or.inl ⟨by rfl, ?ya11⟩) I0 ?ra11
        case ya11 => (intro w hSw; obtain ⟨_, _, _, _⟩ := hSw; (go_simp; with_reducible rfl))
        simp only [Act.put, List.getElem_toArray, List.getElem_cons_zero, List.getElem_cons_succ, List.setIfInBounds_toArray, List.set_cons_zero, List.set_cons_succ]
        refine J_takeO 12 (v := ?va12) rfl (by kernel_rfl) (by kernel_rfl) (by kernel_rfl) (by kernel_rfl) (fun _ _ _ h => h) (Or.inl ⟨by rfl, ?ya12⟩) I0 ?ra12
        case ya12 => (intro w hSw; obtain ⟨_, _, _, _⟩ := hSw; (go_simp; with_reducible rfl))
        simp only [Act.put, List.getElem_toArray, List.getElem_cons_zero, List.getElem_cons_succ, List.setIfInBounds_toArray, List.set_cons_zero, List.set_cons_succ]
        refine J_takeO 13 (v := ?va13) rfl (by kernel_rfl) (by kernel_rfl) (by kernel_rfl) (by kernel_rfl) (fun _ _ _ h => h) (Or.inl ⟨by rfl, ?ya13⟩) I0 ?ra13
        case ya13 => (intro w hSw; obtain ⟨_, _, _, _⟩ := hSw; (go_simp; with_reducible rfl))
        simp only [Act.put, List.getElem_toArray, List.getElem_cons_zero, List.getElem_cons_succ, List.setIfInBounds_toArray, List.set_cons_zero, List.set_cons_succ]
        refine J_takeO 14 (v := ?va14) rfl (by kernel_rfl) (by kernel_rfl) (by kernel_rfl) (by kernel_rfl) (fun _ _ _ h => h) (Or.inl ⟨by rfl, ?ya14⟩) I0 ?ra14
        case ya14 => (intro w hSw; obtain ⟨_, _, _, _⟩ := hSw; (go_simp; with_reducible rfl))
        simp only [Act.put, List.getElem_toArray, List.getElem_cons_zero, List.getElem_cons_succ, List.setIfInBounds_toArray, List.set_cons_zero, List.set_cons_succ]
        refine J_takeO 15 (v := ?va15) rfl (by kernel_rfl) (by kernel_rfl) (by kernel_rfl) (by kernel_rfl) (fun _ _ _ h => h) (Or.inl ⟨by rfl, ?ya15⟩) I0 ?ra15
        case ya15 => (intro w hSw; obtain ⟨_, _, _, _⟩ := hSw; (go_simp; with_reducible rfl))
        simp only [Act.put, List.getElem_toArray, List.getElem_cons_zero, List.getElem_cons_succ, List.setIfInBounds_toArray, List.set_cons_zero, List.set_cons_succ]
        refine J_takeO 16 (v := ?va16) rfl (by kernel_rfl) (by kernel_rfl) (by kernel_rfl) (by kernel_rfl) (fun _ _ _ h => h) (Or.inl ⟨by rfl, ?ya16⟩) I0 ?ra16
        case ya16 => (intro w hSw; obtain ⟨_, _, _, _⟩ := hSw; (go_simp; with_reducible rfl))
        simp only [Act.put, List.getElem_toArray, List.getElem_cons_zero, List.getElem_cons_succ, List.setIfInBounds_toArray, List.set_cons_zero, List.set_cons_succ]
        refine J_takeO 17 (v := ?va17) rfl (by kernel_rfl) (by kernel_rfl) (by kernel_rfl) (by kernel_rfl) (fun _ _ _ h => h) (Or.inl ⟨by rfl, ?ya17⟩) I0 ?ra17
        case ya17 => (intro w hSw; obtain ⟨_, _, _, _⟩ := hSw; (go_simp; with_reducible rfl))
        simp only [Act.put, List.getElem_toArray, List.getElem_cons_zero, List.getElem_cons_succ, List.setIfInBounds_toArray, List.set_cons_zero, List.set_cons_succ]
        refine J_takeO 18 (v := ?va18) rfl (by kernel_rfl) (by kernel_rfl) (by kernel_rfl) (by kernel_rfl) (fun _ _ _ h => h) (Or.inl ⟨by rfl, ?ya18⟩) I0 ?ra18
        case ya18 => (intro w hSw; obtain ⟨_, _, _, _⟩ := hSw; (go_simp; with_reducible rfl))
        simp only [Act.put, List.getElem_toArray, List.getElem_cons_zero, List.getElem_cons_succ, List.setIfInBounds_toArray, List.set_cons_zero, List.set_cons_succ]
        refine J_takeO 19 (v := ?va19) rfl (by kernel_rfl) (by kernel_rfl) (by kernel_rfl) (by kernel_rfl) (fun _ _ _ h => h) (Or.inl ⟨by rfl, ?ya19⟩) I0 ?ra19
        case ya19 => (intro w hSw; obtain ⟨_, _, _, _⟩ := hSw; (go_simp; with_reducible rfl))
        simp only [Act.put, List.getElem_toArray, List.getElem_cons_zero, List.getElem_cons_succ, List.setIfInBounds_toArray, List.set_cons_zero, List.set_cons_succ]
        refine J_takeO 20 (v := ?va20) rfl (by kernel_rfl) (by kernel_rfl) (by kernel_rfl) (by kernel_rfl) (fun _ _ _ h => h) (Or.inl ⟨by rfl, ?ya20⟩) I0 ?ra20
        case ya20 => (intro w hSw; obtain ⟨_, _, _, _⟩ := hSw; (go_simp; with_reducible rfl))
        simp only [Act.put, List.getElem_toArray, List.getElem_cons_zero, List.getElem_cons_succ, List.setIfInBounds_toArray, List.set_cons_zero, List.set_cons_succ]
        refine J_takeO 21 (v := ?va21) rfl (by kernel_rfl) (by kernel_rfl) (by kernel_rfl) (by kernel_rfl) (fun _ _ _ h => h) (Or.inl ⟨by rfl, ?ya21⟩) I0 ?ra21
        case ya21 => (intro w hSw; obtain ⟨_, _, _, _⟩ := hSw; (go_simp; with_reducible rfl))
        simp only [Act.put, List.getElem_toArray, List.getElem_cons_zero, List.getElem_cons_succ, List.setIfInBounds_toArray, List.set_cons_zero, List.set_cons_succ]
        refine J_takeO 22 (v := ?va22) rfl (by kernel_rfl) (by kernel_rfl) (by kernel_rfl) (by kernel_rfl) (fun _ _ _ h => h) (Or.inl ⟨by rfl, ?ya22⟩) I0 ?ra22
        case ya22 => (intro w hSw; obtain ⟨_, _, _, _⟩ := hSw; (go_simp; with_reducible rfl))
        simp only [Act.put, List.getElem_toArray, List.getElem_cons_zero, List.getElem_cons_succ, List.setIfInBounds_toArray, List.set_cons_zero, List.set_cons_succ]
        refine J_takeO 23 (v := ?va23) rfl (by kernel_rfl) (by kernel_rfl) (by kernel_rfl) (by kernel_rfl) (fun _ _ _ h => h) (Or.inl ⟨by rfl, ?ya23⟩) I0 ?ra23
        case ya23 => (intro w hSw; obtain ⟨_, _, _, _⟩ := hSw; (go_simp; with_reducible rfl))
        simp only [Act.put, List.getElem_toArray, List.getElem_cons_zero, List.getElem_cons_succ, List.setIfInBounds_toArray, List.set_cons_zero, List.set_cons_succ]
        refine J_one 24 rfl (by kernel_rfl) (fun K hK => ?_)
        go_simp
        refine (hE.out _).mono ?_
        rintro e' w5 ⟨rfl, rfl⟩
        refine hK _ _ ⟨fun _ => I0, ?_⟩
        clear hK K
        try simp only [Act.put, List.getElem_toArray, List.getElem_cons_zero, List.getElem_cons_succ, List.setIfInBounds_toArray, List.set_cons_zero, List.set_cons_succ]
        refine J_one 25 rfl (by kernel_rfl) (fun K hK => ?_)
        go_simp
        refine hK _ _ ⟨fun _ => I0, ?_⟩
        clear hK K
        try simp only [Act.put, List.setIfInBounds_toArray, List.set_cons_zero, List.set_cons_succ]
        refine J_done (by kernel_rfl) (OnlyOn.normal ?_)
        go_wp2
        go_roundw
        case rel => exact ⟨k + 1, by omega, by go_num, hx2, hall2⟩
        case measure => simp [intOf]; omega
      · have hrk1 : Hid (rk = k) := by
          unfold Hid
          rw [hrk.out]
          refine rank_is hk hall.out (fun t h1 h2 => ?_)
          rcases Nat.lt_or_eq_of_le h1 with h3 | h3
          · intro h4
            have h5 := srt_nth hS'.out h3 h2
            exact hc (cmpT_trans h5 h4)
          · rw [← h3]; exact hc
        rw [show decide (cmpT ⟨(tth L k).key, (tth L k).no⟩ ⟨s, i⟩ < 0) = false from decide_eq_false hc] at hE
        clear hc hall hrk
        generalize tth L k = x at *
        go_upto_region 2 with fail
        have I0 : (fun w' : World => w'.cell? ⟨r, 0, none⟩ = some (.slice (some a1) L.length c1) ∧ w'.cell? ⟨r, 1, none⟩ = some (.slice (some a2) L.length c2) ∧ w'.cell? (a1.add k) = some (.string x.key) ∧ w'.cell? (a2.add k) = some (.int .i64 x.no)) wr.drew := ⟨z0, z1, y1, y2⟩
        have hx2 := hid (hx.out.drew_right)
        refine region_J (fun w' : World => w'.cell? ⟨r, 0, none⟩ = some (.slice (some a1) L.length c1) ∧ w'.cell? ⟨r, 1, none⟩ = some (.slice (some a2) L.length c2) ∧ w'.cell? (a1.add k) = some (.string x.key) ∧ w'.cell? (a2.add k) = some (.int .i64 x.no)) 26 (by kernel_rfl) ?_
        clear z0 z1 y1 y2 hx
        generalize wr.drew = w1 at *
        refine J_takeO 0 (v := ?vb0) rfl (by kernel_rfl) (by kernel_rfl) (by kernel_rfl) (by kernel_rfl) (fun _ _ _ h => h) (Or.inl ⟨by rfl, ?yb0⟩) I0 ?rb0
        case yb0 => (intro w hSw; obtain ⟨_, _, _, _⟩ := hSw; (go_simp; with_reducible rfl))
        simp only [Act.put, List.getElem_toArray, List.getElem_cons_zero, List.getElem_cons_succ, List.setIfInBounds_toArray, List.set_cons_zero, List.set_cons_succ]
        refine J_takeO 1 (v := ?vb1) rfl (by kernel_rfl) (by kernel_rfl) (by kernel_rfl) (by kernel_rfl) (fun _ _ _ h => h) (Or.inl ⟨by rfl, ?yb1⟩) I0 ?rb1
        case yb1 => (intro w hSw; obtain ⟨_, _, _, _⟩ := hSw; (go_simp; with_reducible rfl))
        simp only [Act.put, List.getElem_toArray, List.getElem_cons_zero, List.getElem_cons_succ, List.setIfInBounds_toArray, List.set_cons_zero, List.set_cons_succ]
        refine J_takeO 2 (v := ?vb2) rfl (by kernel_rfl) (by kernel_rfl) (by kernel_rfl) (by kernel_rfl) (fun _ _ _ h => h) (Or.inl ⟨by rfl, ?yb2⟩) I0 ?rb2
        case yb2 => (intro w hSw; obtain ⟨_, _, _, _⟩ := hSw; (go_simp; with_reducible rfl))
        simp only [Act.put, List.getElem_toArray, List.getElem_cons_zero, List.getElem_cons_succ, List.setIfInBounds_toArray, List.set_cons_zero, List.set_cons_succ]
        refine J_takeO 3 (v := ?vb3) rfl (by kernel_rfl) (by kernel_rfl) (by kernel_rfl) (by kernel_rfl) (fun _ _ _ h => h) (Or.inl ⟨by rfl, ?yb3⟩) I0 ?rb3
        case yb3 => (intro w hSw; obtain ⟨_, _, _, _⟩ := hSw; (go_simp; with_reducible rfl))
        simp only [Act.put, List.getElem_toArray, List.getElem_cons_zero, List.getElem_cons_succ, List.setIfInBounds_toArray, List.set_cons_zero, List.set_cons_succ]
        refine J_takeO 4 (v := ?vb4) rfl (by kernel_rfl) (by kernel_rfl) (by kernel_rfl) (by kernel_rfl) (fun _ _ _ h => h) (Or.inl ⟨by rfl, ?yb4⟩) I0 ?rb4
        case yb4 => (intro w hSw; obtain ⟨_, _, _, _⟩ := hSw; (go_simp; with_reducible rfl))
        simp only [Act.put, List.getElem_toArray, List.getElem_cons_zero, List.getElem_cons_succ, List.setIfInBounds_toArray, List.set_cons_zero, List.set_cons_succ]
        refine J_takeO 5 (v := ?vb5) rfl (by kernel_rfl) (by kernel_rfl) (by kernel_rfl) (by kernel_rfl) (fun _ _ _ h => h) (Or.inl ⟨by rfl, ?yb5⟩) I0 ?rb5
        case yb5 => (intro w hSw; obtain ⟨_, _, _, _⟩ := hSw; (go_simp; with_reducible rfl))
        simp only [Act.put, List.getElem_toArray, List.getElem_cons_zero, List.getElem_cons_succ, List.setIfInBounds_toArray, List.set_cons_zero, List.set_cons_succ]
        refine J_takeO 6 (v := ?vb6) rfl (by kernel_rfl) (by kernel_rfl) (by kernel_rfl) (by kernel_rfl) (fun _ _ _ h => h) (Or.inl ⟨by rfl, ?yb6⟩) I0 ?rb6
        case yb6 => (intro w hSw; obtain ⟨_, _, _, _⟩ := hSw; (go_simp; with_reducible rfl))
        simp only [Act.put, List.getElem_toArray, List.getElem_cons_zero, List.getElem_cons_succ, List.setIfInBounds_toArray, List.set_cons_zero, List.set_cons_succ]
        refine J_takeO 7 (v := ?vb7) rfl (by kernel_rfl) (by kernel_rfl) (by kernel_rfl) (by kernel_rfl) (fun _ _ _ h => h) (Or.inl ⟨by rfl, ?yb7⟩) I0 ?rb7
        case yb7 => (intro w hSw; obtain ⟨_, _, _, _⟩ := hSw; (go_simp; with_reducible rfl))
        simp only [Act.put, List.getElem_toArray, List.getElem_cons_zero, List.getElem_cons_succ, List.setIfInBounds_toArray, List.set_cons_zero, List.set_cons_succ]
        refine J_takeO 8 (v := ?vb8) rfl (by kernel_rfl) (by kernel_rfl) (by kernel_rfl) (by kernel_rfl) (fun _ _ _ h => h) (Or.inl ⟨by rfl, ?yb8⟩) I0 ?rb8
        case yb8 => (intro w hSw; obtain ⟨_, _, _, _⟩ := hSw; (go_simp; with_reducible rfl))
        simp only [Act.put, List.getElem_toArray, List.getElem_cons_zero, List.getElem_cons_succ, List.setIfInBounds_toArray, List.set_cons_zero, List.set_cons_succ]
        refine J_takeO 9 (v := ?vb9) rfl (by kernel_rfl) (by kernel_rfl) (by kernel_rfl) (by kernel_rfl) (fun _ _ _ h => h) (Or.inl ⟨by rfl, ?yb9⟩) I0 ?rb9
        case yb9 => (intro w hSw; obtain ⟨_, _, _, _⟩ := hSw; (go_simp; with_reducible rfl))
        simp only [Act.put, List.getElem_toArray, List.getElem_cons_zero, List.getElem_cons_succ, List.setIfInBounds_toArray, List.set_cons_zero, List.set_cons_succ]
        refine J_takeO 10 (v := ?vb10) rfl (by kernel_rfl) (by kernel_rfl) (by kernel_rfl) (by kernel_rfl) (fun _ _ _ h => h) (Or.inl ⟨by rfl, ?yb10⟩) I0 ?rb10
        case yb10 => (intro w hSw; obtain ⟨_, _, _, _⟩ := hSw; (go_simp; with_reducible rfl))
        simp only [Act.put, List.getElem_toArray, List.getElem_cons_zero, List.getElem_cons_succ, List.setIfInBounds_toArray, List.set_cons_zero, List.set_cons_succ]
        refine J_takeO 11 (v := ?vb11) rfl (by kernel_rfl) (by kernel_rfl) (by kernel_rfl) (by kernel_rfl) (fun _ _ _ h => h) (Or.inl ⟨by rfl, ?yb11⟩) I0 ?rb11
        case yb11 => (intro w hSw; obtain ⟨_, _, _, _⟩ := hSw; (go_simp; with_reducible rfl))
        simp only [Act.put, List.getElem_toArray, List.getElem_cons_zero, List.getElem_cons_succ, List.setIfInBounds_toArray, List.set_cons_zero, List.set_cons_succ]
        refine J_takeO 12 (v := ?vb12) rfl (by kernel_rfl) (by kernel_rfl) (by kernel_rfl) (by kernel_rfl) (fun _ _ _ h => h) (Or.inl ⟨by rfl, ?yb12⟩) I0 ?rb12
        case yb12 => (intro w hSw; obtain ⟨_, _, _, _⟩ := hSw; (go_simp; with_reducible rfl))
        simp only [Act.put, List.getElem_toArray, List.getElem_cons_zero, List.getElem_cons_succ, List.setIfInBounds_toArray, List.set_cons_zero, List.set_cons_succ]
        refine J_takeO 13 (v := ?vb13) rfl (by kernel_rfl) (by kernel_rfl) (by kernel_rfl) (by kernel_rfl) (fun _ _ _ h => h) (Or.inl ⟨by rfl, ?yb13⟩) I0 ?rb13
        case yb13 => (intro w hSw; obtain ⟨_, _, _, _⟩ := hSw; (go_simp; with_reducible rfl))
        simp only [Act.put, List.getElem_toArray, List.getElem_cons_zero, List.getElem_cons_succ, List.setIfInBounds_toArray, List.set_cons_zero, List.set_cons_succ]
        refine J_takeO 14 (v := ?vb14) rfl (by kernel_rfl) (by kernel_rfl) (by kernel_rfl) (by kernel_rfl) (fun _ _ _ h => h) (Or.inl ⟨by rfl, ?yb14⟩) I0 ?rb14
        case yb14 => (intro w hSw; obtain ⟨_, _, _, _⟩ := hSw; (go_simp; with_reducible rfl))
        simp only [Act.put, List.getElem_toArray, List.getElem_cons_zero, List.getElem_cons_succ, List.setIfInBounds_toArray, List.set_cons_zero, List.set_cons_succ]
        refine J_takeO 15 (v := ?vb15) rfl (by kernel_rfl) (by kernel_rfl) (by kernel_rfl) (by kernel_rfl) (fun _ _ _ h => h) (Or.inl ⟨by rfl, ?yb15⟩) I0 ?rb15
        case yb15 => (intro w hSw; obtain ⟨_, _, _, _⟩ := hSw; (go_simp; with_reducible rfl))
        simp only [Act.put, List.getElem_toArray, List.getElem_cons_zero, List.getElem_cons_succ, List.setIfInBounds_toArray, List.set_cons_zero, List.set_cons_succ]
        refine J_takeO 16 (v := ?vb16) rfl (by kernel_rfl) (by kernel_rfl) (by kernel_rfl) (by kernel_rfl) (fun _ _ _ h => h) (Or.inl ⟨by rfl, ?yb16⟩) I0 ?rb16
        case yb16 => (intro w hSw; obtain ⟨_, _, _, _⟩ := hSw; (go_simp; with_reducible rfl))
        simp only [Act.put, List.getElem_toArray, List.getElem_cons_zero, List.getElem_cons_succ, List.setIfInBounds_toArray, List.set_cons_zero, List.set_cons_succ]
        refine J_takeO 17 (v := ?vb17) rfl (by kernel_rfl) (by kernel_rfl) (by kernel_rfl) (by kernel_rfl) (fun _ _ _ h => h) (Or.inl ⟨by rfl, ?yb17⟩) I0 ?rb17
        case yb17 => (intro w hSw; obtain ⟨_, _, _, _⟩ := hSw; (go_simp; with_reducible rfl))
        simp only [Act.put, List.getElem_toArray, List.getElem_cons_zero, List.getElem_cons_succ, List.setIfInBounds_toArray, List.set_cons_zero, List.set_cons_succ]
        refine J_takeO 18 (v := ?vb18) rfl (by kernel_rfl) (by kernel_rfl) (by kernel_rfl) (by kernel_rfl) (fun _ _ _ h => h) (Or.inl ⟨by rfl, ?yb18⟩) I0 ?rb18
        case yb18 => (intro w hSw; obtain ⟨_, _, _, _⟩ := hSw; (go_simp; with_reducible rfl))
        simp only [Act.put, List.getElem_toArray, List.getElem_cons_zero, List.getElem_cons_succ, List.setIfInBounds_toArray, List.set_cons_zero, List.set_cons_succ]
        refine J_takeO 19 (v := ?vb19) rfl (by kernel_rfl) (by kernel_rfl) (by kernel_rfl) (by kernel_rfl) (fun _ _ _ h => h) (Or.inl ⟨by rfl, ?yb19⟩) I0 ?rb19
        case yb19 => (intro w hSw; obtain ⟨_, _, _, _⟩ := hSw; (go_simp; with_reducible rfl))
        simp only [Act.put, List.getElem_toArray, List.getElem_cons_zero, List.getElem_cons_succ, List.setIfInBounds_toArray, List.set_cons_zero, List.set_cons_succ]
        refine J_takeO 20 (v := ?vb20) rfl (by kernel_rfl) (by kernel_rfl) (by kernel_rfl) (by kernel_rfl) (fun _ _ _ h => h) (Or.inl ⟨by rfl, ?yb20⟩) I0 ?rb20
        case yb20 => (intro w hSw; obtain ⟨_, _, _, _⟩ := hSw; (go_simp; with_reducible rfl))
        simp only [Act.put, List.getElem_toArray, List.getElem_cons_zero, List.getElem_cons_succ, List.setIfInBounds_toArray, List.set_cons_zero, List.set_cons_succ]
        refine J_takeO 21 (v := ?vb21) rfl (by kernel_rfl) (by kernel_rfl) (by kernel_rfl) (by kernel_rfl) (fun _ _ _ h => h) (Or.inl ⟨by rfl, ?yb21⟩) I0 ?rb21
        case yb21 => (intro w hSw; obtain ⟨_, _, _, _⟩ := hSw; (go_simp; with_reducible rfl))
        simp only [Act.put, List.getElem_toArray, List.getElem_cons_zero, List.getElem_cons_succ, List.setIfInBounds_toArray, List.set_cons_zero, List.set_cons_succ]
        refine J_takeO 22 (v := ?vb22) rfl (by kernel_rfl) (by kernel_rfl) (by kernel_rfl) (by kernel_rfl) (fun _ _ _ h => h) (Or.inl ⟨by rfl, ?yb22⟩) I0 ?rb22
        case yb22 => (intro w hSw; obtain ⟨_, _, _, _⟩ := hSw; (go_simp; with_reducible rfl))
        simp only [Act.put, List.getElem_toArray, List.getElem_cons_zero, List.getElem_cons_succ, List.setIfInBounds_toArray, List.set_cons_zero, List.set_cons_succ]
        refine J_takeO 23 (v := ?vb23) rfl (by kernel_rfl) (by kernel_rfl) (by kernel_rfl) (by kernel_rfl) (fun _ _ _ h => h) (Or.inl ⟨by rfl, ?yb23⟩) I0 ?rb23
        case yb23 => (intro w hSw; obtain ⟨_, _, _, _⟩ := hSw; (go_simp; with_reducible rfl))
        simp only [Act.put, List.getElem_toArray, List.getElem_cons_zero, List.getElem_cons_succ, List.setIfInBounds_toArray, List.set_cons_zero, List.set_cons_succ]
        refine J_one 24 rfl (by kernel_rfl) (fun K hK => ?_)
        go_simp
        refine (hE.out _).mono ?_
        rintro e' w5 ⟨rfl, rfl⟩
        refine hK _ _ ⟨fun _ => I0, ?_⟩
        clear hK K
        try simp only [Act.put, List.getElem_toArray, List.getElem_cons_zero, List.getElem_cons_succ, List.setIfInBounds_toArray, List.set_cons_zero, List.set_cons_succ]
        refine J_one 25 rfl (by kernel_rfl) (fun K hK => ?_)
        go_simp
        refine hK _ _ ⟨fun _ => I0, ?_⟩
        clear hK K
        try simp only [Act.put, List.setIfInBounds_toArray, List.set_cons_zero, List.set_cons_succ]
        refine J_done (by kernel_rfl) (OnlyOn.normal ?_)
        go_wp2
        go_ret
        exact ⟨by rw [hrk1.out]; rfl, hx2.out⟩
    · obtain rfl : k = L.length := by omega
      have hrk1 : Hid (rk = L.length) := by
        unfold Hid
        rw [hrk.out]
        exact rank_is hk hall.out (fun t h1 h2 => by omega)
      replace z0 := hx.out.cell z0
      replace lr := Nat.lt_of_lt_of_le lr hx.out.size
      clear hall hrk z1
      go_upto_region 2 with fail
      have I0 : (fun w' : World => w'.cell? ⟨r, 0, none⟩ = some (.slice A1 L.length c1)) wr.drew := z0
      have hx2 := hid (hx.out.drew_right)
      refine region_J (fun w' : World => w'.cell? ⟨r, 0, none⟩ = some (.slice A1 L.length c1)) 26 (by kernel_rfl) ?_
      clear z0 hx
      generalize wr.drew = w1 at *
      refine J_takeO 0 (v := ?vc0) rfl (by kernel_rfl) (by kernel_rfl) (by kernel_rfl) (by kernel_rfl) (fun _ _ _ h => h) (Or.inl ⟨by rfl, ?yc0⟩) I0 ?rc0
      case yc0 => (intro w hSw; have := hSw; (go_simp; with_reducible rfl))
      simp only [Act.put, List.getElem_toArray, List.getElem_cons_zero, List.getElem_cons_succ, List.setIfInBounds_toArray, List.set_cons_zero, List.set_cons_succ]
      refine J_takeO 1 (v := ?vc1) rfl (by kernel_rfl) (by kernel_rfl) (by kernel_rfl) (by kernel_rfl) (fun _ _ _ h => h) (Or.inl ⟨by rfl, ?yc1⟩) I0 ?rc1
      case yc1 => (intro w hSw; have := hSw; (go_simp; with_reducible rfl))
      simp only [Act.put, List.getElem_toArray, List.getElem_cons_zero, List.getElem_cons_succ, List.setIfInBounds_toArray, List.set_cons_zero, List.set_cons_succ]
      refine J_takeO 2 (v := ?vc2) rfl (by kernel_rfl) (by kernel_rfl) (by kernel_rfl) (by kernel_rfl) (fun _ _ _ h => h) (Or.inl ⟨by rfl, ?yc2⟩) I0 ?rc2
      case yc2 => (intro w hSw; have := hSw; (go_simp; with_reducible rfl))
      simp only [Act.put, List.getElem_toArray, List.getElem_cons_zero, List.getElem_cons_succ, List.setIfInBounds_toArray, List.set_cons_zero, List.set_cons_succ]
      refine J_takeO 3 (v := ?vc3) rfl (by kernel_rfl) (by kernel_rfl) (by kernel_rfl) (by kernel_rfl) (fun _ _ _ h => h) (Or.inl ⟨by rfl, ?yc3⟩) I0 ?rc3
      case yc3 => (intro w hSw; have := hSw; (go_simp; with_reducible rfl))
      simp only [Act.put, List.getElem_toArray, List.getElem_cons_zero, List.getElem_cons_succ, List.setIfInBounds_toArray, List.set_cons_zero, List.set_cons_succ]
      refine J_takeO 4 (v := ?vc4) rfl (by kernel_rfl) (by kernel_rfl) (by kernel_rfl) (by kernel_rfl) (fun _ _ _ h => h) (Or.inl ⟨by rfl, ?yc4⟩) I0 ?rc4
      case yc4 => (intro w hSw; have := hSw; (go_simp; with_reducible rfl))
      simp only [Act.put, List.getElem_toArray, List.getElem_cons_zero, List.getElem_cons_succ, List.setIfInBounds_toArray, List.set_cons_zero, List.set_cons_succ]
      refine J_takeO 5 (v := ?vc5) rfl (by kernel_rfl) (by kernel_rfl) (by kernel_rfl) (by kernel_rfl) (fun _ _ _ h => h) (Or.inl ⟨by rfl, ?yc5⟩) I0 ?rc5
      case yc5 => (intro w hSw; have := hSw; (go_simp; with_reducible rfl))
      simp only [Act.put, List.getElem_toArray, List.getElem_cons_zero, List.getElem_cons_succ, List.setIfInBounds_toArray, List.set_cons_zero, List.set_cons_succ]
      refine J_takeO 6 (v := ?vc6) rfl (by kernel_rfl) (by kernel_rfl) (by kernel_rfl) (by kernel_rfl) (fun _ _ _ h => h) (Or.inl ⟨by rfl, ?yc6⟩) I0 ?rc6
      case yc6 => (intro w hSw; have := hSw; (go_simp; with_reducible rfl))
      simp only [Act.put, List.getElem_toArray, List.getElem_cons_zero, List.getElem_cons_succ, List.setIfInBounds_toArray, List.set_cons_zero, List.set_cons_succ]
      refine J_takeO 7 (v := ?vc7) rfl (by kernel_rfl) (by kernel_rfl) (by kernel_rfl) (by kernel_rfl) (fun _ _ _ h => h) (Or.inl ⟨by rfl, ?yc7⟩) I0 ?rc7
      case yc7 => (intro w hSw; have := hSw; (go_simp; with_reducible rfl))
      simp only [Act.put, List.getElem_toArray, List.getElem_cons_zero, List.getElem_cons_succ, List.setIfInBounds_toArray, List.set_cons_zero, List.set_cons_succ]
      refine J_takeO 8 rfl (by kernel_rfl) (by kernel_rfl) (by kernel_rfl) (by kernel_rfl) (fun _ _ _ h => h) (Or.inr ⟨by rfl, rfl⟩) I0 ?_
      simp only [Act.put, List.getElem_toArray, List.getElem_cons_zero, List.getElem_cons_succ, List.setIfInBounds_toArray, List.set_cons_zero, List.set_cons_succ]
      refine J_takeO 9 rfl (by kernel_rfl) (by kernel_rfl) (by kernel_rfl) (by kernel_rfl) (fun _ _ _ h => h) (Or.inr ⟨by rfl, rfl⟩) I0 ?_
      simp only [Act.put, List.getElem_toArray, List.getElem_cons_zero, List.getElem_cons_succ, List.setIfInBounds_toArray, List.set_cons_zero, List.set_cons_succ]
      refine J_takeO 10 rfl (by kernel_rfl) (by kernel_rfl) (by kernel_rfl) (by kernel_rfl) (fun _ _ _ h => h) (Or.inr ⟨by rfl, rfl⟩) I0 ?_
      simp only [Act.put, List.getElem_toArray, List.getElem_cons_zero, List.getElem_cons_succ, List.setIfInBounds_toArray, List.set_cons_zero, List.set_cons_succ]
      refine J_takeO 11 rfl (by kernel_rfl) (by kernel_rfl) (by kernel_rfl) (by kernel_rfl) (fun _ _ _ h => h) (Or.inr ⟨by rfl, rfl⟩) I0 ?_
      simp only [Act.put, List.getElem_toArray, List.getElem_cons_zero, List.getElem_cons_succ, List.setIfInBounds_toArray, List.set_cons_zero, List.set_cons_succ]
      refine J_takeO 12 rfl (by kernel_rfl) (by kernel_rfl) (by kernel_rfl) (by kernel_rfl) (fun _ _ _ h => h) (Or.inr ⟨by rfl, rfl⟩) I0 ?_
      simp only [Act.put, List.getElem_toArray, List.getElem_cons_zero, List.getElem_cons_succ, List.setIfInBounds_toArray, List.set_cons_zero, List.set_cons_succ]
      refine J_takeO 13 rfl (by kernel_rfl) (by kernel_rfl) (by kernel_rfl) (by kernel_rfl) (fun _ _ _ h => h) (Or.inr ⟨by rfl, rfl⟩) I0 ?_
      simp only [Act.put, List.getElem_toArray, List.getElem_cons_zero, List.getElem_cons_succ, List.setIfInBounds_toArray, List.set_cons_zero, List.set_cons_succ]
      refine J_takeO 14 rfl (by kernel_rfl) (by kernel_rfl) (by kernel_rfl) (by kernel_rfl) (fun _ _ _ h => h) (Or.inr ⟨by rfl, rfl⟩) I0 ?_
      simp only [Act.put, List.getElem_toArray, List.getElem_cons_zero, List.getElem_cons_succ, List.setIfInBounds_toArray, List.set_cons_zero, List.set_cons_succ]
      refine J_takeO 15 rfl (by kernel_rfl) (by kernel_rfl) (by kernel_rfl) (by kernel_rfl) (fun _ _ _ h => h) (Or.inr ⟨by rfl, rfl⟩) I0 ?_
      simp only [Act.put, List.getElem_toArray, List.getElem_cons_zero, List.getElem_cons_succ, List.setIfInBounds_toArray, List.set_cons_zero, List.set_cons_succ]
      refine J_takeO 16 rfl (by kernel_rfl) (by kernel_rfl) (by kernel_rfl) (by kernel_rfl) (fun _ _ _ h => h) (Or.inr ⟨by rfl, rfl⟩) I0 ?_
      simp only [Act.put, List.getElem_toArray, List.getElem_cons_zero, List.getElem_cons_succ, List.setIfInBounds_toArray, List.set_cons_zero, List.set_cons_succ]
      refine J_takeO 17 rfl (by kernel_rfl) (by kernel_rfl) (by kernel_rfl) (by kernel_rfl) (fun _ _ _ h => h) (Or.inr ⟨by rfl, rfl⟩) I0 ?_
      simp only [Act.put, List.getElem_toArray, List.getElem_cons_zero, List.getElem_cons_succ, List.setIfInBounds_toArray, List.set_cons_zero, List.set_cons_succ]
      refine J_takeO 18 rfl (by kernel_rfl) (by kernel_rfl) (by kernel_rfl) (by kernel_rfl) (fun _ _ _ h => h) (Or.inr ⟨by rfl, rfl⟩) I0 ?_
      simp only [Act.put, List.getElem_toArray, List.getElem_cons_zero, List.getElem_cons_succ, List.setIfInBounds_toArray, List.set_cons_zero, List.set_cons_succ]
      refine J_takeO 19 rfl (by kernel_rfl) (by kernel_rfl) (by kernel_rfl) (by kernel_rfl) (fun _ _ _ h => h) (Or.inr ⟨by rfl, rfl⟩) I0 ?_
      simp only [Act.put, List.getElem_toArray, List.getElem_cons_zero, List.getElem_cons_succ, List.setIfInBounds_toArray, List.set_cons_zero, List.set_cons_succ]
      refine J_takeO 20 rfl (by kernel_rfl) (by kernel_rfl) (by kernel_rfl) (by kernel_rfl) (fun _ _ _ h => h) (Or.inr ⟨by rfl, rfl⟩) I0 ?_
      simp only [Act.put, List.getElem_toArray, List.getElem_cons_zero, List.getElem_cons_succ, List.setIfInBounds_toArray, List.set_cons_zero, List.set_cons_succ]
      refine J_takeO 21 rfl (by kernel_rfl) (by kernel_rfl) (by kernel_rfl) (by kernel_rfl) (fun _ _ _ h => h) (Or.inr ⟨by rfl, rfl⟩) I0 ?_
      simp only [Act.put, List.getElem_toArray, List.getElem_cons_zero, List.getElem_cons_succ, List.setIfInBounds_toArray, List.set_cons_zero, List.set_cons_succ]
      refine J_takeO 22 rfl (by kernel_rfl) (by kernel_rfl) (by kernel_rfl) (by kernel_rfl) (fun _ _ _ h => h) (Or.inr ⟨by rfl, rfl⟩) I0 ?_
      simp only [Act.put, List.getElem_toArray, List.getElem_cons_zero, List.getElem_cons_succ, List.setIfInBounds_toArray, List.set_cons_zero, List.set_cons_succ]
      refine J_takeO 23 rfl (by kernel_rfl) (by kernel_rfl) (by kernel_rfl) (by kernel_rfl) (fun _ _ _ h => h) (Or.inr ⟨by rfl, rfl⟩) I0 ?_
      simp only [Act.put, List.getElem_toArray, List.getElem_cons_zero, List.getElem_cons_succ, List.setIfInBounds_toArray, List.set_cons_zero, List.set_cons_succ]
      refine J_takeO 24 rfl (by kernel_rfl) (by kernel_rfl) (by kernel_rfl) (by kernel_rfl) (fun _ _ _ h => h) (Or.inr ⟨by rfl, rfl⟩) I0 ?_
      simp only [Act.put, List.getElem_toArray, List.getElem_cons_zero, List.getElem_cons_succ, List.setIfInBounds_toArray, List.set_cons_zero, List.set_cons_succ]
      refine J_takeO 25 (v := ?vc25) rfl (by kernel_rfl) (by kernel_rfl) (by kernel_rfl) (by kernel_rfl) (fun _ _ _ h => h) (Or.inl ⟨by rfl, ?yc25⟩) I0 ?rc25
      case yc25 => (intro w hSw; have := hSw; (go_simp; with_reducible rfl))
      simp only [Act.put, List.getElem_toArray, List.getElem_cons_zero, List.getElem_cons_succ, List.setIfInBounds_toArray, List.set_cons_zero, List.set_cons_succ]
      refine J_done (by kernel_rfl) (OnlyOn.normal ?_)
      go_wp2
      go_ret
      exact ⟨by rw [hrk1.out]; rfl, hx2.out⟩
set_option maxRecDepth 100000 in
set_option maxHeartbeats 4000000 in
theorem rhas_any (r : Nat) (L : List Te) (s : ByteArray) (i : Int) (w : World) (h : RTr w r L) (hS : Srt L) (hl : L.length ≤ 10000) (b : Bool) (hb : Hid (b = memT L ⟨s, i⟩)) : Calls Tryz.prog 50 #[.pointer (some ⟨r, 0, none⟩), .string s, .int .i64 i] w (Give (.bool b) w) := by
  obtain ⟨A1, c1, A2, c2, z0, z1, lr, m1, m2, m3, m4, hat⟩ := h.at_
  replace hat := hid hat
  obtain ⟨k, hk⟩ : ∃ k, Hid (k = rankT L ⟨s, i⟩) := ⟨_, rfl⟩
  have hR := hid (rRank_any r L s i w h hS hl k hk)
  have hm := hid (mem_at hS ⟨s, i⟩)
  rw [← hk.out, ← hb.out] at hm
  clear hb h hS
  by_cases hlt : k < L.length
  · obtain ⟨a1, a2, rfl, rfl, y1, y2⟩ := hat.out k hlt
    have hki : (k : Int) < (L.length : Int) := by omega
    have hm1 : b = (cmpT (tth L k) ⟨s, i⟩ == 0) := by rw [hm.out, decide_eq_true hlt]; rfl
    by_cases hkey : (tth L k).key = s
    · by_cases hno : (tth L k).no = i
      · have hb1 : Hid (b = true) := by
          unfold Hid
          rw [hm1, ← hkey, ← hno]
          show (cmpT (tth L k) (tth L k) == 0) = true
          rw [cmpT_refl]
          rfl
        rw [hkey] at y1
        rw [hno] at y2
        clear hm hm1 hkey hno hat
        go_enter Tryz.func50, Tryz.ntmps50
        go_wp2_with fail
        refine hR.out.mono ?_
        rintro e w1 ⟨rfl, hx⟩
        replace z0 := hx.cell z0
        replace z1 := hx.cell z1
        replace y1 := hx.cell y1
        replace y2 := hx.cell y2
        have lr1 := Nat.lt_of_lt_of_le lr hx.size
        replace hx := hid hx
        go_wp2
        go_ret
        exact ⟨by rw [hb1.out]; rfl, hx.out⟩
      · have hb1 : Hid (b = false) := by
          unfold Hid
          rw [hm1, beq_eq_false_iff_ne]
          exact fun e => hno (by rw [cmpT_zero.1 e])
        have hnf : ((tth L k).no == i) = false := by rw [beq_eq_false_iff_ne]; exact hno
        rw [hkey] at y1
        generalize (tth L k).no = j at *
        clear hm hm1 hkey hno hat
        go_enter Tryz.func50, Tryz.ntmps50
        go_wp2_with fail
        refine hR.out.mono ?_
        rintro e w1 ⟨rfl, hx⟩
        replace z0 := hx.cell z0
        replace z1 := hx.cell z1
        replace y1 := hx.cell y1
        replace y2 := hx.cell y2
        have lr1 := Nat.lt_of_lt_of_le lr hx.size
        replace hx := hid hx
        go_wp2
        go_ret
        exact ⟨by rw [hb1.out]; rfl, hx.out⟩
    · have hb1 : Hid (b = false) := by
        unfold Hid
        rw [hm1, beq_eq_false_iff_ne]
        exact fun e => hkey (by rw [cmpT_zero.1 e])
      have hnf : ((tth L k).key.toList == s.toList) = false := by
        rw [beq_eq_false_iff_ne]
        intro e
        apply hkey
        rw [ByteArray.toList_eq, ByteArray.toList_eq] at e
        exact str_ext e
      generalize (tth L k).key = j at *
      clear hm hm1 hkey hat
      go_enter Tryz.func50, Tryz.ntmps50
      go_wp2_with fail
      refine hR.out.mono ?_
      rintro e w1 ⟨rfl, hx⟩
      replace z0 := hx.cell z0
      replace y1 := hx.cell y1
      have lr1 := Nat.lt_of_lt_of_le lr hx.size
      replace hx := hid hx
      go_wp2
      go_ret
      exact ⟨by rw [hb1.out]; rfl, hx.out⟩
  · have hb1 : Hid (b = false) := by
      unfold Hid
      rw [hm.out, decide_eq_false hlt]
      rfl
    have hki : ¬ (k : Int) < (L.length : Int) := by omega
    clear hm hat
    go_enter Tryz.func50, Tryz.ntmps50
    go_wp2_with fail
    refine hR.out.mono ?_
    rintro e w1 ⟨rfl, hx⟩
    replace z0 := hx.cell z0
    have lr1 := Nat.lt_of_lt_of_le lr hx.size
    replace hx := hid hx
    go_wp2
    go_ret
    exact ⟨by rw [hb1.out]; rfl, hx.out⟩
set_option maxRecDepth 100000 in
set_option maxHeartbeats 4000000 in
theorem rAt_any (r : Nat) (L : List Te) (i : Int) (w : World) (h : RTr w r L) (o : Option Te) (ho : Hid (o = atT L i)) : Calls Tryz.prog 24 #[.pointer (some ⟨r, 0, none⟩), .int .i64 i] w (Give (TV o) w) := by
  obtain ⟨A1, c1, A2, c2, z0, z1, lr, m1, m2, m3, m4, hat⟩ := h.at_
  replace hat := hid hat
  by_cases hi : i < 0
  · obtain rfl : o = none := by rw [ho.out]; unfold atT; rw [if_pos hi]
    clear hat
    simp only [TV]
    go_enter Tryz.func24, Tryz.ntmps24
    go_wp2
    go_ret3
    exact ⟨rfl, Ext.refl w⟩
  · by_cases hi2 : (L.length : Int) ≤ i
    · obtain rfl : o = none := by rw [ho.out]; unfold atT; rw [if_neg hi]; exact List.getElem?_eq_none (by omega)
      clear hat
      simp only [TV]
      go_enter Tryz.func24, Tryz.ntmps24
      go_wp2
      go_ret3
      exact ⟨rfl, Ext.refl w⟩
    · obtain ⟨k, rfl⟩ : ∃ k : Nat, i = k := ⟨i.toNat, by omega⟩
      have hk : k < L.length := by omega
      obtain ⟨a1, a2, rfl, rfl, y1, y2⟩ := hat.out k hk
      obtain rfl : o = some (tth L k) := by rw [ho.out, atT_nat, tth_get hk]; exact List.getElem?_eq_getElem hk
      have hki : (k : Int) < (L.length : Int) := by omega
      generalize tth L k = x at *
      clear hat ho h
      simp only [TV]
      go_enter Tryz.func24, Tryz.ntmps24
      go_upto_region 3 with fail
      go_quiet (fail)
      go_wp2
      go_ret3
      exact ⟨rfl, Ext.drewN _ _⟩
set_option maxRecDepth 100000 in
set_option maxHeartbeats 4000000 in
theorem rSeek_any (r : Nat) (L : List Te) (s : ByteArray) (w : World) (h : RTr w r L) (hl : L.length ≤ 10000) (o : Option Te) (ho : Hid (o = L[keyR L s]?)) : Calls Tryz.prog 27 #[.pointer (some ⟨r, 0, none⟩), .string s] w (Give (TV o) w) := by
  obtain ⟨A1, c1, A2, c2, z0, z1, lr, m1, m2, m3, m4, hat⟩ := h.at_
  replace hat := hid hat
  have hA := hid (fun w' (hx : Ext w w') (k : Nat) (hk : Hid (o = L[k]?)) => rAt_any r L (k : Int) w' (h.ext hx) o (by unfold Hid; rw [atT_nat]; exact hk.out))
  go_enter Tryz.func27, Tryz.ntmps27
  go_wp2_with fail
  go_loopw [7] (fun n wr => ∃ k : Nat, k ≤ L.length ∧ n = .int .i64 k ∧ Hid (Ext w wr) ∧ Hid (∀ t, t < k → cmpK (tth L t).key s < 0)) (fun n _ => L.length - (intOf n).toNat)
  case atStart => exact ⟨0, Nat.zero_le _, rfl, Ext.refl w, fun t h => absurd h (Nat.not_lt_zero _)⟩
  case round =>
    obtain ⟨k, hk, rfl, hx, hall⟩ := hrel
    by_cases hlt : k < L.length
    · have hless : Hid (Op.bytesLess (tth L k).key.toList s.toList = decide (cmpK (tth L k).key s < 0)) := by unfold Hid; rw [ByteArray.toList_eq, ByteArray.toList_eq]; exact less_cmp _ _
      obtain ⟨a1, a2, rfl, rfl, y1, y2⟩ := hat.out k hlt
      have hki : (k : Int) < (L.length : Int) := by omega
      replace z0 := hx.out.cell z0
      replace z1 := hx.out.cell z1
      replace y1 := hx.out.cell y1
      replace y2 := hx.out.cell y2
      replace lr := Nat.lt_of_lt_of_le lr hx.out.size
      by_cases hc : cmpK (tth L k).key s < 0
      · have hall2 : Hid (∀ t, t < k + 1 → cmpK (tth L t).key s < 0) := fun t ht => by
          rcases Nat.lt_or_eq_of_le (Nat.lt_succ_iff.1 ht) with h1 | h1
          · exact hall.out t h1
          · rw [h1]; exact hc
        have hb : Op.bytesLess (tth L k).key.toList s.toList = true := hless.out.trans (decide_eq_true hc)
        clear hc hall hless y2
        generalize tth L k = x at *
        go_wp2_with fail
        go_roundw
        case rel => exact ⟨k + 1, by omega, by go_num, hx, hall2⟩
        case measure => simp [intOf]; omega
      · have hok : Hid (o = L[k]?) := by
          unfold Hid
          rw [ho.out, keyR_is hk hall.out (fun _ => hc)]
        have hb : Op.bytesLess (tth L k).key.toList s.toList = false := hless.out.trans (decide_eq_false hc)
        have hC := hid (hA.out wr hx.out k hok)
        clear hc hall hless y2 ho hok hA
        generalize tth L k = x at *
        go_wp2_with fail
        refine hC.out.mono ?_
        rintro e w5 ⟨rfl, hx5⟩
        replace hx := hid (hx.out.trans hx5)
        cases o with
        | none =>
          simp only [TV]
          go_wp2
          go_ret3
          exact ⟨rfl, hx.out⟩
        | some y =>
          simp only [TV]
          go_wp2
          go_ret3
          exact ⟨rfl, hx.out⟩
    · obtain rfl : k = L.length := by omega
      obtain rfl : o = none := by rw [ho.out, keyR_is hk hall.out (fun h => absurd h (Nat.lt_irrefl _))]; exact List.getElem?_eq_none (Nat.le_refl _)
      replace z0 := hx.out.cell z0
      replace lr := Nat.lt_of_lt_of_le lr hx.out.size
      clear hall ho hA
      simp only [TV]
      go_wp2
      go_ret3
      exact ⟨rfl, hx.out⟩
set_option maxRecDepth 100000 in
set_option maxHeartbeats 4000000 in
theorem rNext_any (r : Nat) (L : List Te) (s : ByteArray) (i : Int) (w : World) (h : RTr w r L) (hS : Srt L) (hl : L.length ≤ 10000) (o : Option Te) (ho : Hid (o = L[nextR L ⟨s, i⟩]?)) : Calls Tryz.prog 29 #[.pointer (some ⟨r, 0, none⟩), .string s, .int .i64 i] w (Give (TV o) w) := by
  obtain ⟨A1, c1, A2, c2, z0, z1, lr, m1, m2, m3, m4, hat⟩ := h.at_
  replace hat := hid hat
  have hS' := hid hS
  have hA := hid (fun w' (hx : Ext w w') (k : Nat) (hk : Hid (o = L[k]?)) => rAt_any r L (k : Int) w' (h.ext hx) o (by unfold Hid; rw [atT_nat]; exact hk.out))
  go_enter Tryz.func29, Tryz.ntmps29
  go_wp2_with fail
  go_loopw [9] (fun n wr => ∃ k : Nat, k ≤ L.length ∧ n = .int .i64 k ∧ Hid (Ext w wr) ∧ Hid (∀ t, t < k → ¬ cmpT ⟨s, i⟩ (tth L t) < 0)) (fun n _ => L.length - (intOf n).toNat)
  case atStart => exact ⟨0, Nat.zero_le _, rfl, Ext.refl w, fun t h => absurd h (Nat.not_lt_zero _)⟩
  case round =>
    obtain ⟨k, hk, rfl, hx, hall⟩ := hrel
    by_cases hlt : k < L.length
    · have hE := hid (fun w' => rLess_any s (tth L k).key i (tth L k).no w')
      obtain ⟨a1, a2, rfl, rfl, y1, y2⟩ := hat.out k hlt
      have hki : (k : Int) < (L.length : Int) := by omega
      replace z0 := hx.out.cell z0
      replace z1 := hx.out.cell z1
      replace y1 := hx.out.cell y1
      replace y2 := hx.out.cell y2
      replace lr := Nat.lt_of_lt_of_le lr hx.out.size
      by_cases hc : cmpT ⟨s, i⟩ (tth L k) < 0
      · have hok : Hid (o = L[k]?) := by
          unfold Hid
          rw [ho.out, nextR_is hS'.out hk hall.out (fun _ => hc)]
        rw [show decide (cmpT ⟨s, i⟩ ⟨(tth L k).key, (tth L k).no⟩ < 0) = true from decide_eq_true hc] at hE
        have hC := hid (fun w' hx => hA.out w' hx k hok)
        clear hc hall ho hok hA
        generalize tth L k = x at *
        go_upto_region 4 with fail
        have I0 : (fun w' : World => w'.cell? ⟨r, 0, none⟩ = some (.slice (some a1) L.length c1) ∧ w'.cell? ⟨r, 1, none⟩ = some (.slice (some a2) L.length c2) ∧ w'.cell? (a1.add k) = some (.string x.key) ∧ w'.cell? (a2.add k) = some (.int .i64 x.no)) wr.drew := ⟨z0, z1, y1, y2⟩
        have hx2 := hid (hx.out.drew_right)
        refine region_J (fun w' : World => w'.cell? ⟨r, 0, none⟩ = some (.slice (some a1) L.length c1) ∧ w'.cell? ⟨r, 1, none⟩ = some (.slice (some a2) L.length c2) ∧ w'.cell? (a1.add k) = some (.string x.key) ∧ w'.cell? (a2.add k) = some (.int .i64 x.no)) 17 (by kernel_rfl) ?_
        clear z0 z1 y1 y2 hx
        generalize hw1 : wr.drew = w1 at *
        replace hw1 := hid hw1
        refine J_takeO 0 (v := ?va0) rfl (by kernel_rfl) (by kernel_rfl) (by kernel_rfl) (by kernel_rfl) (fun _ _ _ h => h) (Or.inl ⟨by rfl, ?ya0⟩) I0 ?ra0
        case ya0 => (intro w hSw; obtain ⟨_, _, _, _⟩ := hSw; (go_simp; with_reducible rfl))
        simp only [Act.put, List.getElem_toArray, List.getElem_cons_zero, List.getElem_cons_succ, List.setIfInBounds_toArray, List.set_cons_zero, List.set_cons_succ]
        refine J_takeO 1 (v := ?va1) rfl (by kernel_rfl) (by kernel_rfl) (by kernel_rfl) (by kernel_rfl) (fun _ _ _ h => h) (Or.inl ⟨by rfl, ?ya1⟩) I0 ?ra1
        case ya1 => (intro w hSw; obtain ⟨_, _, _, _⟩ := hSw; (go_simp; with_reducible rfl))
        simp only [Act.put, List.getElem_toArray, List.getElem_cons_zero, List.getElem_cons_succ, List.setIfInBounds_toArray, List.set_cons_zero, List.set_cons_succ]
        refine J_takeO 2 (v := ?va2) rfl (by kernel_rfl) (by kernel_rfl) (by kernel_rfl) (by kernel_rfl) (fun _ _ _ h => h) (Or.inl ⟨by rfl, ?ya2⟩) I0 ?ra2
        case ya2 => (intro w hSw; obtain ⟨_, _, _, _⟩ := hSw; (go_simp; with_reducible rfl))
        simp only [Act.put, List.getElem_toArray, List.getElem_cons_zero, List.getElem_cons_succ, List.setIfInBounds_toArray, List.set_cons_zero, List.set_cons_succ]
        refine J_takeO 3 (v := ?va3) rfl (by kernel_rfl) (by kernel_rfl) (by kernel_rfl) (by kernel_rfl) (fun _ _ _ h => h) (Or.inl ⟨by rfl, ?ya3⟩) I0 ?ra3
        case ya3 => (intro w hSw; obtain ⟨_, _, _, _⟩ := hSw; (go_simp; with_reducible rfl))
        simp only [Act.put, List.getElem_toArray, List.getElem_cons_zero, List.getElem_cons_succ, List.setIfInBounds_toArray, List.set_cons_zero, List.set_cons_succ]
        refine J_takeO 4 (v := ?va4) rfl (by kernel_rfl) (by kernel_rfl) (by kernel_rfl) (by kernel_rfl) (fun _ _ _ h => h) (Or.inl ⟨by rfl, ?ya4⟩) I0 ?ra4
        case ya4 => (intro w hSw; obtain ⟨_, _, _, _⟩ := hSw; (go_simp; with_reducible rfl))
        simp only [Act.put, List.getElem_toArray, List.getElem_cons_zero, List.getElem_cons_succ, List.setIfInBounds_toArray, List.set_cons_zero, List.set_cons_succ]
        refine J_takeO 5 (v := ?va5) rfl (by kernel_rfl) (by kernel_rfl) (by kernel_rfl) (by kernel_rfl) (fun _ _ _ h => h) (Or.inl ⟨by rfl, ?ya5⟩) I0 ?ra5
        case ya5 => (intro w hSw; obtain ⟨_, _, _, _⟩ := hSw; (go_simp; with_reducible rfl))
        simp only [Act.put, List.getElem_toArray, List.getElem_cons_zero, List.getElem_cons_succ, List.setIfInBounds_toArray, List.set_cons_zero, List.set_cons_succ]
        refine J_takeO 6 (v := ?va6) rfl (by kernel_rfl) (by kernel_rfl) (by kernel_rfl) (by kernel_rfl) (fun _ _ _ h => h) (Or.inl ⟨by rfl, ?ya6⟩) I0 ?ra6
        case ya6 => (intro w hSw; obtain ⟨_, _, _, _⟩ := hSw; (go_simp; with_reducible rfl))
        simp only [Act.put, List.getElem_toArray, List.getElem_cons_zero, List.getElem_cons_succ, List.setIfInBounds_toArray, List.set_cons_zero, List.set_cons_succ]
        refine J_takeO 7 (v := ?va7) rfl (by kernel_rfl) (by kernel_rfl) (by kernel_rfl) (by kernel_rfl) (fun _ _ _ h => h) (Or.inl ⟨by rfl, ?ya7⟩) I0 ?ra7
        case ya7 => (intro w hSw; obtain ⟨_, _, _, _⟩ := hSw; (go_simp; with_reducible rfl))
        simp only [Act.put, List.getElem_toArray, List.getElem_cons_zero, List.getElem_cons_succ, List.setIfInBounds_toArray, List.set_cons_zero, List.set_cons_succ]
        refine J_takeO 8 (v := ?va8) rfl (by kernel_rfl) (by kernel_rfl) (by kernel_rfl) (by kernel_rfl) (fun _ _ _ h => h) (Or.inl ⟨by rfl, ?ya8⟩) I0 ?ra8
        case ya8 => (intro w hSw; obtain ⟨_, _, _, _⟩ := hSw; (go_simp; with_reducible rfl))
        simp only [Act.put, List.getElem_toArray, List.getElem_cons_zero, List.getElem_cons_succ, List.setIfInBounds_toArray, List.set_cons_zero, List.set_cons_succ]
        refine J_takeO 9 (v := ?va9) rfl (by kernel_rfl) (by kernel_rfl) (by kernel_rfl) (by kernel_rfl) (fun _ _ _ h => h) (Or.inl ⟨by rfl, ?ya9⟩) I0 ?ra9
        case ya9 => (intro w hSw; obtain ⟨_, _, _, _⟩ := hSw; (go_simp; with_reducible rfl))
        simp only [Act.put, List.getElem_toArray, List.getElem_cons_zero, List.getElem_cons_succ, List.setIfInBounds_toArray, List.set_cons_zero, List.set_cons_succ]
        refine J_takeO 10 (v := ?va10) rfl (by kernel_rfl) (by kernel_rfl) (by kernel_rfl) (by kernel_rfl) (fun _ _ _ h => h) (Or.inl ⟨by rfl, ?ya10⟩) I0 ?ra10
        case ya10 => (intro w hSw; obtain ⟨_, _, _, _⟩ := hSw; (go_simp; with_reducible rfl))
        simp only [Act.put, List.getElem_toArray, List.getElem_cons_zero, List.getElem_cons_succ, List.setIfInBounds_toArray, List.set_cons_zero, List.set_cons_succ]
        refine J_takeO 11 (v := ?va11) rfl (by kernel_rfl) (by kernel_rfl) (by kernel_rfl) (by kernel_rfl) (fun _ _ _ h => h) (Or.inl ⟨by rfl, ?ya11⟩) I0 ?ra11
        case ya11 => (intro w hSw; obtain ⟨_, _, _, _⟩ := hSw; (go_simp; with_reducible rfl))
        simp only [Act.put, List.getElem_toArray, List.getElem_cons_zero, List.getElem_cons_succ, List.setIfInBounds_toArray, List.set_cons_zero, List.set_cons_succ]
        refine J_takeO 12 (v := ?va12) rfl (by kernel_rfl) (by kernel_rfl) (by kernel_rfl) (by kernel_rfl) (fun _ _ _ h => h) (Or.inl ⟨by rfl, ?ya12⟩) I0 ?ra12
        case ya12 => (intro w hSw; obtain ⟨_, _, _, _⟩ := hSw; (go_simp; with_reducible rfl))
        simp only [Act.put, List.getElem_toArray, List.getElem_cons_zero, List.getElem_cons_succ, List.setIfInBounds_toArray, List.set_cons_zero, List.set_cons_succ]
        refine J_takeO 13 (v := ?va13) rfl (by kernel_rfl) (by kernel_rfl) (by kernel_rfl) (by kernel_rfl) (fun _ _ _ h => h) (Or.inl ⟨by rfl, ?ya13⟩) I0 ?ra13
        case ya13 => (intro w hSw; obtain ⟨_, _, _, _⟩ := hSw; (go_simp; with_reducible rfl))
        simp only [Act.put, List.getElem_toArray, List.getElem_cons_zero, List.getElem_cons_succ, List.setIfInBounds_toArray, List.set_cons_zero, List.set_cons_succ]
        refine J_takeO 14 (v := ?va14) rfl (by kernel_rfl) (by kernel_rfl) (by kernel_rfl) (by kernel_rfl) (fun _ _ _ h => h) (Or.inl ⟨by rfl, ?ya14⟩) I0 ?ra14
        case ya14 => (intro w hSw; obtain ⟨_, _, _, _⟩ := hSw; (go_simp; with_reducible rfl))
        simp only [Act.put, List.getElem_toArray, List.getElem_cons_zero, List.getElem_cons_succ, List.setIfInBounds_toArray, List.set_cons_zero, List.set_cons_succ]
        refine J_takeO 15 (v := ?va15) rfl (by kernel_rfl) (by kernel_rfl) (by kernel_rfl) (by kernel_rfl) (fun _ _ _ h => h) (Or.inl ⟨by rfl, ?ya15⟩) I0 ?ra15
        case ya15 => (intro w hSw; obtain ⟨_, _, _, _⟩ := hSw; (go_simp; with_reducible rfl))
        simp only [Act.put, List.getElem_toArray, List.getElem_cons_zero, List.getElem_cons_succ, List.setIfInBounds_toArray, List.set_cons_zero, List.set_cons_succ]
        refine J_one 16 rfl (by kernel_rfl) (fun K hK => ?_)
        go_simp
        refine (hE.out _).mono ?_
        rintro e' w5 ⟨rfl, rfl⟩
        refine hK _ _ ⟨fun _ => I0, ?_⟩
        clear hK K
        try simp only [Act.put, List.getElem_toArray, List.getElem_cons_zero, List.getElem_cons_succ, List.setIfInBounds_toArray, List.set_cons_zero, List.set_cons_succ]
        refine J_done (by kernel_rfl) (OnlyOn.normal ?_)
        clear I0
        go_wp2_with fail
        refine (hC.out _ hx2.out).mono ?_
        rintro e w5 ⟨rfl, hx5⟩
        replace hx2 := hid (hx2.out.trans hx5)
        cases o with
        | none =>
          simp only [TV]
          go_wp2
          go_ret3
          exact ⟨rfl, hx2.out⟩
        | some y =>
          simp only [TV]
          go_wp2
          go_ret3
          exact ⟨rfl, hx2.out⟩
      · have hall2 : Hid (∀ t, t < k + 1 → ¬ cmpT ⟨s, i⟩ (tth L t) < 0) := fun t ht => by
          rcases Nat.lt_or_eq_of_le (Nat.lt_succ_iff.1 ht) with h1 | h1
          · exact hall.out t h1
          · rw [h1]; exact hc
        rw [show decide (cmpT ⟨s, i⟩ ⟨(tth L k).key, (tth L k).no⟩ < 0) = false from decide_eq_false hc] at hE
        clear hc hall
        generalize tth L k = x at *
        go_upto_region 4 with fail
        have I0 : (fun w' : World => w'.cell? ⟨r, 0, none⟩ = some (.slice (some a1) L.length c1) ∧ w'.cell? ⟨r, 1, none⟩ = some (.slice (some a2) L.length c2) ∧ w'.cell? (a1.add k) = some (.string x.key) ∧ w'.cell? (a2.add k) = some (.int .i64 x.no)) wr.drew := ⟨z0, z1, y1, y2⟩
        have hx2 := hid (hx.out.drew_right)
        refine region_J (fun w' : World => w'.cell? ⟨r, 0, none⟩ = some (.slice (some a1) L.length c1) ∧ w'.cell? ⟨r, 1, none⟩ = some (.slice (some a2) L.length c2) ∧ w'.cell? (a1.add k) = some (.string x.key) ∧ w'.cell? (a2.add k) = some (.int .i64 x.no)) 17 (by kernel_rfl) ?_
        clear z0 z1 y1 y2 hx
        generalize hw1 : wr.drew = w1 at *
        replace hw1 := hid hw1
        refine J_takeO 0 (v := ?vb0) rfl (by kernel_rfl) (by kernel_rfl) (by kernel_rfl) (by kernel_rfl) (fun _ _ _ h => h) (Or.inl ⟨by rfl, ?yb0⟩) I0 ?rb0
        case yb0 => (intro w hSw; obtain ⟨_, _, _, _⟩ := hSw; (go_simp; with_reducible rfl))
        simp only [Act.put, List.getElem_toArray, List.getElem_cons_zero, List.getElem_cons_succ, List.setIfInBounds_toArray, List.set_cons_zero, List.set_cons_succ]
        refine J_takeO 1 (v := ?vb1) rfl (by kernel_rfl) (by kernel_rfl) (by kernel_rfl) (by kernel_rfl) (fun _ _ _ h => h) (Or.inl ⟨by rfl, ?yb1⟩) I0 ?rb1
        case yb1 => (intro w hSw; obtain ⟨_, _, _, _⟩ := hSw; (go_simp; with_reducible rfl))
        simp only [Act.put, List.getElem_toArray, List.getElem_cons_zero, List.getElem_cons_succ, List.setIfInBounds_toArray, List.set_cons_zero, List.set_cons_succ]
        refine J_takeO 2 (v := ?vb2) rfl (by kernel_rfl) (by kernel_rfl) (by kernel_rfl) (by kernel_rfl) (fun _ _ _ h => h) (Or.inl ⟨by rfl, ?yb2⟩) I0 ?rb2
        case yb2 => (intro w hSw; obtain ⟨_, _, _, _⟩ := hSw; (go_simp; with_reducible rfl))
        simp only [Act.put, List.getElem_toArray, List.getElem_cons_zero, List.getElem_cons_succ, List.setIfInBounds_toArray, List.set_cons_zero, List.set_cons_succ]
        refine J_takeO 3 (v := ?vb3) rfl (by kernel_rfl) (by kernel_rfl) (by kernel_rfl) (by kernel_rfl) (fun _ _ _ h => h) (Or.inl ⟨by rfl, ?yb3⟩) I0 ?rb3
        case yb3 => (intro w hSw; obtain ⟨_, _, _, _⟩ := hSw; (go_simp; with_reducible rfl))
        simp only [Act.put, List.getElem_toArray, List.getElem_cons_zero, List.getElem_cons_succ, List.setIfInBounds_toArray, List.set_cons_zero, List.set_cons_succ]
        refine J_takeO 4 (v := ?vb4) rfl (by kernel_rfl) (by kernel_rfl) (by kernel_rfl) (by kernel_rfl) (fun _ _ _ h => h) (Or.inl ⟨by rfl, ?yb4⟩) I0 ?rb4
        case yb4 => (intro w hSw; obtain ⟨_, _, _, _⟩ := hSw; (go_simp; with_reducible rfl))
        simp only [Act.put, List.getElem_toArray, List.getElem_cons_zero, List.getElem_cons_succ, List.setIfInBounds_toArray, List.set_cons_zero, List.set_cons_succ]
        refine J_takeO 5 (v := ?vb5) rfl (by kernel_rfl) (by kernel_rfl) (by kernel_rfl) (by kernel_rfl) (fun _ _ _ h => h) (Or.inl ⟨by rfl, ?yb5⟩) I0 ?rb5
        case yb5 => (intro w hSw; obtain ⟨_, _, _, _⟩ := hSw; (go_simp; with_reducible rfl))
        simp only [Act.put, List.getElem_toArray, List.getElem_cons_zero, List.getElem_cons_succ, List.setIfInBounds_toArray, List.set_cons_zero, List.set_cons_succ]
        refine J_takeO 6 (v := ?vb6) rfl (by kernel_rfl) (by kernel_rfl) (by kernel_rfl) (by kernel_rfl) (fun _ _ _ h => h) (Or.inl ⟨by rfl, ?yb6⟩) I0 ?rb6
        case yb6 => (intro w hSw; obtain ⟨_, _, _, _⟩ := hSw; (go_simp; with_reducible rfl))
        simp only [Act.put, List.getElem_toArray, List.getElem_cons_zero, List.getElem_cons_succ, List.setIfInBounds_toArray, List.set_cons_zero, List.set_cons_succ]
        refine J_takeO 7 (v := ?vb7) rfl (by kernel_rfl) (by kernel_rfl) (by kernel_rfl) (by kernel_rfl) (fun _ _ _ h => h) (Or.inl ⟨by rfl, ?yb7⟩) I0 ?rb7
        case yb7 => (intro w hSw; obtain ⟨_, _, _, _⟩ := hSw; (go_simp; with_reducible rfl))
        simp only [Act.put, List.getElem_toArray, List.getElem_cons_zero, List.getElem_cons_succ, List.setIfInBounds_toArray, List.set_cons_zero, List.set_cons_succ]
        refine J_takeO 8 (v := ?vb8) rfl (by kernel_rfl) (by kernel_rfl) (by kernel_rfl) (by kernel_rfl) (fun _ _ _ h => h) (Or.inl ⟨by rfl, ?yb8⟩) I0 ?rb8
        case yb8 => (intro w hSw; obtain ⟨_, _, _, _⟩ := hSw; (go_simp; with_reducible rfl))
        simp only [Act.put, List.getElem_toArray, List.getElem_cons_zero, List.getElem_cons_succ, List.setIfInBounds_toArray, List.set_cons_zero, List.set_cons_succ]
        refine J_takeO 9 (v := ?vb9) rfl (by kernel_rfl) (by kernel_rfl) (by kernel_rfl) (by kernel_rfl) (fun _ _ _ h => h) (Or.inl ⟨by rfl, ?yb9⟩) I0 ?rb9
        case yb9 => (intro w hSw; obtain ⟨_, _, _, _⟩ := hSw; (go_simp; with_reducible rfl))
        simp only [Act.put, List.getElem_toArray, List.getElem_cons_zero, List.getElem_cons_succ, List.setIfInBounds_toArray, List.set_cons_zero, List.set_cons_succ]
        refine J_takeO 10 (v := ?vb10) rfl (by kernel_rfl) (by kernel_rfl) (by kernel_rfl) (by kernel_rfl) (fun _ _ _ h => h) (Or.inl ⟨by rfl, ?yb10⟩) I0 ?rb10
        case yb10 => (intro w hSw; obtain ⟨_, _, _, _⟩ := hSw; (go_simp; with_reducible rfl))
        simp only [Act.put, List.getElem_toArray, List.getElem_cons_zero, List.getElem_cons_succ, List.setIfInBounds_toArray, List.set_cons_zero, List.set_cons_succ]
        refine J_takeO 11 (v := ?vb11) rfl (by kernel_rfl) (by kernel_rfl) (by kernel_rfl) (by kernel_rfl) (fun _ _ _ h => h) (Or.inl ⟨by rfl, ?yb11⟩) I0 ?rb11
        case yb11 => (intro w hSw; obtain ⟨_, _, _, _⟩ := hSw; (go_simp; with_reducible rfl))
        simp only [Act.put, List.getElem_toArray, List.getElem_cons_zero, List.getElem_cons_succ, List.setIfInBounds_toArray, List.set_cons_zero, List.set_cons_succ]
        refine J_takeO 12 (v := ?vb12) rfl (by kernel_rfl) (by kernel_rfl) (by kernel_rfl) (by kernel_rfl) (fun _ _ _ h => h) (Or.inl ⟨by rfl, ?yb12⟩) I0 ?rb12
        case yb12 => (intro w hSw; obtain ⟨_, _, _, _⟩ := hSw; (go_simp; with_reducible rfl))
        simp only [Act.put, List.getElem_toArray, List.getElem_cons_zero, List.getElem_cons_succ, List.setIfInBounds_toArray, List.set_cons_zero, List.set_cons_succ]
        refine J_takeO 13 (v := ?vb13) rfl (by kernel_rfl) (by kernel_rfl) (by kernel_rfl) (by kernel_rfl) (fun _ _ _ h => h) (Or.inl ⟨by rfl, ?yb13⟩) I0 ?rb13
        case yb13 => (intro w hSw; obtain ⟨_, _, _, _⟩ := hSw; (go_simp; with_reducible rfl))
        simp only [Act.put, List.getElem_toArray, List.getElem_cons_zero, List.getElem_cons_succ, List.setIfInBounds_toArray, List.set_cons_zero, List.set_cons_succ]
        refine J_takeO 14 (v := ?vb14) rfl (by kernel_rfl) (by kernel_rfl) (by kernel_rfl) (by kernel_rfl) (fun _ _ _ h => h) (Or.inl ⟨by rfl, ?yb14⟩) I0 ?rb14
        case yb14 => (intro w hSw; obtain ⟨_, _, _, _⟩ := hSw; (go_simp; with_reducible rfl))
        simp only [Act.put, List.getElem_toArray, List.getElem_cons_zero, List.getElem_cons_succ, List.setIfInBounds_toArray, List.set_cons_zero, List.set_cons_succ]
        refine J_takeO 15 (v := ?vb15) rfl (by kernel_rfl) (by kernel_rfl) (by kernel_rfl) (by kernel_rfl) (fun _ _ _ h => h) (Or.inl ⟨by rfl, ?yb15⟩) I0 ?rb15
        case yb15 => (intro w hSw; obtain ⟨_, _, _, _⟩ := hSw; (go_simp; with_reducible rfl))
        simp only [Act.put, List.getElem_toArray, List.getElem_cons_zero, List.getElem_cons_succ, List.setIfInBounds_toArray, List.set_cons_zero, List.set_cons_succ]
        refine J_one 16 rfl (by kernel_rfl) (fun K hK => ?_)
        go_simp
        refine (hE.out _).mono ?_
        rintro e' w5 ⟨rfl, rfl⟩
        refine hK _ _ ⟨fun _ => I0, ?_⟩
        clear hK K
        try simp only [Act.put, List.getElem_toArray, List.getElem_cons_zero, List.getElem_cons_succ, List.setIfInBounds_toArray, List.set_cons_zero, List.set_cons_succ]
        refine J_done (by kernel_rfl) (OnlyOn.normal ?_)
        go_wp2_with fail
        go_roundw
        case rel => exact ⟨k + 1, by omega, by go_num, hx2, hall2⟩
        case measure => simp [intOf]; omega
    · obtain rfl : k = L.length := by omega
      obtain rfl : o = none := by rw [ho.out, nextR_is hS'.out hk hall.out (fun h => absurd h (Nat.lt_irrefl _))]; exact List.getElem?_eq_none (Nat.le_refl _)
      replace z0 := hx.out.cell z0
      replace lr := Nat.lt_of_lt_of_le lr hx.out.size
      clear hall ho hA
      simp only [TV]
      go_wp2
      go_ret3
      exact ⟨rfl, hx.out⟩
set_option maxRecDepth 100000 in
set_option maxHeartbeats 4000000 in
theorem rPrev_any (r : Nat) (L : List Te) (s : ByteArray) (i : Int) (w : World) (h : RTr w r L) (hS : Srt L) (hl : L.length ≤ 10000) (o : Option Te) (ho : Hid (o = atT L ((rankT L ⟨s, i⟩ : Nat) - 1 : Int))) : Calls Tryz.prog 31 #[.pointer (some ⟨r, 0, none⟩), .string s, .int .i64 i] w (Give (TV o) w) := by
  obtain ⟨k, hk⟩ : ∃ k, Hid (k = rankT L ⟨s, i⟩) := ⟨_, rfl⟩
  have hR := hid (rRank_any r L s i w h hS hl k hk)
  have hk1 : k ≤ 10000 := by have := (rank_cut hS ⟨s, i⟩).1; have := hk.out; omega
  rw [← hk.out] at ho
  have hA := hid (fun w' (hx : Ext w w') => rAt_any r L ((k : Int) - 1) w' (h.ext hx) o ho)
  have hw1 : IntKind.i64.wrap ((k : Int) - 1) = (k : Int) - 1 := IntWalk.i64_in _ (by omega)
  clear ho h hS
  go_enter Tryz.func31, Tryz.ntmps31
  go_wp2_with fail
  refine hR.out.mono ?_
  rintro e w1 ⟨rfl, hx⟩
  replace hx := hid hx
  go_wp2_with fail
  refine (hA.out w1 hx.out).mono ?_
  rintro e w5 ⟨rfl, hx5⟩
  replace hx := hid (hx.out.trans hx5)
  cases o with
  | none =>
    simp only [TV]
    go_wp2
    go_ret3
    exact ⟨rfl, hx.out⟩
  | some y =>
    simp only [TV]
    go_wp2
    go_ret3
    exact ⟨rfl, hx.out⟩
end Go.Proofs.YtpijfiaecicpfaaGreat

