/-
  Free and Replace of the reference.
-/
import Derived.Test.YtcgjhloiokpicaaMu
namespace Go.Proofs.Ytcgjhloiokpicaa
open Go.RowKit Go.Shelf
set_option linter.unusedVariables false
set_option linter.unusedSimpArgs false
/-- An entry of a row is written anew. -/
theorem RA.setEnt {w : World} {r g n c : Nat} {size : Int} {l : List En} (h : RA w r size (.slice (some ⟨g, 0, none⟩) n c) l) {k : Nat} (hk : k < l.length) (x : En) :
    RA (((w.setCell ⟨g, k * 3, none⟩ (.int .i64 x.blocks)).setCell ⟨g, k * 3 + 1, none⟩ (.bool (x.kind == 0))).setCell ⟨g, k * 3 + 2, none⟩ (.string x.s)) r size (.slice (some ⟨g, 0, none⟩) n c) (l.set k x) := by
  have hl := h.own.1
  have hn : n = l.length := by
    rcases h.own.2 with ⟨hv, _⟩ | ⟨_, _, _, hv, _⟩
    · cases hv
    · injection hv
  subst hn
  have hg : g ≠ r := fun e => h.ne (by rw [e]; rfl)
  have e1 := rents_set l k 0 (.int .i64 x.blocks) hk (by decide) ⟨(eth l k).block, x.blocks, (eth l k).kind, (eth l k).s⟩ (fun i hi => by rcases i with _ | _ | _ | i <;> first | rfl | omega)
  have e2 := rents_set (l.set k ⟨(eth l k).block, x.blocks, (eth l k).kind, (eth l k).s⟩) k 1 (.bool (x.kind == 0)) (by simpa using hk) (by decide) ⟨(eth l k).block, x.blocks, x.kind, (eth l k).s⟩ (fun i hi => by
    rw [eth_set _ _ _ _ hk, if_pos rfl]
    rcases i with _ | _ | _ | i <;> first | rfl | omega)
  rw [List.set_set] at e2
  have e3 := rents_set (l.set k ⟨(eth l k).block, x.blocks, x.kind, (eth l k).s⟩) k 2 (.string x.s) (by simpa using hk) (by decide) x (fun i hi => by
    rw [eth_set _ _ _ _ hk, if_pos rfl]
    rcases i with _ | _ | _ | i <;> first | rfl | omega)
  rw [List.set_set] at e3
  have h1 := own_setK (o := k * 3) (u := .int .i64 x.blocks) h.own
  rw [Nat.add_zero] at e1
  rw [e1] at h1
  have h2 := own_setK (o := k * 3 + 1) (u := .bool (x.kind == 0)) h1
  rw [e2] at h2
  have h3 := own_setK (o := k * 3 + 2) (u := .string x.s) h2
  rw [e3] at h3
  refine ⟨?_, by rw [List.length_set]; exact h3, h.ne⟩
  rw [heap_setCell_other _ _ r _ (by exact Ne.symm hg), heap_setCell_other _ _ r _ (by exact Ne.symm hg), heap_setCell_other _ _ r _ (by exact Ne.symm hg)]
  exact h.1
theorem RT.rowK {r b n sz : Nat} {e : TypeId} {v v' vo : Value} {w w' : World} {xs : List Value} (h : RT r v v' w w') (ho : w.ownsRow b e sz vo n xs) (hg : vo.ownBlock ≠ some r) : w'.ownsRow b e sz vo n xs := by
  refine ⟨ho.1, ?_⟩
  rcases ho.2 with h2 | ⟨g', cap, cur, rfl, e2, e3, e4⟩
  · exact .inl h2
  · exact .inr ⟨g', cap, cur, rfl, e2, (h.block (Array.getElem?_eq_some_iff.1 e3).1 (fun e => hg (by rw [← e]; rfl))).trans e3, e4⟩
set_option maxRecDepth 100000 in
set_option maxHeartbeats 4000000 in
theorem rFree_any (size : Int) (r : Nat) (v : Value) (l : List En) (b : Int) (w : World) (h : RA w r size v l) (hG : Good size l) : Calls Try.prog 48 #[.pointer (some ⟨r, 0, none⟩), .int .i64 b] w fun e w' => e = .returned (.int .i64 (getE l b)) ∧ ∃ v', RA w' r size v' (FreeL l b) ∧ RT r v v' w w' := by
  have hA := hid (at_any size r v l b w h hG)
  have gf := good_facts hG
  obtain ⟨i0, hi0, hz0, hz1, hz2⟩ := info_parts infoRe
  rcases find_cases l b with ⟨q1, q2, q3⟩ | ⟨k, hk, q0, q1, q2, q4, q5⟩
  · rw [q1] at hA
    have hq : Hid (FreeL l b = l) := if_neg q3
    rw [q2]
    clear q1 q2 q3 hG
    go_enter Try.func48, Try.ntmps48
    go_wp2_with fail
    refine hA.out.mono ?_
    rintro e w' ⟨rfl, rfl⟩
    go_wp2
    go_ret
    exact ⟨rfl, v, by rw [hq.out]; exact h, RT.refl _ _ _⟩
  · rw [q1] at hA
    have hq : Hid (FreeL l b = dropL l k) := by unfold Hid FreeL; rw [q0, if_pos hk]
    have htd := hid (tidy_drop hG hk q4)
    have hT := hid (fun v w (h : RA w r size v (dr1 l k)) => tidy_any size r v (dr1 l k) w h (by rw [dr1_len]; omega) (fun j hj => by rw [dr1_len] at hj; rw [dr1_blocks l k j hk]; have := gf.2.1 j hj; omega))
    rw [q2]
    have hll := gf.1
    have hkk : (k : Int) < (l.length : Int) := by omega
    clear q0 q1 q2 q4 q5 hG gf
    have c1 := h.c1
    obtain ⟨A, c, rfl, hr⟩ := h.rd
    have hmx := Rd.max hr
    have lg := h.lt
    replace hr := hid hr
    go_enter Try.func48, Try.ntmps48
    go_wp2_with fail
    refine hA.out.mono ?_
    rintro e w' ⟨rfl, rfl⟩
    go_wp2_with (at_builtin; refine wpList_appendAny _ rfl _ _ 83 rfl w.heap.size 87 i0 _ 3 32 Try.underlying83 hi0 hz0 hz1 hz2 rfl (by decide) _ _ _ rfl (World.ownsRow_nil _ _ _ _) _ _ _ _ rfl hr.out (rents_one _) (by unfold maxLen; omega) (by omega) (Nat.le_refl _) ?_)
    intro v1 w1 own1 hg1
    have hx1 : Hid (Ext w w1) := ext_push (Ext.refl w) (World.ownsRow_nil w w.heap.size 87 3) hg1
    try simp only [List.nil_append, Nat.zero_add] at own1
    clear hg1
    obtain ⟨g1, e1, rfl, hg1B, hg1l, hnc1, hcc1, hfz1⟩ := own_sliceK own1 (by omega)
    replace own1 := hid own1
    have c11 := hx1.out.cell c1
    have f11 := (h.ext hx1.out).free 1
    have lg1 := World.block_lt_of_cell? w1 _ c11
    dsimp only at lg1
    obtain ⟨hR, hTT⟩ := h.fresh hx1.out own1.out (l' := l) rfl rfl
    replace hR := hid hR
    replace hTT := hid hTT
    clear own1 hnc1 hcc1
    go_upto_region 5 with fail
    have c12 := hR.out.c1
    obtain ⟨y0, y1, y2⟩ := own_entR hR.out.own hk
    have fz0 : (w1.setCell ⟨r, 1, none⟩ (.slice (some ⟨g1, 0, none⟩) l.length e1)).frozen? ⟨g1, k * 3, none⟩ = false := by rw [World.frozen?_setCell]; exact hfz1 _
    have fz1 : (w1.setCell ⟨r, 1, none⟩ (.slice (some ⟨g1, 0, none⟩) l.length e1)).frozen? ⟨g1, k * 3 + 1, none⟩ = false := by rw [World.frozen?_setCell]; exact hfz1 _
    have fz2 : (w1.setCell ⟨r, 1, none⟩ (.slice (some ⟨g1, 0, none⟩) l.length e1)).frozen? ⟨g1, k * 3 + 2, none⟩ = false := by rw [World.frozen?_setCell]; exact hfz1 _
    have hgr : g1 ≠ r := fun e => hR.out.ne (by rw [e]; rfl)
    have lr := World.block_lt_of_cell? _ _ c12
    have lg1' := World.block_lt_of_cell? _ _ y0
    dsimp only at lr lg1'
    clear c11 f11 lg1 hfz1
    generalize w1.setCell ⟨r, 1, none⟩ (.slice (some ⟨g1, 0, none⟩) l.length e1) = w2 at *
    go_region
    have hR3 : Hid (RA (((w2.setCell ⟨g1, k * 3, none⟩ (.int .i64 (eth l k).blocks)).setCell ⟨g1, k * 3 + 1, none⟩ (.bool true)).setCell ⟨g1, k * 3 + 2, none⟩ (.string ⟨#[]⟩)).drew r size (.slice (some ⟨g1, 0, none⟩) l.length e1) (dr1 l k)) :=
      (hR.out.setEnt hk (fre (eth l k))).ext (Ext.refl _).drew_right
    have hT3 : Hid (RT r (.slice A l.length c) (.slice (some ⟨g1, 0, none⟩) l.length e1) w (((w2.setCell ⟨g1, k * 3, none⟩ (.int .i64 (eth l k).blocks)).setCell ⟨g1, k * 3 + 1, none⟩ (.bool true)).setCell ⟨g1, k * 3 + 2, none⟩ (.string ⟨#[]⟩)).drew) :=
      (((hTT.out.fset hg1B _ _).fset hg1B _ _).fset hg1B _ _).right (Ext.refl _).drew_right
    generalize (((w2.setCell ⟨g1, k * 3, none⟩ (.int .i64 (eth l k).blocks)).setCell ⟨g1, k * 3 + 1, none⟩ (.bool true)).setCell ⟨g1, k * 3 + 2, none⟩ (.string ⟨#[]⟩)).drew = w3 at *
    clear hR hTT c12 y0 y1 y2 fz0 fz1 fz2
    go_wp2_with fail
    refine (hT.out _ _ hR3.out).mono ?_
    rintro e w4 ⟨rfl, v4, hR4, hT4⟩
    rw [htd.out] at hR4
    replace hR4 := hid hR4
    replace hT4 := hid (hT3.out.trans hT4)
    go_wp2
    go_ret
    exact ⟨rfl, v4, by rw [hq.out]; exact hR4.out, hT4.out⟩
set_option maxRecDepth 100000 in
set_option maxHeartbeats 4000000 in
theorem rReplace_any (size : Int) (r : Nat) (v : Value) (l : List En) (b : Int) (s : ByteArray) (w : World) (h : RA w r size v l) (hG : Good size l) (hs1 : 16 ≤ size) (hs2 : size ≤ 256) : Calls Try.prog 47 #[.pointer (some ⟨r, 0, none⟩), .int .i64 b, .string s] w fun e w' => e = .returned (.tuple #[.int .i64 (RepB size l b s), .int .i64 (RepE size l b s)]) ∧ ∃ v', RA w' r size v' (RepL size l b s) ∧ RT r v v' w w' := by
  have hA := hid (at_any size r v l b w h hG)
  have gf := good_facts hG
  obtain ⟨i0, hi0, hz0, hz1, hz2⟩ := info_parts infoRe
  rcases find_cases l b with ⟨q1, q2, q3⟩ | ⟨k, hk, q0, q1, q2, q4, q5⟩
  · have rr : Hid (RepB size l b s = 0 ∧ RepE size l b s = 4 ∧ RepL size l b s = l) := ⟨if_neg q3, if_neg q3, if_neg q3⟩
    rw [q1] at hA
    clear q1 q2 q3 hG
    go_enter Try.func47, Try.ntmps47
    go_wp2_with fail
    refine hA.out.mono ?_
    rintro e w' ⟨rfl, rfl⟩
    go_wp2
    go_ret2
    exact ⟨by rw [rr.out.1, rr.out.2.1]; rfl, v, by rw [rr.out.2.2]; exact h, RT.refl _ _ _⟩
  · have hkl : findN l b < l.length := by rw [q0]; exact hk
    by_cases hz : 2048 < s.size
    · have rr : Hid (RepB size l b s = 0 ∧ RepE size l b s = 3 ∧ RepL size l b s = l) := ⟨(if_pos hkl).trans (if_pos hz), (if_pos hkl).trans (if_pos hz), (if_pos hkl).trans (if_pos hz)⟩
      have dz : (2048 : Int) < (s.size : Int) := by omega
      rw [q1] at hA
      clear q0 q1 q2 q4 q5 hG hkl hz
      go_enter Try.func47, Try.ntmps47
      go_wp2_with fail
      refine hA.out.mono ?_
      rintro e w' ⟨rfl, rfl⟩
      go_wp2
      go_ret2
      exact ⟨by rw [rr.out.1, rr.out.2.1]; rfl, v, by rw [rr.out.2.2]; exact h, RT.refl _ _ _⟩
    · have dz : ¬ (2048 : Int) < (s.size : Int) := by omega
      have hzz : s.size ≤ 2048 := by omega
      have hN := hid (fun w => rneeds_any size s.size w hs1 hs2 (by omega) (by omega))
      have hGd := hid (good_drop hG hk q4)
      have hRp : Hid (RepB size l b s = (if needS size s.size = (eth l k).blocks then b else PutB size (dropL l k) s) ∧ RepE size l b s = (if needS size s.size = (eth l k).blocks then 0 else PutE size (dropL l k) s) ∧ RepL size l b s = (if needS size s.size = (eth l k).blocks then setS l k s else if putO (dropL l k) (needS size s.size) then PutL size (dropL l k) s else l)) := by
        subst q0
        unfold PutB PutE PutL
        rw [if_neg hz, if_neg hz, if_neg hz]
        exact ⟨(if_pos hkl).trans (if_neg hz), (if_pos hkl).trans (if_neg hz), (if_pos hkl).trans (if_neg hz)⟩
      have hOE : Hid ((putO (dropL l k) (needS size s.size) = true → PutE size (dropL l k) s = 0) ∧ (putO (dropL l k) (needS size s.size) = false → PutE size (dropL l k) s = 3 ∧ PutB size (dropL l k) s = 0)) := by
        unfold PutE PutB
        rw [if_neg hz, if_neg hz]
        exact ⟨fun h => by rw [h]; rfl, fun h => by rw [h]; exact ⟨rfl, rfl⟩⟩
      have hFL : Hid (FreeL l b = dropL l k) := by unfold Hid FreeL; rw [q0, if_pos hk]
      have hgE : Hid (getE l b = 0) := q2
      have hF := hid (fun v w (h : RA w r size v l) => rFree_any size r v l b w h hG)
      have hP := hid (fun v w (h : RA w r size v (dropL l k)) => rPut_any size r v (dropL l k) s w h hGd.out hs1 hs2)
      rw [hFL.out, hgE.out] at hF
      rw [q1] at hA
      have hll := gf.1
      have hkk : (k : Int) < (l.length : Int) := by omega
      clear hz hkl q0 q1 q2 q4 q5 hG gf hFL hgE
      generalize PutB size (dropL l k) s = PB at *
      generalize PutE size (dropL l k) s = PE at *
      generalize PutL size (dropL l k) s = PL at *
      generalize putO (dropL l k) (needS size s.size) = O at *
      generalize needS size s.size = n at *
      have c1 := h.c1
      have c0 := h.c0
      obtain ⟨A, c, rfl, hr⟩ := h.rd
      have hmx := Rd.max hr
      have lg := h.lt
      replace hr := hid hr
      go_enter Try.func47, Try.ntmps47
      go_wp2_with fail
      refine hA.out.mono ?_
      rintro e w' ⟨rfl, rfl⟩
      go_wp2_with (at_builtin; refine wpList_appendAny _ rfl _ _ 83 rfl w.heap.size 87 i0 _ 3 32 Try.underlying83 hi0 hz0 hz1 hz2 rfl (by decide) _ _ _ rfl (World.ownsRow_nil _ _ _ _) _ _ _ _ rfl hr.out (rents_one _) (by unfold maxLen; omega) (by omega) (Nat.le_refl _) ?_)
      intro v1 w1 own1 hg1
      have hx1 : Hid (Ext w w1) := ext_push (Ext.refl w) (World.ownsRow_nil w w.heap.size 87 3) hg1
      try simp only [List.nil_append, Nat.zero_add] at own1
      clear hg1
      obtain ⟨g1, e1, rfl, hg1B, hg1l, hnc1, hcc1, hfz1⟩ := own_sliceK own1 (by omega)
      replace own1 := hid own1
      have c11 := hx1.out.cell c1
      have f11 := (h.ext hx1.out).free 1
      have lg1 := World.block_lt_of_cell? w1 _ c11
      dsimp only at lg1
      obtain ⟨hR, hTT⟩ := h.fresh hx1.out own1.out (l' := l) rfl rfl
      replace hR := hid hR
      replace hTT := hid hTT
      clear own1 hnc1 hcc1
      have hoB : Hid (∀ k, (Value.slice (some ⟨g1, 0, none⟩) l.length e1).ownBlock = some k → w.heap.size ≤ k) := fun k hk => by
        have e : g1 = k := by simpa [Value.ownBlock] using hk
        omega
      go_upto_region 7 with fail
      have d1 := hR.out.c1
      have d0 := hR.out.c0
      obtain ⟨y0, y1, y2⟩ := own_entR hR.out.own hk
      have fz2 : (w1.setCell ⟨r, 1, none⟩ (.slice (some ⟨g1, 0, none⟩) l.length e1)).frozen? ⟨g1, k * 3 + 2, none⟩ = false := by rw [World.frozen?_setCell]; exact hfz1 _
      have hgr : g1 ≠ r := fun e => hR.out.ne (by rw [e]; rfl)
      have lr := World.block_lt_of_cell? _ _ d1
      have lg1' := World.block_lt_of_cell? _ _ y0
      dsimp only at lr lg1'
      clear c11 f11 lg1 hfz1 c0 c1 lg
      generalize w1.setCell ⟨r, 1, none⟩ (.slice (some ⟨g1, 0, none⟩) l.length e1) = w2 at *
      generalize hE : (eth l k).blocks = eb at *
      have I0 : (fun w' : World => w'.cell? ⟨r, 0, none⟩ = some (.int .i64 size) ∧ w'.cell? ⟨r, 1, none⟩ = some (.slice (some ⟨g1, 0, none⟩) l.length e1) ∧ w'.cell? ⟨g1, k * 3, none⟩ = some (.int .i64 eb)) w2.drew := ⟨d0, d1, y0⟩
      refine region_J (fun w' => w'.cell? ⟨r, 0, none⟩ = some (.int .i64 size) ∧ w'.cell? ⟨r, 1, none⟩ = some (.slice (some ⟨g1, 0, none⟩) l.length e1) ∧ w'.cell? ⟨g1, k * 3, none⟩ = some (.int .i64 eb)) 16 (by kernel_rfl) ?_
      refine J_takeO 0 (v := ?va0) rfl (by kernel_rfl) (by kernel_rfl) (by kernel_rfl) (by kernel_rfl) (fun _ _ _ h => h) (Or.inl ⟨by rfl, ?ya0⟩) I0 ?ra0
      case ya0 => (intro w hSw; obtain ⟨_, _, _⟩ := hSw; (go_simp; with_reducible rfl))
      simp only [Act.put, List.getElem_toArray, List.getElem_cons_zero, List.getElem_cons_succ, List.setIfInBounds_toArray, List.set_cons_zero, List.set_cons_succ]
      refine J_takeO 1 (v := ?va1) rfl (by kernel_rfl) (by kernel_rfl) (by kernel_rfl) (by kernel_rfl) (fun _ _ _ h => h) (Or.inl ⟨by rfl, ?ya1⟩) I0 ?ra1
      case ya1 => (intro w hSw; obtain ⟨_, _, _⟩ := hSw; (go_simp; with_reducible rfl))
      simp only [Act.put, List.getElem_toArray, List.getElem_cons_zero, List.getElem_cons_succ, List.setIfInBounds_toArray, List.set_cons_zero, List.set_cons_succ]
      refine J_takeO 2 (v := ?va2) rfl (by kernel_rfl) (by kernel_rfl) (by kernel_rfl) (by kernel_rfl) (fun _ _ _ h => h) (Or.inl ⟨by rfl, ?ya2⟩) I0 ?ra2
      case ya2 => (intro w hSw; obtain ⟨_, _, _⟩ := hSw; (go_simp; with_reducible rfl))
      simp only [Act.put, List.getElem_toArray, List.getElem_cons_zero, List.getElem_cons_succ, List.setIfInBounds_toArray, List.set_cons_zero, List.set_cons_succ]
      refine J_takeO 3 (v := ?va3) rfl (by kernel_rfl) (by kernel_rfl) (by kernel_rfl) (by kernel_rfl) (fun _ _ _ h => h) (Or.inl ⟨by rfl, ?ya3⟩) I0 ?ra3
      case ya3 => (intro w hSw; obtain ⟨_, _, _⟩ := hSw; (go_simp; with_reducible rfl))
      simp only [Act.put, List.getElem_toArray, List.getElem_cons_zero, List.getElem_cons_succ, List.setIfInBounds_toArray, List.set_cons_zero, List.set_cons_succ]
      refine J_takeO 4 (v := ?va4) rfl (by kernel_rfl) (by kernel_rfl) (by kernel_rfl) (by kernel_rfl) (fun _ _ _ h => h) (Or.inl ⟨by rfl, ?ya4⟩) I0 ?ra4
      case ya4 => (intro w hSw; obtain ⟨_, _, _⟩ := hSw; (go_simp; with_reducible rfl))
      simp only [Act.put, List.getElem_toArray, List.getElem_cons_zero, List.getElem_cons_succ, List.setIfInBounds_toArray, List.set_cons_zero, List.set_cons_succ]
      refine J_takeO 5 (v := ?va5) rfl (by kernel_rfl) (by kernel_rfl) (by kernel_rfl) (by kernel_rfl) (fun _ _ _ h => h) (Or.inl ⟨by rfl, ?ya5⟩) I0 ?ra5
      case ya5 => (intro w hSw; obtain ⟨_, _, _⟩ := hSw; (go_simp; with_reducible rfl))
      simp only [Act.put, List.getElem_toArray, List.getElem_cons_zero, List.getElem_cons_succ, List.setIfInBounds_toArray, List.set_cons_zero, List.set_cons_succ]
      refine J_takeO 7 (v := ?va7) rfl (by kernel_rfl) (by kernel_rfl) (by kernel_rfl) (by kernel_rfl) (fun _ _ _ h => h) (Or.inl ⟨by rfl, ?ya7⟩) I0 ?ra7
      case ya7 => (intro w hSw; obtain ⟨_, _, _⟩ := hSw; (go_simp; with_reducible rfl))
      simp only [Act.put, List.getElem_toArray, List.getElem_cons_zero, List.getElem_cons_succ, List.setIfInBounds_toArray, List.set_cons_zero, List.set_cons_succ]
      refine J_takeO 8 (v := ?va8) rfl (by kernel_rfl) (by kernel_rfl) (by kernel_rfl) (by kernel_rfl) (fun _ _ _ h => h) (Or.inl ⟨by rfl, ?ya8⟩) I0 ?ra8
      case ya8 => (intro w hSw; obtain ⟨_, _, _⟩ := hSw; (go_simp; with_reducible rfl))
      simp only [Act.put, List.getElem_toArray, List.getElem_cons_zero, List.getElem_cons_succ, List.setIfInBounds_toArray, List.set_cons_zero, List.set_cons_succ]
      refine J_takeO 9 (v := ?va9) rfl (by kernel_rfl) (by kernel_rfl) (by kernel_rfl) (by kernel_rfl) (fun _ _ _ h => h) (Or.inl ⟨by rfl, ?ya9⟩) I0 ?ra9
      case ya9 => (intro w hSw; obtain ⟨_, _, _⟩ := hSw; (go_simp; with_reducible rfl))
      simp only [Act.put, List.getElem_toArray, List.getElem_cons_zero, List.getElem_cons_succ, List.setIfInBounds_toArray, List.set_cons_zero, List.set_cons_succ]
      refine J_takeO 10 (v := ?va10) rfl (by kernel_rfl) (by kernel_rfl) (by kernel_rfl) (by kernel_rfl) (fun _ _ _ h => h) (Or.inl ⟨by rfl, ?ya10⟩) I0 ?ra10
      case ya10 => (intro w hSw; obtain ⟨_, _, _⟩ := hSw; (go_simp; with_reducible rfl))
      simp only [Act.put, List.getElem_toArray, List.getElem_cons_zero, List.getElem_cons_succ, List.setIfInBounds_toArray, List.set_cons_zero, List.set_cons_succ]
      refine J_takeO 11 (v := ?va11) rfl (by kernel_rfl) (by kernel_rfl) (by kernel_rfl) (by kernel_rfl) (fun _ _ _ h => h) (Or.inl ⟨by rfl, ?ya11⟩) I0 ?ra11
      case ya11 => (intro w hSw; obtain ⟨_, _, _⟩ := hSw; (go_simp; with_reducible rfl))
      simp only [Act.put, List.getElem_toArray, List.getElem_cons_zero, List.getElem_cons_succ, List.setIfInBounds_toArray, List.set_cons_zero, List.set_cons_succ]
      refine J_takeO 12 (v := ?va12) rfl (by kernel_rfl) (by kernel_rfl) (by kernel_rfl) (by kernel_rfl) (fun _ _ _ h => h) (Or.inl ⟨by rfl, ?ya12⟩) I0 ?ra12
      case ya12 => (intro w hSw; obtain ⟨_, _, _⟩ := hSw; (go_simp; with_reducible rfl))
      simp only [Act.put, List.getElem_toArray, List.getElem_cons_zero, List.getElem_cons_succ, List.setIfInBounds_toArray, List.set_cons_zero, List.set_cons_succ]
      refine J_takeO 13 (v := ?va13) rfl (by kernel_rfl) (by kernel_rfl) (by kernel_rfl) (by kernel_rfl) (fun _ _ _ h => h) (Or.inl ⟨by rfl, ?ya13⟩) I0 ?ra13
      case ya13 => (intro w hSw; obtain ⟨_, _, _⟩ := hSw; (go_simp; with_reducible rfl))
      simp only [Act.put, List.getElem_toArray, List.getElem_cons_zero, List.getElem_cons_succ, List.setIfInBounds_toArray, List.set_cons_zero, List.set_cons_succ]
      refine J_takeO 14 (v := ?va14) rfl (by kernel_rfl) (by kernel_rfl) (by kernel_rfl) (by kernel_rfl) (fun _ _ _ h => h) (Or.inl ⟨by rfl, ?ya14⟩) I0 ?ra14
      case ya14 => (intro w hSw; obtain ⟨_, _, _⟩ := hSw; (go_simp; with_reducible rfl))
      simp only [Act.put, List.getElem_toArray, List.getElem_cons_zero, List.getElem_cons_succ, List.setIfInBounds_toArray, List.set_cons_zero, List.set_cons_succ]
      refine J_one 6 rfl (by kernel_rfl) (fun K hK => ?_)
      go_simp
      refine (hN.out _).mono ?_
      rintro e w3 ⟨rfl, rfl⟩
      refine hK _ _ ⟨fun _ => I0, ?_⟩
      clear hK K
      try simp only [Act.put, List.getElem_toArray, List.getElem_cons_zero, List.getElem_cons_succ, List.setIfInBounds_toArray, List.set_cons_zero, List.set_cons_succ]
      refine J_one 15 rfl (by kernel_rfl) (fun K hK => ?_)
      go_simp
      refine hK _ _ ⟨fun _ => I0, ?_⟩
      clear hK K
      try simp only [Act.put, List.setIfInBounds_toArray, List.set_cons_zero, List.set_cons_succ]
      refine J_done (by kernel_rfl) (OnlyOn.normal ?_)
      replace hR := hid (hR.out.ext (Ext.refl w2).drew_right)
      replace hTT := hid (hTT.out.right (Ext.refl w2).drew_right)
      replace fz2 : w2.drew.frozen? ⟨g1, k * 3 + 2, none⟩ = false := fz2
      replace y2 : w2.drew.cell? ⟨g1, k * 3 + 2, none⟩ = some (.string (eth l k).s) := y2
      replace d1 : w2.drew.cell? ⟨r, 1, none⟩ = some (.slice (some ⟨g1, 0, none⟩) l.length e1) := d1
      replace lr : r < w2.drew.heap.size := lr
      replace lg1' : g1 < w2.drew.heap.size := lg1'
      clear I0 hN d0 y0 y1
      generalize w2.drew = w3 at *
      by_cases heq : n = eb
      · have db : (n == eb) = true := by rw [heq]; exact beq_self_eq_true eb
        have rr : Hid (RepB size l b s = b ∧ RepE size l b s = 0 ∧ RepL size l b s = setS l k s) := ⟨hRp.out.1.trans (if_pos heq), hRp.out.2.1.trans (if_pos heq), hRp.out.2.2.trans (if_pos heq)⟩
        have hR3 : Hid (RA (w3.setCell ⟨g1, k * 3 + 2, none⟩ (.string s)) r size (.slice (some ⟨g1, 0, none⟩) l.length e1) (setS l k s)) := by
          have h1 := own_setK (o := k * 3 + 2) (u := .string s) hR.out.own
          have e1 := rents_set l k 2 (.string s) hk (by decide) ⟨(eth l k).block, (eth l k).blocks, (eth l k).kind, s⟩ (fun i hi => by rcases i with _ | _ | _ | i <;> first | rfl | omega)
          rw [e1] at h1
          refine ⟨(heap_setCell_other _ _ r _ (by exact Ne.symm hgr)).trans hR.out.1, ?_, hR.out.ne⟩
          unfold setS
          rw [List.length_set]
          exact h1
        have hT3 := hid (hTT.out.fset hg1B (k * 3 + 2) (.string s))
        clear hRp heq hR hTT hF hP
        go_wp2
        go_ret2
        exact ⟨by rw [rr.out.1, rr.out.2.1]; rfl, _, by rw [rr.out.2.2]; exact hR3.out, hT3.out⟩
      · have db : (n == eb) = false := by rw [beq_eq_false_iff_ne]; exact heq
        have rr : Hid (RepB size l b s = PB ∧ RepE size l b s = PE ∧ RepL size l b s = if O then PL else l) := ⟨hRp.out.1.trans (if_neg heq), hRp.out.2.1.trans (if_neg heq), hRp.out.2.2.trans (if_neg heq)⟩
        clear hRp heq fz2 y2
        have hown := hid hR.out.own
        have hone := hid hR.out.ne
        go_wp2_with fail
        refine (hF.out _ _ hR.out).mono ?_
        rintro e w4 ⟨rfl, v4, hR4, hT4⟩
        replace hown := hid (hT4.rowK hown.out hone.out)
        replace hT4 := hid (hTT.out.trans hT4)
        replace hR4 := hid hR4
        clear hR hTT hF d1 lr lg1'
        go_wp2_with fail
        refine (hP.out _ _ hR4.out).mono ?_
        rintro e w5 ⟨rfl, v5, hR5, hT5⟩
        replace hown := hid (hT5.rowK hown.out hone.out)
        replace hT5 := hid (hT4.out.trans hT5)
        replace hR5 := hid hR5
        clear hR4 hT4 hP
        have d1 := hR5.out.c1
        have df := hR5.out.free 1
        have lr := hR5.out.lt
        cases O with
        | true =>
          have hPE := hOE.out.1 rfl
          have rr3 : Hid (RepL size l b s = PL) := rr.out.2.2
          have rr1 := hid rr.out.1
          have rr2 := hid rr.out.2.1
          subst hPE
          clear hOE rr
          go_wp2
          go_ret2
          exact ⟨by rw [rr1.out, rr2.out]; rfl, v5, by rw [rr3.out]; exact hR5.out, hT5.out⟩
        | false =>
          obtain ⟨hPE, hPB⟩ := hOE.out.2 rfl
          have rr3 : Hid (RepL size l b s = l) := rr.out.2.2
          have rr1 := hid rr.out.1
          have rr2 := hid rr.out.2.1
          subst hPE hPB
          have hR6 := hid (hR5.out.put (l' := l) hown.out hone.out)
          have hT6 := hid ((hT5.out.set 1 (.slice (some ⟨g1, 0, none⟩) l.length e1)).as hoB.out)
          clear hOE rr
          go_wp2
          go_ret2
          exact ⟨by rw [rr1.out, rr2.out]; rfl, _, by rw [rr3.out]; exact hR6.out, hT6.out⟩
end Go.Proofs.Ytcgjhloiokpicaa
