/-
  Entries of the reference.
-/
import Derived.Test.YtcgjhloiokpicaaMw
namespace Go.Proofs.Ytcgjhloiokpicaa
open Go.RowKit Go.Shelf
set_option linter.unusedVariables false
set_option linter.unusedSimpArgs false
set_option maxRecDepth 100000 in
set_option maxHeartbeats 4000000 in
theorem rEntries_any (size : Int) (r : Nat) (v : Value) (l : List En) (w : World) (h : RA w r size v l) (hG : Good size l) : Calls Try.prog 17 #[.pointer (some ⟨r, 0, none⟩)] w fun e w' => ∃ v2, e = .returned v2 ∧ w'.ownsRow w.heap.size 90 3 v2 l.length (ecs l) ∧ Ext w w' := by
  obtain ⟨i0, hi0, hz0, hz1, hz2⟩ := info_parts info3i
  have gf := good_facts hG
  obtain ⟨hbk, hbe, hbb⟩ := beg_good hG
  have hB0 := hid (fun k w' (hx : Ext w w') (hk : k ≤ l.length) => begin_any size r v l k w' (h.ext hx) hk (fun k hk => by have := hbb k hk; omega))
  have hll := gf.1
  replace hbk := hid hbk
  have c1 := h.c1
  obtain ⟨A, c, rfl, hr⟩ := h.rd
  have hmx := Rd.max hr
  have lg := h.lt
  replace hr := hid hr
  clear hbb hbe gf hG
  go_enter Try.func17, Try.ntmps17
  go_wp2_with fail
  go_loopw [3, 4] (fun o i wr => ∃ k : Nat, k ≤ l.length ∧ i = .int .i64 k ∧ Hid (wr.ownsRow w.heap.size 90 3 o k (ecs (l.take k))) ∧ Hid (Ext w wr)) (fun _ i _ => l.length - (intOf i).toNat)
  case atStart => exact ⟨0, by omega, rfl, World.ownsRow_nil _ _ _ _, Ext.refl _⟩
  case round =>
    obtain ⟨k, hk, rfl, hown, hx⟩ := hrel
    obtain ⟨Ao, co, rfl, -⟩ := own_form hown.out
    have c11 := hx.out.cell c1
    have lg1 := World.block_lt_of_cell? wr _ c11
    dsimp only at lg1
    by_cases hlt : k < l.length
    · obtain ⟨ad, rfl, y0, y1, y2⟩ := hr.out.at_ hlt
      have x0 := hx.out.cell y0
      have x1 := hx.out.cell y1
      have x2 := hx.out.cell y2
      have la := World.block_lt_of_cell? wr _ x0
      have hkk : (k : Int) < (l.length : Int) := by omega
      have hB := hid (fun w' hx => hB0.out k w' hx hk)
      rw [hbk.out k hlt] at hB
      have hec := hid (ecs_succ hlt)
      unfold ecells at hec
      have hln : Hid (lenE (eth l k) = if (eth l k).kind = 0 then -1 else ((eth l k).s.size : Int)) := rfl
      have hown1 : Hid (∀ o, (wr.drew.alloc o).ownsRow w.heap.size 90 3 (.slice Ao k co) k (ecs (l.take k))) := fun o => (hown.out.alloc o : (wr.alloc o).ownsRow w.heap.size 90 3 (.slice Ao k co) k (ecs (l.take k)))
      generalize lenE (eth l k) = ln at *
      generalize (eth l k).block = zb at *
      generalize (eth l k).blocks = z at *
      generalize (eth l k).s = z3 at *
      by_cases q : (eth l k).kind = 0
      · have d : ((eth l k).kind == 0) = true := by rw [q]; rfl
        have hln2 : ln = -1 := by rw [hln.out, if_pos q]
        subst hln2
        clear hln q hB0 hbk
        generalize ((eth l k).kind == 0) = fr at *
        subst d
        go_upto_region 8 with fail
        have I0 : (fun w' : World => w'.cell? ⟨r, 1, none⟩ = some (.slice (some ad) l.length c) ∧ w'.cell? (ad.add (k * 3)) = some (.int .i64 z)) wr.drew := ⟨c11, x0⟩
        have I1 : ∀ o : Obj, (fun w' : World => w'.cell? ⟨r, 1, none⟩ = some (.slice (some ad) l.length c) ∧ w'.cell? (ad.add (k * 3)) = some (.int .i64 z)) (wr.drew.alloc o) := fun o => ⟨((Ext.refl wr).drew_right.alloc_right o).cell c11, ((Ext.refl wr).drew_right.alloc_right o).cell x0⟩
        refine region_J (fun w' : World => w'.cell? ⟨r, 1, none⟩ = some (.slice (some ad) l.length c) ∧ w'.cell? (ad.add (k * 3)) = some (.int .i64 z)) 17 (by kernel_rfl) ?_
        refine J_takeO 0 (v := ?va0) rfl (by kernel_rfl) (by kernel_rfl) (by kernel_rfl) (by kernel_rfl) (fun _ _ _ h => h) (Or.inl ⟨by rfl, ?ya0⟩) I0 ?ra0
        case ya0 => (intro w hSw; obtain ⟨_, _⟩ := hSw; (go_simp; with_reducible rfl))
        simp only [Act.put, List.getElem_toArray, List.getElem_cons_zero, List.getElem_cons_succ, List.setIfInBounds_toArray, List.set_cons_zero, List.set_cons_succ]
        refine J_takeO 1 (v := ?va1) rfl (by kernel_rfl) (by kernel_rfl) (by kernel_rfl) (by kernel_rfl) (fun _ _ _ h => h) (Or.inl ⟨by rfl, ?ya1⟩) I0 ?ra1
        case ya1 => (intro w hSw; obtain ⟨_, _⟩ := hSw; (go_simp; with_reducible rfl))
        simp only [Act.put, List.getElem_toArray, List.getElem_cons_zero, List.getElem_cons_succ, List.setIfInBounds_toArray, List.set_cons_zero, List.set_cons_succ]
        refine J_takeO 2 (v := ?va2) rfl (by kernel_rfl) (by kernel_rfl) (by kernel_rfl) (by kernel_rfl) (fun _ _ _ h => h) (Or.inl ⟨by rfl, ?ya2⟩) I0 ?ra2
        case ya2 => (intro w hSw; obtain ⟨_, _⟩ := hSw; (go_simp; with_reducible rfl))
        simp only [Act.put, List.getElem_toArray, List.getElem_cons_zero, List.getElem_cons_succ, List.setIfInBounds_toArray, List.set_cons_zero, List.set_cons_succ]
        refine J_takeO 4 (v := ?va4) rfl (by kernel_rfl) (by kernel_rfl) (by kernel_rfl) (by kernel_rfl) (fun _ _ _ h => h) (Or.inl ⟨by rfl, ?ya4⟩) I0 ?ra4
        case ya4 => (intro w hSw; obtain ⟨_, _⟩ := hSw; (go_simp; with_reducible rfl))
        simp only [Act.put, List.getElem_toArray, List.getElem_cons_zero, List.getElem_cons_succ, List.setIfInBounds_toArray, List.set_cons_zero, List.set_cons_succ]
        refine J_takeO 5 (v := ?va5) rfl (by kernel_rfl) (by kernel_rfl) (by kernel_rfl) (by kernel_rfl) (fun _ _ _ h => h) (Or.inl ⟨by rfl, ?ya5⟩) I0 ?ra5
        case ya5 => (intro w hSw; obtain ⟨_, _⟩ := hSw; (go_simp; with_reducible rfl))
        simp only [Act.put, List.getElem_toArray, List.getElem_cons_zero, List.getElem_cons_succ, List.setIfInBounds_toArray, List.set_cons_zero, List.set_cons_succ]
        refine J_takeO 6 (v := ?va6) rfl (by kernel_rfl) (by kernel_rfl) (by kernel_rfl) (by kernel_rfl) (fun _ _ _ h => h) (Or.inl ⟨by rfl, ?ya6⟩) I0 ?ra6
        case ya6 => (intro w hSw; obtain ⟨_, _⟩ := hSw; (go_simp; with_reducible rfl))
        simp only [Act.put, List.getElem_toArray, List.getElem_cons_zero, List.getElem_cons_succ, List.setIfInBounds_toArray, List.set_cons_zero, List.set_cons_succ]
        refine J_takeO 7 (v := ?va7) rfl (by kernel_rfl) (by kernel_rfl) (by kernel_rfl) (by kernel_rfl) (fun _ _ _ h => h) (Or.inl ⟨by rfl, ?ya7⟩) I0 ?ra7
        case ya7 => (intro w hSw; obtain ⟨_, _⟩ := hSw; (go_simp; with_reducible rfl))
        simp only [Act.put, List.getElem_toArray, List.getElem_cons_zero, List.getElem_cons_succ, List.setIfInBounds_toArray, List.set_cons_zero, List.set_cons_succ]
        refine J_takeO 8 (v := ?va8) rfl (by kernel_rfl) (by kernel_rfl) (by kernel_rfl) (by kernel_rfl) (fun _ _ _ h => h) (Or.inl ⟨by rfl, ?ya8⟩) I0 ?ra8
        case ya8 => (intro w hSw; obtain ⟨_, _⟩ := hSw; (go_simp; with_reducible rfl))
        simp only [Act.put, List.getElem_toArray, List.getElem_cons_zero, List.getElem_cons_succ, List.setIfInBounds_toArray, List.set_cons_zero, List.set_cons_succ]
        refine J_takeO 9 (v := ?va9) rfl (by kernel_rfl) (by kernel_rfl) (by kernel_rfl) (by kernel_rfl) (fun _ _ _ h => h) (Or.inl ⟨by rfl, ?ya9⟩) I0 ?ra9
        case ya9 => (intro w hSw; obtain ⟨_, _⟩ := hSw; (go_simp; with_reducible rfl))
        simp only [Act.put, List.getElem_toArray, List.getElem_cons_zero, List.getElem_cons_succ, List.setIfInBounds_toArray, List.set_cons_zero, List.set_cons_succ]
        refine J_takeO 10 (v := ?va10) rfl (by kernel_rfl) (by kernel_rfl) (by kernel_rfl) (by kernel_rfl) (fun _ _ _ h => h) (Or.inl ⟨by rfl, ?ya10⟩) I0 ?ra10
        case ya10 => (intro w hSw; obtain ⟨_, _⟩ := hSw; (go_simp; with_reducible rfl))
        simp only [Act.put, List.getElem_toArray, List.getElem_cons_zero, List.getElem_cons_succ, List.setIfInBounds_toArray, List.set_cons_zero, List.set_cons_succ]
        refine J_takeO 11 (v := ?va11) rfl (by kernel_rfl) (by kernel_rfl) (by kernel_rfl) (by kernel_rfl) (fun _ _ _ h => h) (Or.inl ⟨by rfl, ?ya11⟩) I0 ?ra11
        case ya11 => (intro w hSw; obtain ⟨_, _⟩ := hSw; (go_simp; with_reducible rfl))
        simp only [Act.put, List.getElem_toArray, List.getElem_cons_zero, List.getElem_cons_succ, List.setIfInBounds_toArray, List.set_cons_zero, List.set_cons_succ]
        refine J_takeO 12 (v := ?va12) rfl (by kernel_rfl) (by kernel_rfl) (by kernel_rfl) (by kernel_rfl) (fun _ _ _ h => h) (Or.inl ⟨by rfl, ?ya12⟩) I0 ?ra12
        case ya12 => (intro w hSw; obtain ⟨_, _⟩ := hSw; (go_simp; with_reducible rfl))
        simp only [Act.put, List.getElem_toArray, List.getElem_cons_zero, List.getElem_cons_succ, List.setIfInBounds_toArray, List.set_cons_zero, List.set_cons_succ]
        refine J_one 3 rfl (by kernel_rfl) (fun K hK => ?_)
        go_simp
        refine (hB.out _ (hx.out.drew_right)).mono ?_
        rintro e w' ⟨rfl, rfl⟩
        refine hK _ _ ⟨fun _ => I0, ?_⟩
        clear hK K
        try simp only [Act.put, List.getElem_toArray, List.getElem_cons_zero, List.getElem_cons_succ, List.setIfInBounds_toArray, List.set_cons_zero, List.set_cons_succ]
        refine J_one 13 rfl (by kernel_rfl) (fun K hK => ?_)
        go_simp
        refine hK _ _ ⟨fun _ => I0, ?_⟩
        clear hK K
        try simp only [Act.put, List.setIfInBounds_toArray, List.set_cons_zero, List.set_cons_succ]
        refine J_one 14 rfl (by kernel_rfl) (fun K hK => ?_)
        go_simp
        refine hK _ _ ⟨fun _ => I1 _, ?_⟩
        clear hK K
        try simp only [Act.put, List.setIfInBounds_toArray, List.set_cons_zero, List.set_cons_succ]
        refine J_one 15 rfl (by kernel_rfl) (fun K hK => ?_)
        refine step_append_lies _ rfl _ _ 36 rfl w.heap.size 90 i0 _ 3 24 Try.underlying36 hi0 hz0 hz1 hz2 rfl (by decide) (.slice Ao k co) k (ecs (l.take k)) (by simp [Act.eval, Act.put]) (hown1.out _) ⟨wr.heap.size, 0, none⟩ 1 1 [.int .i64 zb, .int .i64 z, .int .i64 (-1)] (by simp [Act.eval, Act.put]) rfl (World.news_of_block (heap_alloc_new wr.drew _)) (by simp [Value.oneCell']) (by decide) (by unfold maxLen; omega) (by omega) (by have := hx.out.size; simp; omega) (wr.heap.size + 1) (by simp) ?_
        intro ga ca w3 ho3 hgr3 _ _
        have hx3 : Hid (Ext w w3) := ext_push ((hx.out.drew_right).alloc_right _) (hown1.out _) hgr3
        have I3 : (fun w' : World => w'.cell? ⟨r, 1, none⟩ = some (.slice (some ad) l.length c) ∧ w'.cell? (ad.add (k * 3)) = some (.int .i64 z)) w3 := ⟨hx3.out.cell c1, hx3.out.cell y0⟩
        rw [← hec.out] at ho3
        replace ho3 := hid ho3
        refine hK _ _ ⟨fun _ => I3, ?_⟩
        clear hK K hgr3
        simp only [Act.put, List.getElem_toArray, List.getElem_cons_zero, List.getElem_cons_succ, List.setIfInBounds_toArray, List.set_cons_zero, List.set_cons_succ]
        refine J_one 16 rfl (by kernel_rfl) (fun K hK => ?_)
        go_simp
        refine hK _ _ ⟨fun _ => I3, ?_⟩
        clear hK K
        try simp only [Act.put, List.setIfInBounds_toArray, List.set_cons_zero, List.set_cons_succ]
        refine J_done (by kernel_rfl) (OnlyOn.normal ?_)
        go_wp2_with fail
        go_roundw
        case rel => exact ⟨k + 1, by omega, by go_num, ho3, hx3⟩
        case measure => simp [intOf]; omega
      · have d : ((eth l k).kind == 0) = false := by rw [beq_eq_false_iff_ne]; exact q
        have hln2 : ln = (z3.size : Int) := by rw [hln.out, if_neg q]
        subst hln2
        clear hln q hB0 hbk
        generalize ((eth l k).kind == 0) = fr at *
        subst d
        go_upto_region 8 with fail
        have I0 : (fun w' : World => w'.cell? ⟨r, 1, none⟩ = some (.slice (some ad) l.length c) ∧ w'.cell? (ad.add (k * 3)) = some (.int .i64 z)) wr.drew := ⟨c11, x0⟩
        have I1 : ∀ o : Obj, (fun w' : World => w'.cell? ⟨r, 1, none⟩ = some (.slice (some ad) l.length c) ∧ w'.cell? (ad.add (k * 3)) = some (.int .i64 z)) (wr.drew.alloc o) := fun o => ⟨((Ext.refl wr).drew_right.alloc_right o).cell c11, ((Ext.refl wr).drew_right.alloc_right o).cell x0⟩
        refine region_J (fun w' : World => w'.cell? ⟨r, 1, none⟩ = some (.slice (some ad) l.length c) ∧ w'.cell? (ad.add (k * 3)) = some (.int .i64 z)) 17 (by kernel_rfl) ?_
        refine J_takeO 0 (v := ?vb0) rfl (by kernel_rfl) (by kernel_rfl) (by kernel_rfl) (by kernel_rfl) (fun _ _ _ h => h) (Or.inl ⟨by rfl, ?yb0⟩) I0 ?rb0
        case yb0 => (intro w hSw; obtain ⟨_, _⟩ := hSw; (go_simp; with_reducible rfl))
        simp only [Act.put, List.getElem_toArray, List.getElem_cons_zero, List.getElem_cons_succ, List.setIfInBounds_toArray, List.set_cons_zero, List.set_cons_succ]
        refine J_takeO 1 (v := ?vb1) rfl (by kernel_rfl) (by kernel_rfl) (by kernel_rfl) (by kernel_rfl) (fun _ _ _ h => h) (Or.inl ⟨by rfl, ?yb1⟩) I0 ?rb1
        case yb1 => (intro w hSw; obtain ⟨_, _⟩ := hSw; (go_simp; with_reducible rfl))
        simp only [Act.put, List.getElem_toArray, List.getElem_cons_zero, List.getElem_cons_succ, List.setIfInBounds_toArray, List.set_cons_zero, List.set_cons_succ]
        refine J_takeO 2 (v := ?vb2) rfl (by kernel_rfl) (by kernel_rfl) (by kernel_rfl) (by kernel_rfl) (fun _ _ _ h => h) (Or.inl ⟨by rfl, ?yb2⟩) I0 ?rb2
        case yb2 => (intro w hSw; obtain ⟨_, _⟩ := hSw; (go_simp; with_reducible rfl))
        simp only [Act.put, List.getElem_toArray, List.getElem_cons_zero, List.getElem_cons_succ, List.setIfInBounds_toArray, List.set_cons_zero, List.set_cons_succ]
        refine J_takeO 4 (v := ?vb4) rfl (by kernel_rfl) (by kernel_rfl) (by kernel_rfl) (by kernel_rfl) (fun _ _ _ h => h) (Or.inl ⟨by rfl, ?yb4⟩) I0 ?rb4
        case yb4 => (intro w hSw; obtain ⟨_, _⟩ := hSw; (go_simp; with_reducible rfl))
        simp only [Act.put, List.getElem_toArray, List.getElem_cons_zero, List.getElem_cons_succ, List.setIfInBounds_toArray, List.set_cons_zero, List.set_cons_succ]
        refine J_takeO 5 (v := ?vb5) rfl (by kernel_rfl) (by kernel_rfl) (by kernel_rfl) (by kernel_rfl) (fun _ _ _ h => h) (Or.inl ⟨by rfl, ?yb5⟩) I0 ?rb5
        case yb5 => (intro w hSw; obtain ⟨_, _⟩ := hSw; (go_simp; with_reducible rfl))
        simp only [Act.put, List.getElem_toArray, List.getElem_cons_zero, List.getElem_cons_succ, List.setIfInBounds_toArray, List.set_cons_zero, List.set_cons_succ]
        refine J_takeO 6 (v := ?vb6) rfl (by kernel_rfl) (by kernel_rfl) (by kernel_rfl) (by kernel_rfl) (fun _ _ _ h => h) (Or.inl ⟨by rfl, ?yb6⟩) I0 ?rb6
        case yb6 => (intro w hSw; obtain ⟨_, _⟩ := hSw; (go_simp; with_reducible rfl))
        simp only [Act.put, List.getElem_toArray, List.getElem_cons_zero, List.getElem_cons_succ, List.setIfInBounds_toArray, List.set_cons_zero, List.set_cons_succ]
        refine J_takeO 7 (v := ?vb7) rfl (by kernel_rfl) (by kernel_rfl) (by kernel_rfl) (by kernel_rfl) (fun _ _ _ h => h) (Or.inl ⟨by rfl, ?yb7⟩) I0 ?rb7
        case yb7 => (intro w hSw; obtain ⟨_, _⟩ := hSw; (go_simp; with_reducible rfl))
        simp only [Act.put, List.getElem_toArray, List.getElem_cons_zero, List.getElem_cons_succ, List.setIfInBounds_toArray, List.set_cons_zero, List.set_cons_succ]
        refine J_takeO 8 (v := ?vb8) rfl (by kernel_rfl) (by kernel_rfl) (by kernel_rfl) (by kernel_rfl) (fun _ _ _ h => h) (Or.inl ⟨by rfl, ?yb8⟩) I0 ?rb8
        case yb8 => (intro w hSw; obtain ⟨_, _⟩ := hSw; (go_simp; with_reducible rfl))
        simp only [Act.put, List.getElem_toArray, List.getElem_cons_zero, List.getElem_cons_succ, List.setIfInBounds_toArray, List.set_cons_zero, List.set_cons_succ]
        refine J_takeO 9 (v := ?vb9) rfl (by kernel_rfl) (by kernel_rfl) (by kernel_rfl) (by kernel_rfl) (fun _ _ _ h => h) (Or.inl ⟨by rfl, ?yb9⟩) I0 ?rb9
        case yb9 => (intro w hSw; obtain ⟨_, _⟩ := hSw; (go_simp; with_reducible rfl))
        simp only [Act.put, List.getElem_toArray, List.getElem_cons_zero, List.getElem_cons_succ, List.setIfInBounds_toArray, List.set_cons_zero, List.set_cons_succ]
        refine J_takeO 10 (v := ?vb10) rfl (by kernel_rfl) (by kernel_rfl) (by kernel_rfl) (by kernel_rfl) (fun _ _ _ h => h) (Or.inl ⟨by rfl, ?yb10⟩) I0 ?rb10
        case yb10 => (intro w hSw; obtain ⟨_, _⟩ := hSw; (go_simp; with_reducible rfl))
        simp only [Act.put, List.getElem_toArray, List.getElem_cons_zero, List.getElem_cons_succ, List.setIfInBounds_toArray, List.set_cons_zero, List.set_cons_succ]
        refine J_takeO 11 (v := ?vb11) rfl (by kernel_rfl) (by kernel_rfl) (by kernel_rfl) (by kernel_rfl) (fun _ _ _ h => h) (Or.inl ⟨by rfl, ?yb11⟩) I0 ?rb11
        case yb11 => (intro w hSw; obtain ⟨_, _⟩ := hSw; (go_simp; with_reducible rfl))
        simp only [Act.put, List.getElem_toArray, List.getElem_cons_zero, List.getElem_cons_succ, List.setIfInBounds_toArray, List.set_cons_zero, List.set_cons_succ]
        refine J_takeO 12 (v := ?vb12) rfl (by kernel_rfl) (by kernel_rfl) (by kernel_rfl) (by kernel_rfl) (fun _ _ _ h => h) (Or.inl ⟨by rfl, ?yb12⟩) I0 ?rb12
        case yb12 => (intro w hSw; obtain ⟨_, _⟩ := hSw; (go_simp; with_reducible rfl))
        simp only [Act.put, List.getElem_toArray, List.getElem_cons_zero, List.getElem_cons_succ, List.setIfInBounds_toArray, List.set_cons_zero, List.set_cons_succ]
        refine J_one 3 rfl (by kernel_rfl) (fun K hK => ?_)
        go_simp
        refine (hB.out _ (hx.out.drew_right)).mono ?_
        rintro e w' ⟨rfl, rfl⟩
        refine hK _ _ ⟨fun _ => I0, ?_⟩
        clear hK K
        try simp only [Act.put, List.getElem_toArray, List.getElem_cons_zero, List.getElem_cons_succ, List.setIfInBounds_toArray, List.set_cons_zero, List.set_cons_succ]
        refine J_one 13 rfl (by kernel_rfl) (fun K hK => ?_)
        go_simp
        refine hK _ _ ⟨fun _ => I0, ?_⟩
        clear hK K
        try simp only [Act.put, List.setIfInBounds_toArray, List.set_cons_zero, List.set_cons_succ]
        refine J_one 14 rfl (by kernel_rfl) (fun K hK => ?_)
        go_simp
        refine hK _ _ ⟨fun _ => I1 _, ?_⟩
        clear hK K
        try simp only [Act.put, List.setIfInBounds_toArray, List.set_cons_zero, List.set_cons_succ]
        refine J_one 15 rfl (by kernel_rfl) (fun K hK => ?_)
        refine step_append_lies _ rfl _ _ 36 rfl w.heap.size 90 i0 _ 3 24 Try.underlying36 hi0 hz0 hz1 hz2 rfl (by decide) (.slice Ao k co) k (ecs (l.take k)) (by simp [Act.eval, Act.put]) (hown1.out _) ⟨wr.heap.size, 0, none⟩ 1 1 [.int .i64 zb, .int .i64 z, .int .i64 (z3.size : Int)] (by simp [Act.eval, Act.put]) rfl (World.news_of_block (heap_alloc_new wr.drew _)) (by simp [Value.oneCell']) (by decide) (by unfold maxLen; omega) (by omega) (by have := hx.out.size; simp; omega) (wr.heap.size + 1) (by simp) ?_
        intro ga ca w3 ho3 hgr3 _ _
        have hx3 : Hid (Ext w w3) := ext_push ((hx.out.drew_right).alloc_right _) (hown1.out _) hgr3
        have I3 : (fun w' : World => w'.cell? ⟨r, 1, none⟩ = some (.slice (some ad) l.length c) ∧ w'.cell? (ad.add (k * 3)) = some (.int .i64 z)) w3 := ⟨hx3.out.cell c1, hx3.out.cell y0⟩
        rw [← hec.out] at ho3
        replace ho3 := hid ho3
        refine hK _ _ ⟨fun _ => I3, ?_⟩
        clear hK K hgr3
        simp only [Act.put, List.getElem_toArray, List.getElem_cons_zero, List.getElem_cons_succ, List.setIfInBounds_toArray, List.set_cons_zero, List.set_cons_succ]
        refine J_one 16 rfl (by kernel_rfl) (fun K hK => ?_)
        go_simp
        refine hK _ _ ⟨fun _ => I3, ?_⟩
        clear hK K
        try simp only [Act.put, List.setIfInBounds_toArray, List.set_cons_zero, List.set_cons_succ]
        refine J_done (by kernel_rfl) (OnlyOn.normal ?_)
        go_wp2_with fail
        go_roundw
        case rel => exact ⟨k + 1, by omega, by go_num, ho3, hx3⟩
        case measure => simp [intOf]; omega
    · obtain rfl : k = l.length := by omega
      have hkn : ¬ (l.length : Int) < (l.length : Int) := by omega
      rw [List.take_length] at hown
      go_wp2
      go_ret
      exact ⟨_, rfl, hown.out, hx.out⟩
end Go.Proofs.Ytcgjhloiokpicaa
