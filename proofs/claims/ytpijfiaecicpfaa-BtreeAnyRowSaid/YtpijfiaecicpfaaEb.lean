/-
  fromLeft: a kid gets the last entry of the one before it.
-/
import Derived.Test.YtpijfiaecicpfaaEa
namespace Go.Proofs.Ytpijfiaecicpfaa
open Go.RowKit Go.Shelf
set_option linter.unusedVariables false
set_option linter.unusedSimpArgs false
set_option maxRecDepth 100000 in
set_option maxHeartbeats 4000000 in
theorem left_any (f : Nat → Nat) (p q r i j m : Nat) (l lq lr : List Te) (ps pq pr : List Nat) (lv kv vq KQ vr KR : Value) (w : World)
    (H : Tri f w w p q r lv kv vq KQ vr KR l.length ps.length (m + 1) pq.length lr.length pr.length (tents l) (ptrs ps) (tents lq) (ptrs pq) (tents lr) (ptrs pr))
    (hq : ps[j]? = some q) (hr : ps[i]? = some r) (hi : Hid (i = j + 1)) (hj : j < l.length) (hm : Hid (lq.length = m + 1)) (hpq : pq.length = 0 ∨ pq.length = m + 2) (b1 : l.length ≤ 10) (b2 : ps.length ≤ 10) (b3 : m ≤ 10) (b4 : lr.length ≤ 10) (b5 : pr.length ≤ 10)
    (l' lq' lr' : List Te) (pq' pr' : List Nat) (el : Hid (l' = l.set j (tth lq m))) (eq : Hid (lq' = lq.take m)) (er : Hid (lr' = tth l j :: lr)) (epq : Hid (pq' = pq.take (m + 1))) (epr : Hid (pr' = pq.drop (m + 1) ++ pr)) :
    Calls Try.prog 119 #[.pointer (some ⟨p, 0, none⟩), .int .i64 i] w fun e w' => e = .returned (.tuple #[]) ∧ ∃ lv' kv' vq' kq' vr' kr' : Value,
      Tri f w w' p q r lv' kv' vq' kq' vr' kr' l'.length ps.length lq'.length pq'.length lr'.length pr'.length (tents l') (ptrs ps) (tents lq') (ptrs pq') (tents lr') (ptrs pr') := by
  obtain ⟨A1, cl, rfl, hr1⟩ := own_rd H.o1
  obtain ⟨ad, rfl, z0, z1⟩ := RdN.at_ hr1 hj
  obtain ⟨A2, kc, rfl, hr2⟩ := own_rd H.o2
  obtain ⟨kad, rfl, -⟩ := hr2.2.2.2 (by have := (List.getElem?_eq_some_iff.1 hq).1; omega)
  obtain ⟨A3, cq, rfl, hr3⟩ := own_rd H.o3
  obtain ⟨aq, rfl, -⟩ := hr3.2.2.2 (by omega)
  obtain ⟨Ar, cr, rfl, hr5⟩ := own_rd H.o5
  obtain ⟨Kq, ckq, rfl, hr4⟩ := own_rd H.o4
  obtain ⟨Kr, ckr, rfl, hr6⟩ := own_rd H.o6
  have y0 := rd_ptr hr2 hq
  have y1 := rd_ptr hr2 hr
  have x1 := node_c1 H.hp
  have mx1 := Rd.max hr1
  have mx2 := Rd.max hr2
  have mx3 := Rd.max hr3
  have mx5 := Rd.max hr5
  have mx4 := Rd.max hr4
  have mx6 := Rd.max hr6
  have hkq : Hid (0 < pq.length → ∃ akq, Kq = some akq) := fun h => by obtain ⟨a, e, -⟩ := hr4.2.2.2 h; exact ⟨a, e⟩
  have hjp := (List.getElem?_eq_some_iff.1 hq).1
  have hip := (List.getElem?_eq_some_iff.1 hr).1
  have hw1 : IntKind.i64.wrap ((i : Int) - 1) = (j : Int) := by have := hi.out; rw [IntWalk.i64_in _ (by omega)]; omega
  have hw2 : ((i : Int) - 1) = (j : Int) := by have := hi.out; omega
  have hw5 : IntKind.i64.wrap (j : Int) = (j : Int) := IntWalk.i64_in _ (by omega)
  have hw6 : (m : Int) < (m : Int) + 1 := by omega
  have hmq := hid (show m < lq.length by have := hm.out; omega)
  have tri : Hid (Tri f w w p q r (.slice (some ad) l.length cl) (.slice (some kad) ps.length kc) (.slice (some aq) (m + 1) cq) (.slice Kq pq.length ckq) (.slice Ar lr.length cr) (.slice Kr pr.length ckr) l.length ps.length (m + 1) pq.length lr.length pr.length (tents l) (ptrs ps) (tents lq) (ptrs pq) (tents lr) (ptrs pr)) := H
  have hE1 : Hid (∀ W : World, W.ownsRow 0 71 2 (.slice (some ad) l.length cl) l.length (tents l) → W.cell? (ad.add (j * 2)) = some (.string (tth l j).key) ∧ W.cell? ⟨(ad.add (j * 2)).block, (ad.add (j * 2)).off + 1, none⟩ = some (.int .i64 (tth l j).no)) := fun W h => own_entryA h hj
  have hE3 : Hid (∀ W : World, W.ownsRow 0 71 2 (.slice (some aq) (m + 1) cq) (m + 1) (tents lq) → W.cell? (aq.add (m * 2)) = some (.string (tth lq m).key) ∧ W.cell? ⟨(aq.add (m * 2)).block, (aq.add (m * 2)).off + 1, none⟩ = some (.int .i64 (tth lq m).no)) := fun W h => own_entryA h hmq.out
  have lp := (Array.getElem?_eq_some_iff.1 H.hp).1
  clear hr1 hr2 hr3 hr4 hr5 hr6 z0 z1 H
  replace hq := hid hq
  replace hr := hid hr
  go_enter Try.func119, Try.ntmps119
  go_upto_region 0 with fail
  go_quiet (fail)
  clear y0 y1 x1 lp
  rename_i nq
  replace tri := hid (tri.out.ext (Ext.drewN w nq))
  generalize w.drewN nq = W0 at *
  have x3 := node_c0 tri.out.hq
  have lq0 := (Array.getElem?_eq_some_iff.1 tri.out.hq).1
  have hw3 : (((m + 1 : Nat) : Int) - 1) = (m : Int) := by omega
  have hw4 : IntKind.i64.wrap (((m + 1 : Nat) : Int) - 1) = (m : Int) := by rw [IntWalk.i64_in _ (by omega)]; omega
  go_upto_region 2 with fail
  clear x3 lq0
  have tri1 := hid (tri.out.ext (Ext.refl W0).drew_right)
  have I0 : (fun w' : World => w'.cell? ⟨r, 0, none⟩ = some (.slice Ar lr.length cr) ∧ w'.cell? ⟨p, 0, none⟩ = some (.slice (some ad) l.length cl) ∧ w'.cell? (ad.add (j * 2)) = some (.string (tth l j).key) ∧ w'.cell? ⟨(ad.add (j * 2)).block, (ad.add (j * 2)).off + 1, none⟩ = some (.int .i64 (tth l j).no)) W0.drew := ⟨node_c0 tri1.out.hr, node_c0 tri1.out.hp, (hE1.out _ tri1.out.o1).1, (hE1.out _ tri1.out.o1).2⟩
  refine region_J (fun w' : World => w'.cell? ⟨r, 0, none⟩ = some (.slice Ar lr.length cr) ∧ w'.cell? ⟨p, 0, none⟩ = some (.slice (some ad) l.length cl) ∧ w'.cell? (ad.add (j * 2)) = some (.string (tth l j).key) ∧ w'.cell? ⟨(ad.add (j * 2)).block, (ad.add (j * 2)).off + 1, none⟩ = some (.int .i64 (tth l j).no)) 17 (by kernel_rfl) ?_
  clear tri
  generalize W0.drew = W at *
  refine J_take 0 (v := ?va0) rfl (by kernel_rfl) (by kernel_rfl) (by kernel_rfl) (by kernel_rfl) (fun _ _ _ h => h) (Or.inl ⟨by rfl, ?ya0⟩) I0 ?ra0
  case ya0 => (intro w hSw; obtain ⟨_, _, _, _⟩ := hSw; (go_simp; with_reducible rfl))
  simp only [Act.put, List.getElem_toArray, List.getElem_cons_zero, List.getElem_cons_succ, List.setIfInBounds_toArray, List.set_cons_zero, List.set_cons_succ]
  refine J_take 1 (v := ?va1) rfl (by kernel_rfl) (by kernel_rfl) (by kernel_rfl) (by kernel_rfl) (fun _ _ _ h => h) (Or.inl ⟨by rfl, ?ya1⟩) I0 ?ra1
  case ya1 => (intro w hSw; obtain ⟨_, _, _, _⟩ := hSw; (go_simp; with_reducible rfl))
  simp only [Act.put, List.getElem_toArray, List.getElem_cons_zero, List.getElem_cons_succ, List.setIfInBounds_toArray, List.set_cons_zero, List.set_cons_succ]
  refine J_take 2 (v := ?va2) rfl (by kernel_rfl) (by kernel_rfl) (by kernel_rfl) (by kernel_rfl) (fun _ _ _ h => h) (Or.inl ⟨by rfl, ?ya2⟩) I0 ?ra2
  case ya2 => (intro w hSw; obtain ⟨_, _, _, _⟩ := hSw; (go_simp; with_reducible rfl))
  simp only [Act.put, List.getElem_toArray, List.getElem_cons_zero, List.getElem_cons_succ, List.setIfInBounds_toArray, List.set_cons_zero, List.set_cons_succ]
  refine J_take 3 (v := ?va3) rfl (by kernel_rfl) (by kernel_rfl) (by kernel_rfl) (by kernel_rfl) (fun _ _ _ h => h) (Or.inl ⟨by rfl, ?ya3⟩) I0 ?ra3
  case ya3 => (intro w hSw; obtain ⟨_, _, _, _⟩ := hSw; (go_simp; with_reducible rfl))
  simp only [Act.put, List.getElem_toArray, List.getElem_cons_zero, List.getElem_cons_succ, List.setIfInBounds_toArray, List.set_cons_zero, List.set_cons_succ]
  refine J_take 4 (v := ?va4) rfl (by kernel_rfl) (by kernel_rfl) (by kernel_rfl) (by kernel_rfl) (fun _ _ _ h => h) (Or.inl ⟨by rfl, ?ya4⟩) I0 ?ra4
  case ya4 => (intro w hSw; obtain ⟨_, _, _, _⟩ := hSw; (go_simp; with_reducible rfl))
  simp only [Act.put, List.getElem_toArray, List.getElem_cons_zero, List.getElem_cons_succ, List.setIfInBounds_toArray, List.set_cons_zero, List.set_cons_succ]
  refine J_take 5 (v := ?va5) rfl (by kernel_rfl) (by kernel_rfl) (by kernel_rfl) (by kernel_rfl) (fun _ _ _ h => h) (Or.inl ⟨by rfl, ?ya5⟩) I0 ?ra5
  case ya5 => (intro w hSw; obtain ⟨_, _, _, _⟩ := hSw; (go_simp; with_reducible rfl))
  simp only [Act.put, List.getElem_toArray, List.getElem_cons_zero, List.getElem_cons_succ, List.setIfInBounds_toArray, List.set_cons_zero, List.set_cons_succ]
  refine J_take 6 (v := ?va6) rfl (by kernel_rfl) (by kernel_rfl) (by kernel_rfl) (by kernel_rfl) (fun _ _ _ h => h) (Or.inl ⟨by rfl, ?ya6⟩) I0 ?ra6
  case ya6 => (intro w hSw; obtain ⟨_, _, _, _⟩ := hSw; (go_simp; with_reducible rfl))
  simp only [Act.put, List.getElem_toArray, List.getElem_cons_zero, List.getElem_cons_succ, List.setIfInBounds_toArray, List.set_cons_zero, List.set_cons_succ]
  refine J_take 7 (v := ?va7) rfl (by kernel_rfl) (by kernel_rfl) (by kernel_rfl) (by kernel_rfl) (fun _ _ _ h => h) (Or.inl ⟨by rfl, ?ya7⟩) I0 ?ra7
  case ya7 => (intro w hSw; obtain ⟨_, _, _, _⟩ := hSw; (go_simp; with_reducible rfl))
  simp only [Act.put, List.getElem_toArray, List.getElem_cons_zero, List.getElem_cons_succ, List.setIfInBounds_toArray, List.set_cons_zero, List.set_cons_succ]
  refine J_take 8 (v := ?va8) rfl (by kernel_rfl) (by kernel_rfl) (by kernel_rfl) (by kernel_rfl) (fun _ _ _ h => h) (Or.inl ⟨by rfl, ?ya8⟩) I0 ?ra8
  case ya8 => (intro w hSw; obtain ⟨_, _, _, _⟩ := hSw; (go_simp; with_reducible rfl))
  simp only [Act.put, List.getElem_toArray, List.getElem_cons_zero, List.getElem_cons_succ, List.setIfInBounds_toArray, List.set_cons_zero, List.set_cons_succ]
  refine J_take 9 (v := ?va9) rfl (by kernel_rfl) (by kernel_rfl) (by kernel_rfl) (by kernel_rfl) (fun _ _ _ h => h) (Or.inl ⟨by rfl, ?ya9⟩) I0 ?ra9
  case ya9 => (intro w hSw; obtain ⟨_, _, _, _⟩ := hSw; (go_simp; with_reducible rfl))
  simp only [Act.put, List.getElem_toArray, List.getElem_cons_zero, List.getElem_cons_succ, List.setIfInBounds_toArray, List.set_cons_zero, List.set_cons_succ]
  refine J_take 10 (v := ?va10) rfl (by kernel_rfl) (by kernel_rfl) (by kernel_rfl) (by kernel_rfl) (fun _ _ _ h => h) (Or.inl ⟨by rfl, ?ya10⟩) I0 ?ra10
  case ya10 => (intro w hSw; obtain ⟨_, _, _, _⟩ := hSw; (go_simp; with_reducible rfl))
  simp only [Act.put, List.getElem_toArray, List.getElem_cons_zero, List.getElem_cons_succ, List.setIfInBounds_toArray, List.set_cons_zero, List.set_cons_succ]
  refine J_take 11 (v := ?va11) rfl (by kernel_rfl) (by kernel_rfl) (by kernel_rfl) (by kernel_rfl) (fun _ _ _ h => h) (Or.inl ⟨by rfl, ?ya11⟩) I0 ?ra11
  case ya11 => (intro w hSw; obtain ⟨_, _, _, _⟩ := hSw; (go_simp; with_reducible rfl))
  simp only [Act.put, List.getElem_toArray, List.getElem_cons_zero, List.getElem_cons_succ, List.setIfInBounds_toArray, List.set_cons_zero, List.set_cons_succ]
  refine J_take 12 (v := ?va12) rfl (by kernel_rfl) (by kernel_rfl) (by kernel_rfl) (by kernel_rfl) (fun _ _ _ h => h) (Or.inl ⟨by rfl, ?ya12⟩) I0 ?ra12
  case ya12 => (intro w hSw; obtain ⟨_, _, _, _⟩ := hSw; (go_simp; with_reducible rfl))
  simp only [Act.put, List.getElem_toArray, List.getElem_cons_zero, List.getElem_cons_succ, List.setIfInBounds_toArray, List.set_cons_zero, List.set_cons_succ]
  refine J_one 13 rfl (by kernel_rfl) (fun K hK => ?_)
  go_simp
  have tri2 := hid (tri1.out.ext ((Ext.refl W).alloc_right (.cells #[.string (tth l j).key, .int .i64 (tth l j).no] 71)))
  have hva := hid (heap_alloc_new W (.cells #[.string (tth l j).key, .int .i64 (tth l j).no] 71))
  have hne : Hid ((Value.slice Ar lr.length cr).ownBlock ≠ some W.heap.size) := fun e => by have := (tri1.out.o5.lt _ e).2; omega
  have I1 : (fun w' : World => w'.cell? ⟨r, 0, none⟩ = some (.slice Ar lr.length cr) ∧ w'.cell? ⟨p, 0, none⟩ = some (.slice (some ad) l.length cl) ∧ w'.cell? (ad.add (j * 2)) = some (.string (tth l j).key) ∧ w'.cell? ⟨(ad.add (j * 2)).block, (ad.add (j * 2)).off + 1, none⟩ = some (.int .i64 (tth l j).no)) (W.alloc (.cells #[.string (tth l j).key, .int .i64 (tth l j).no] 71)) := ⟨((Ext.refl W).alloc_right _).cell I0.1, ((Ext.refl W).alloc_right _).cell I0.2.1, ((Ext.refl W).alloc_right _).cell I0.2.2.1, ((Ext.refl W).alloc_right _).cell I0.2.2.2⟩
  clear tri1
  generalize W.heap.size = va at *
  generalize W.alloc (.cells #[.string (tth l j).key, .int .i64 (tth l j).no] 71) = W1 at *
  refine hK _ _ ⟨fun _ => I1, ?_⟩
  clear hK K
  try simp only [Act.put, List.getElem_toArray, List.getElem_cons_zero, List.getElem_cons_succ, List.setIfInBounds_toArray, List.set_cons_zero, List.set_cons_succ]
  refine J_one 14 rfl (by kernel_rfl) (fun K hK => ?_)
  go_simp
  refine (ins_N lr.length 0 _ (tents lr) [.string (tth l j).key, .int .i64 (tth l j).no] va W1 (Nat.zero_le _) (by omega) tri2.out.o5 (tents_one _) hva.out rfl (tents_one [tth l j]) hne.out).mono ?_
  rintro e W2 ⟨v', rfl, ho', hrw⟩
  have tri3 : ∀ u, u = v' → Tri f w (W2.setCell ⟨r, 0, none⟩ u) p q r (.slice (some ad) l.length cl) (.slice (some kad) ps.length kc) (.slice (some aq) (m + 1) cq) (.slice Kq pq.length ckq) u (.slice Kr pr.length ckr) l.length ps.length (m + 1) pq.length (lr.length + 1) pr.length (tents l) (ptrs ps) (tents lq) (ptrs pq) (tents (tth l j :: lr)) (ptrs pr) := fun u e => by rw [e]; exact (tri2.out.rot.rot.rep0 hrw.1 ho' hrw.2).rot
  replace tri3 := hid tri3
  have hbr : W2.heap[r]? = some (.cells #[.slice Ar lr.length cr, .slice Kr pr.length ckr] 105 (0, 0)) := (hrw.1.block r (Array.getElem?_eq_some_iff.1 tri2.out.hr).1 (fun e0 => by have := tri2.out.nd r; rw [ob_some e0.symm, one_self] at this; omega)).trans tri2.out.hr
  have hbp : W2.heap[p]? = some (.cells #[(.slice (some ad) l.length cl), (.slice (some kad) ps.length kc)] 105 (0, 0)) := (hrw.1.block p (Array.getElem?_eq_some_iff.1 tri2.out.hp).1 (fun e0 => by have := tri2.out.nd p; rw [ob_some e0.symm, one_self] at this; omega)).trans tri2.out.hp
  have hr2 := node_c0 hbr
  have hf2 := Lib.frozen_of_heap hbr 0
  have hE := hE1.out W2 (own_ne tri2.out.o1 hrw.1 (fun k e e2 => by have := tri2.out.nd k; rw [ob_some e, ob_some e2] at this; omega))
  have I2 : (fun w' : World => w'.cell? ⟨r, 0, none⟩ = some (.slice Ar lr.length cr) ∧ w'.cell? ⟨p, 0, none⟩ = some (.slice (some ad) l.length cl) ∧ w'.cell? (ad.add (j * 2)) = some (.string (tth l j).key) ∧ w'.cell? ⟨(ad.add (j * 2)).block, (ad.add (j * 2)).off + 1, none⟩ = some (.int .i64 (tth l j).no)) W2 := ⟨hr2, node_c0 hbp, hE.1, hE.2⟩
  obtain ⟨Av, cv, rfl, -⟩ := own_form ho'
  clear ho' hrw tri2 hva hne I1 I0 hE hbr hbp
  refine hK _ _ ⟨fun _ => I2, ?_⟩
  clear hK K
  try simp only [Act.put, List.getElem_toArray, List.getElem_cons_zero, List.getElem_cons_succ, List.setIfInBounds_toArray, List.set_cons_zero, List.set_cons_succ]
  refine J_one 15 rfl (by kernel_rfl) (fun K hK => ?_)
  go_simp
  refine hK _ _ ⟨fun _ => I2, ?_⟩
  clear hK K
  try simp only [Act.put, List.setIfInBounds_toArray, List.set_cons_zero, List.set_cons_succ]
  refine J_one 16 rfl (by kernel_rfl) (fun K hK => ?_)
  go_simp
  refine hK _ _ ⟨fun _ => I2, ?_⟩
  clear hK K
  try simp only [Act.put, List.setIfInBounds_toArray, List.set_cons_zero, List.set_cons_succ]
  refine J_one 17 rfl (by kernel_rfl) (fun K hK => ?_)
  go_simp
  refine hK _ _ ⟨fun h => absurd rfl h, ?_⟩
  clear hK K
  refine J_done (by kernel_rfl) (OnlyOn.normal ?_)
  replace tri3 := hid (tri3.out _ rfl)
  clear I2 hr2 hf2
  generalize W2.setCell ⟨r, 0, none⟩ (.slice Av (lr.length + 1) cv) = W3 at *
  go_upto_region 3 with fail
  have tri4 := hid (tri3.out.ext (Ext.refl W3).drew_right)
  have I0 : (fun w' : World => w'.cell? ⟨p, 0, none⟩ = some (.slice (some ad) l.length cl) ∧ w'.cell? ⟨q, 0, none⟩ = some (.slice (some aq) (m + 1) cq) ∧ w'.cell? (aq.add (m * 2)) = some (.string (tth lq m).key) ∧ w'.cell? ⟨(aq.add (m * 2)).block, (aq.add (m * 2)).off + 1, none⟩ = some (.int .i64 (tth lq m).no)) W3.drew := ⟨node_c0 tri4.out.hp, node_c0 tri4.out.hq, (hE3.out _ tri4.out.o3).1, (hE3.out _ tri4.out.o3).2⟩
  refine region_J (fun w' : World => w'.cell? ⟨p, 0, none⟩ = some (.slice (some ad) l.length cl) ∧ w'.cell? ⟨q, 0, none⟩ = some (.slice (some aq) (m + 1) cq) ∧ w'.cell? (aq.add (m * 2)) = some (.string (tth lq m).key) ∧ w'.cell? ⟨(aq.add (m * 2)).block, (aq.add (m * 2)).off + 1, none⟩ = some (.int .i64 (tth lq m).no)) 14 (by kernel_rfl) ?_
  clear tri3
  generalize W3.drew = W at *
  have hf1 := (own_freeA tri4.out.o1 (j * 2)).1
  have hz0 := (own_entryA tri4.out.o1 hj).1
  have hz1 := (own_midA tri4.out.o1 hj (.string (tth lq m).key)).1
  have hf2 := (own_midA tri4.out.o1 hj (.string (tth lq m).key)).2
  refine J_take 0 (v := ?vb0) rfl (by kernel_rfl) (by kernel_rfl) (by kernel_rfl) (by kernel_rfl) (fun _ _ _ h => h) (Or.inl ⟨by rfl, ?yb0⟩) I0 ?rb0
  case yb0 => (intro w hSw; obtain ⟨_, _, _, _⟩ := hSw; (go_simp; with_reducible rfl))
  simp only [Act.put, List.getElem_toArray, List.getElem_cons_zero, List.getElem_cons_succ, List.setIfInBounds_toArray, List.set_cons_zero, List.set_cons_succ]
  refine J_take 1 (v := ?vb1) rfl (by kernel_rfl) (by kernel_rfl) (by kernel_rfl) (by kernel_rfl) (fun _ _ _ h => h) (Or.inl ⟨by rfl, ?yb1⟩) I0 ?rb1
  case yb1 => (intro w hSw; obtain ⟨_, _, _, _⟩ := hSw; (go_simp; with_reducible rfl))
  simp only [Act.put, List.getElem_toArray, List.getElem_cons_zero, List.getElem_cons_succ, List.setIfInBounds_toArray, List.set_cons_zero, List.set_cons_succ]
  refine J_take 2 (v := ?vb2) rfl (by kernel_rfl) (by kernel_rfl) (by kernel_rfl) (by kernel_rfl) (fun _ _ _ h => h) (Or.inl ⟨by rfl, ?yb2⟩) I0 ?rb2
  case yb2 => (intro w hSw; obtain ⟨_, _, _, _⟩ := hSw; (go_simp; with_reducible rfl))
  simp only [Act.put, List.getElem_toArray, List.getElem_cons_zero, List.getElem_cons_succ, List.setIfInBounds_toArray, List.set_cons_zero, List.set_cons_succ]
  refine J_take 3 (v := ?vb3) rfl (by kernel_rfl) (by kernel_rfl) (by kernel_rfl) (by kernel_rfl) (fun _ _ _ h => h) (Or.inl ⟨by rfl, ?yb3⟩) I0 ?rb3
  case yb3 => (intro w hSw; obtain ⟨_, _, _, _⟩ := hSw; (go_simp; with_reducible rfl))
  simp only [Act.put, List.getElem_toArray, List.getElem_cons_zero, List.getElem_cons_succ, List.setIfInBounds_toArray, List.set_cons_zero, List.set_cons_succ]
  refine J_take 4 (v := ?vb4) rfl (by kernel_rfl) (by kernel_rfl) (by kernel_rfl) (by kernel_rfl) (fun _ _ _ h => h) (Or.inl ⟨by rfl, ?yb4⟩) I0 ?rb4
  case yb4 => (intro w hSw; obtain ⟨_, _, _, _⟩ := hSw; (go_simp; with_reducible rfl))
  simp only [Act.put, List.getElem_toArray, List.getElem_cons_zero, List.getElem_cons_succ, List.setIfInBounds_toArray, List.set_cons_zero, List.set_cons_succ]
  refine J_take 5 (v := ?vb5) rfl (by kernel_rfl) (by kernel_rfl) (by kernel_rfl) (by kernel_rfl) (fun _ _ _ h => h) (Or.inl ⟨by rfl, ?yb5⟩) I0 ?rb5
  case yb5 => (intro w hSw; obtain ⟨_, _, _, _⟩ := hSw; (go_simp; with_reducible rfl))
  simp only [Act.put, List.getElem_toArray, List.getElem_cons_zero, List.getElem_cons_succ, List.setIfInBounds_toArray, List.set_cons_zero, List.set_cons_succ]
  refine J_take 6 (v := ?vb6) rfl (by kernel_rfl) (by kernel_rfl) (by kernel_rfl) (by kernel_rfl) (fun _ _ _ h => h) (Or.inl ⟨by rfl, ?yb6⟩) I0 ?rb6
  case yb6 => (intro w hSw; obtain ⟨_, _, _, _⟩ := hSw; (go_simp; with_reducible rfl))
  simp only [Act.put, List.getElem_toArray, List.getElem_cons_zero, List.getElem_cons_succ, List.setIfInBounds_toArray, List.set_cons_zero, List.set_cons_succ]
  refine J_take 7 (v := ?vb7) rfl (by kernel_rfl) (by kernel_rfl) (by kernel_rfl) (by kernel_rfl) (fun _ _ _ h => h) (Or.inl ⟨by rfl, ?yb7⟩) I0 ?rb7
  case yb7 => (intro w hSw; obtain ⟨_, _, _, _⟩ := hSw; (go_simp; with_reducible rfl))
  simp only [Act.put, List.getElem_toArray, List.getElem_cons_zero, List.getElem_cons_succ, List.setIfInBounds_toArray, List.set_cons_zero, List.set_cons_succ]
  refine J_take 8 (v := ?vb8) rfl (by kernel_rfl) (by kernel_rfl) (by kernel_rfl) (by kernel_rfl) (fun _ _ _ h => h) (Or.inl ⟨by rfl, ?yb8⟩) I0 ?rb8
  case yb8 => (intro w hSw; obtain ⟨_, _, _, _⟩ := hSw; (go_simp; with_reducible rfl))
  simp only [Act.put, List.getElem_toArray, List.getElem_cons_zero, List.getElem_cons_succ, List.setIfInBounds_toArray, List.set_cons_zero, List.set_cons_succ]
  refine J_take 9 (v := ?vb9) rfl (by kernel_rfl) (by kernel_rfl) (by kernel_rfl) (by kernel_rfl) (fun _ _ _ h => h) (Or.inl ⟨by rfl, ?yb9⟩) I0 ?rb9
  case yb9 => (intro w hSw; obtain ⟨_, _, _, _⟩ := hSw; (go_simp; with_reducible rfl))
  simp only [Act.put, List.getElem_toArray, List.getElem_cons_zero, List.getElem_cons_succ, List.setIfInBounds_toArray, List.set_cons_zero, List.set_cons_succ]
  refine J_take 10 (v := ?vb10) rfl (by kernel_rfl) (by kernel_rfl) (by kernel_rfl) (by kernel_rfl) (fun _ _ _ h => h) (Or.inl ⟨by rfl, ?yb10⟩) I0 ?rb10
  case yb10 => (intro w hSw; obtain ⟨_, _, _, _⟩ := hSw; (go_simp; with_reducible rfl))
  simp only [Act.put, List.getElem_toArray, List.getElem_cons_zero, List.getElem_cons_succ, List.setIfInBounds_toArray, List.set_cons_zero, List.set_cons_succ]
  refine J_take 11 (v := ?vb11) rfl (by kernel_rfl) (by kernel_rfl) (by kernel_rfl) (by kernel_rfl) (fun _ _ _ h => h) (Or.inl ⟨by rfl, ?yb11⟩) I0 ?rb11
  case yb11 => (intro w hSw; obtain ⟨_, _, _, _⟩ := hSw; (go_simp; with_reducible rfl))
  simp only [Act.put, List.getElem_toArray, List.getElem_cons_zero, List.getElem_cons_succ, List.setIfInBounds_toArray, List.set_cons_zero, List.set_cons_succ]
  refine J_take 12 (v := ?vb12) rfl (by kernel_rfl) (by kernel_rfl) (by kernel_rfl) (by kernel_rfl) (fun _ _ _ h => h) (Or.inl ⟨by rfl, ?yb12⟩) I0 ?rb12
  case yb12 => (intro w hSw; obtain ⟨_, _, _, _⟩ := hSw; (go_simp; with_reducible rfl))
  simp only [Act.put, List.getElem_toArray, List.getElem_cons_zero, List.getElem_cons_succ, List.setIfInBounds_toArray, List.set_cons_zero, List.set_cons_succ]
  refine J_one 13 rfl (by kernel_rfl) (fun K hK => ?_)
  go_simp
  refine hK _ _ ⟨fun _ => I0, ?_⟩
  clear hK K
  try simp only [Act.put, List.setIfInBounds_toArray, List.set_cons_zero, List.set_cons_succ]
  refine J_one 14 rfl (by kernel_rfl) (fun K hK => ?_)
  go_simp
  refine hK _ _ ⟨fun h => absurd rfl h, ?_⟩
  clear hK K
  refine J_done (by kernel_rfl) (OnlyOn.normal ?_)
  have tri5 := hid (tri4.out.row0 (own_turnA (x := tth lq m) tri4.out.o1 hj).2 (own_turnA (x := tth lq m) tri4.out.o1 hj).1)
  clear hf1 hf2 hz0 hz1 I0 tri4
  generalize (W.setCell (ad.add (j * 2)) (.string (tth lq m).key)).setCell ⟨(ad.add (j * 2)).block, (ad.add (j * 2)).off + 1, none⟩ (.int .i64 (tth lq m).no) = W4 at *
  have x3 := node_c0 tri5.out.hq
  have x4 := node_c1 tri5.out.hq
  have x5 := Lib.frozen_of_heap tri5.out.hq 0
  have x6 : (W4.setCell ⟨q, 0, none⟩ (.slice (some aq) m cq)).cell? ⟨q, 1, none⟩ = some (.slice Kq pq.length ckq) := set_keep x4 (off_ne (by decide))
  have lqW := (Array.getElem?_eq_some_iff.1 tri5.out.hq).1
  have oq := own_cut tri5.out.o3 (show m ≤ m + 1 by omega)
  rw [tents_take] at oq
  have tri6 := hid (tri5.out.rot.put0 oq rfl).rot.rot
  have hn1 : ¬ (cq : Int) < (m : Int) := by omega
  have hn2 : m ≤ cq := by omega
  clear oq
  rcases hpq with h0 | h6
  · have d5 : ¬ (0 : Int) < (pq.length : Int) := by omega
    have hpl := hid h0
    clear h0
    go_wp2_with fail
    clear x3 x4 x5 x6
    generalize (W4.setCell ⟨q, 0, none⟩ (.slice (some aq) m cq)) = W6 at *
    go_end0
    have e1 : l'.length = l.length := by rw [el.out, List.length_set]
    have e2 : lq'.length = m := by rw [eq.out, List.length_take]; have := hm.out; omega
    have e3 : lr'.length = lr.length + 1 := by rw [er.out]; rfl
    obtain rfl : pq = [] := List.eq_nil_of_length_eq_zero hpl.out
    obtain rfl : pq' = [] := epq.out
    obtain rfl : pr' = pr := epr.out
    rw [e1, e2, e3, el.out, eq.out, er.out]
    exact ⟨rfl, _, _, _, _, _, _, tri6.out⟩
  · have d5 : (0 : Int) < (pq.length : Int) := by omega
    obtain ⟨akq, rfl⟩ := hkq.out (by omega)
    obtain ⟨m1, hM⟩ : ∃ m1, m + 1 = m1 := ⟨_, rfl⟩
    obtain ⟨u0, hu0⟩ : ∃ u0, pq[m1]? = some u0 := ⟨_, List.getElem?_eq_getElem (by omega)⟩
    have hpl := hid h6
    have hw7 : ((m : Int) + 1) = (m1 : Int) := by omega
    have hw8 : IntKind.i64.wrap ((m : Int) + 1) = (m1 : Int) := by rw [IntWalk.i64_in _ (by omega)]; omega
    have hw9 : IntKind.i64.wrap (m1 : Int) = (m1 : Int) := IntWalk.i64_in _ (by omega)
    have hwa : (m1 : Int) < (pq.length : Int) := by omega
    have hwb : m1 ≤ pq.length := by omega
    rw [hM] at epq epr
    replace hM := hid hM
    replace hu0 := hid hu0
    clear h6
    go_upto_region 6 with fail
    clear x3 x4 x5 x6
    generalize (W4.setCell ⟨q, 0, none⟩ (.slice (some aq) m cq)) = W6 at *
    have tri7 := hid (tri6.out.ext (Ext.refl W6).drew_right)
    have I0 : (fun w' : World => w'.cell? ⟨r, 1, none⟩ = some (.slice Kr pr.length ckr) ∧ w'.cell? ⟨q, 1, none⟩ = some (.slice (some akq) pq.length ckq) ∧ w'.cell? (akq.add m1) = some (.pointer (some ⟨u0, 0, none⟩))) W6.drew := ⟨node_c1 tri7.out.hr, node_c1 tri7.out.hq, own_ptrA tri7.out.o4 hu0.out⟩
    refine region_J (fun w' : World => w'.cell? ⟨r, 1, none⟩ = some (.slice Kr pr.length ckr) ∧ w'.cell? ⟨q, 1, none⟩ = some (.slice (some akq) pq.length ckq) ∧ w'.cell? (akq.add m1) = some (.pointer (some ⟨u0, 0, none⟩))) 17 (by kernel_rfl) ?_
    clear tri6
    generalize W6.drew = W at *
    refine J_take 0 (v := ?vc0) rfl (by kernel_rfl) (by kernel_rfl) (by kernel_rfl) (by kernel_rfl) (fun _ _ _ h => h) (Or.inl ⟨by rfl, ?yc0⟩) I0 ?rc0
    case yc0 => (intro w hSw; obtain ⟨_, _, _⟩ := hSw; (go_simp; with_reducible rfl))
    simp only [Act.put, List.getElem_toArray, List.getElem_cons_zero, List.getElem_cons_succ, List.setIfInBounds_toArray, List.set_cons_zero, List.set_cons_succ]
    refine J_take 1 (v := ?vc1) rfl (by kernel_rfl) (by kernel_rfl) (by kernel_rfl) (by kernel_rfl) (fun _ _ _ h => h) (Or.inl ⟨by rfl, ?yc1⟩) I0 ?rc1
    case yc1 => (intro w hSw; obtain ⟨_, _, _⟩ := hSw; (go_simp; with_reducible rfl))
    simp only [Act.put, List.getElem_toArray, List.getElem_cons_zero, List.getElem_cons_succ, List.setIfInBounds_toArray, List.set_cons_zero, List.set_cons_succ]
    refine J_take 2 (v := ?vc2) rfl (by kernel_rfl) (by kernel_rfl) (by kernel_rfl) (by kernel_rfl) (fun _ _ _ h => h) (Or.inl ⟨by rfl, ?yc2⟩) I0 ?rc2
    case yc2 => (intro w hSw; obtain ⟨_, _, _⟩ := hSw; (go_simp; with_reducible rfl))
    simp only [Act.put, List.getElem_toArray, List.getElem_cons_zero, List.getElem_cons_succ, List.setIfInBounds_toArray, List.set_cons_zero, List.set_cons_succ]
    refine J_take 3 (v := ?vc3) rfl (by kernel_rfl) (by kernel_rfl) (by kernel_rfl) (by kernel_rfl) (fun _ _ _ h => h) (Or.inl ⟨by rfl, ?yc3⟩) I0 ?rc3
    case yc3 => (intro w hSw; obtain ⟨_, _, _⟩ := hSw; (go_simp; with_reducible rfl))
    simp only [Act.put, List.getElem_toArray, List.getElem_cons_zero, List.getElem_cons_succ, List.setIfInBounds_toArray, List.set_cons_zero, List.set_cons_succ]
    refine J_take 4 (v := ?vc4) rfl (by kernel_rfl) (by kernel_rfl) (by kernel_rfl) (by kernel_rfl) (fun _ _ _ h => h) (Or.inl ⟨by rfl, ?yc4⟩) I0 ?rc4
    case yc4 => (intro w hSw; obtain ⟨_, _, _⟩ := hSw; (go_simp; with_reducible rfl))
    simp only [Act.put, List.getElem_toArray, List.getElem_cons_zero, List.getElem_cons_succ, List.setIfInBounds_toArray, List.set_cons_zero, List.set_cons_succ]
    refine J_take 5 (v := ?vc5) rfl (by kernel_rfl) (by kernel_rfl) (by kernel_rfl) (by kernel_rfl) (fun _ _ _ h => h) (Or.inl ⟨by rfl, ?yc5⟩) I0 ?rc5
    case yc5 => (intro w hSw; obtain ⟨_, _, _⟩ := hSw; (go_simp; with_reducible rfl))
    simp only [Act.put, List.getElem_toArray, List.getElem_cons_zero, List.getElem_cons_succ, List.setIfInBounds_toArray, List.set_cons_zero, List.set_cons_succ]
    refine J_take 6 (v := ?vc6) rfl (by kernel_rfl) (by kernel_rfl) (by kernel_rfl) (by kernel_rfl) (fun _ _ _ h => h) (Or.inl ⟨by rfl, ?yc6⟩) I0 ?rc6
    case yc6 => (intro w hSw; obtain ⟨_, _, _⟩ := hSw; (go_simp; with_reducible rfl))
    simp only [Act.put, List.getElem_toArray, List.getElem_cons_zero, List.getElem_cons_succ, List.setIfInBounds_toArray, List.set_cons_zero, List.set_cons_succ]
    refine J_take 7 (v := ?vc7) rfl (by kernel_rfl) (by kernel_rfl) (by kernel_rfl) (by kernel_rfl) (fun _ _ _ h => h) (Or.inl ⟨by rfl, ?yc7⟩) I0 ?rc7
    case yc7 => (intro w hSw; obtain ⟨_, _, _⟩ := hSw; (go_simp; with_reducible rfl))
    simp only [Act.put, List.getElem_toArray, List.getElem_cons_zero, List.getElem_cons_succ, List.setIfInBounds_toArray, List.set_cons_zero, List.set_cons_succ]
    refine J_take 8 (v := ?vc8) rfl (by kernel_rfl) (by kernel_rfl) (by kernel_rfl) (by kernel_rfl) (fun _ _ _ h => h) (Or.inl ⟨by rfl, ?yc8⟩) I0 ?rc8
    case yc8 => (intro w hSw; obtain ⟨_, _, _⟩ := hSw; (go_simp; with_reducible rfl))
    simp only [Act.put, List.getElem_toArray, List.getElem_cons_zero, List.getElem_cons_succ, List.setIfInBounds_toArray, List.set_cons_zero, List.set_cons_succ]
    refine J_take 9 (v := ?vc9) rfl (by kernel_rfl) (by kernel_rfl) (by kernel_rfl) (by kernel_rfl) (fun _ _ _ h => h) (Or.inl ⟨by rfl, ?yc9⟩) I0 ?rc9
    case yc9 => (intro w hSw; obtain ⟨_, _, _⟩ := hSw; (go_simp; with_reducible rfl))
    simp only [Act.put, List.getElem_toArray, List.getElem_cons_zero, List.getElem_cons_succ, List.setIfInBounds_toArray, List.set_cons_zero, List.set_cons_succ]
    refine J_take 10 (v := ?vc10) rfl (by kernel_rfl) (by kernel_rfl) (by kernel_rfl) (by kernel_rfl) (fun _ _ _ h => h) (Or.inl ⟨by rfl, ?yc10⟩) I0 ?rc10
    case yc10 => (intro w hSw; obtain ⟨_, _, _⟩ := hSw; (go_simp; with_reducible rfl))
    simp only [Act.put, List.getElem_toArray, List.getElem_cons_zero, List.getElem_cons_succ, List.setIfInBounds_toArray, List.set_cons_zero, List.set_cons_succ]
    refine J_take 11 (v := ?vc11) rfl (by kernel_rfl) (by kernel_rfl) (by kernel_rfl) (by kernel_rfl) (fun _ _ _ h => h) (Or.inl ⟨by rfl, ?yc11⟩) I0 ?rc11
    case yc11 => (intro w hSw; obtain ⟨_, _, _⟩ := hSw; (go_simp; with_reducible rfl))
    simp only [Act.put, List.getElem_toArray, List.getElem_cons_zero, List.getElem_cons_succ, List.setIfInBounds_toArray, List.set_cons_zero, List.set_cons_succ]
    refine J_take 12 (v := ?vc12) rfl (by kernel_rfl) (by kernel_rfl) (by kernel_rfl) (by kernel_rfl) (fun _ _ _ h => h) (Or.inl ⟨by rfl, ?yc12⟩) I0 ?rc12
    case yc12 => (intro w hSw; obtain ⟨_, _, _⟩ := hSw; (go_simp; with_reducible rfl))
    simp only [Act.put, List.getElem_toArray, List.getElem_cons_zero, List.getElem_cons_succ, List.setIfInBounds_toArray, List.set_cons_zero, List.set_cons_succ]
    refine J_one 13 rfl (by kernel_rfl) (fun K hK => ?_)
    go_simp
    have tri8 := hid (tri7.out.ext ((Ext.refl W).alloc_right (.cells #[.pointer (some ⟨u0, 0, none⟩)] 81)))
    have hva := hid (heap_alloc_new W (.cells #[.pointer (some ⟨u0, 0, none⟩)] 81))
    have hne : Hid ((Value.slice Kr pr.length ckr).ownBlock ≠ some W.heap.size) := fun e => by have := (tri7.out.o6.lt _ e).2; omega
    have I1 : (fun w' : World => w'.cell? ⟨r, 1, none⟩ = some (.slice Kr pr.length ckr) ∧ w'.cell? ⟨q, 1, none⟩ = some (.slice (some akq) pq.length ckq) ∧ w'.cell? (akq.add m1) = some (.pointer (some ⟨u0, 0, none⟩))) (W.alloc (.cells #[.pointer (some ⟨u0, 0, none⟩)] 81)) := ⟨((Ext.refl W).alloc_right _).cell I0.1, ((Ext.refl W).alloc_right _).cell I0.2.1, ((Ext.refl W).alloc_right _).cell I0.2.2⟩
    clear tri7
    generalize W.heap.size = va at *
    generalize W.alloc (.cells #[.pointer (some ⟨u0, 0, none⟩)] 81) = W1 at *
    refine hK _ _ ⟨fun _ => I1, ?_⟩
    clear hK K
    try simp only [Act.put, List.getElem_toArray, List.getElem_cons_zero, List.getElem_cons_succ, List.setIfInBounds_toArray, List.set_cons_zero, List.set_cons_succ]
    refine J_one 14 rfl (by kernel_rfl) (fun K hK => ?_)
    go_simp
    refine (ins_K pr.length 0 _ (ptrs pr) [.pointer (some ⟨u0, 0, none⟩)] va W1 (Nat.zero_le _) (by omega) tri8.out.o6 (ptrs_one _) hva.out rfl (ptrs_one [u0]) hne.out).mono ?_
    rintro e W2 ⟨v', rfl, ho', hrw⟩
    have tri9 : ∀ u, u = v' → Tri f w (W2.setCell ⟨r, 1, none⟩ u) p q r (.slice (some ad) l.length cl) (.slice (some kad) ps.length kc) (.slice (some aq) m cq) (.slice (some akq) pq.length ckq) (.slice Av (lr.length + 1) cv) u l.length ps.length m pq.length (lr.length + 1) (pr.length + 1) (tents (l.set j (tth lq m))) (ptrs ps) (tents (lq.take m)) (ptrs pq) (tents (tth l j :: lr)) (ptrs (u0 :: pr)) := fun u e => by rw [e]; exact (tri8.out.rot.rot.rep1 hrw.1 ho' hrw.2).rot
    replace tri9 := hid tri9
    have hbr : W2.heap[r]? = some (.cells #[.slice Av (lr.length + 1) cv, .slice Kr pr.length ckr] 105 (0, 0)) := (hrw.1.block r (Array.getElem?_eq_some_iff.1 tri8.out.hr).1 (fun e0 => by have := tri8.out.nd r; rw [ob_some e0.symm, one_self] at this; omega)).trans tri8.out.hr
    have hbq : W2.heap[q]? = some (.cells #[.slice (some aq) m cq, .slice (some akq) pq.length ckq] 105 (0, 0)) := (hrw.1.block q (Array.getElem?_eq_some_iff.1 tri8.out.hq).1 (fun e0 => by have := tri8.out.nd q; rw [ob_some e0.symm, one_self] at this; omega)).trans tri8.out.hq
    have hr2 := node_c1 hbr
    have hf2 := Lib.frozen_of_heap hbr 1
    have hE := own_ptrA (own_ne tri8.out.o4 hrw.1 (fun k e e2 => by have := tri8.out.nd k; rw [ob_some e, ob_some e2] at this; omega)) hu0.out
    have I2 : (fun w' : World => w'.cell? ⟨r, 1, none⟩ = some (.slice Kr pr.length ckr) ∧ w'.cell? ⟨q, 1, none⟩ = some (.slice (some akq) pq.length ckq) ∧ w'.cell? (akq.add m1) = some (.pointer (some ⟨u0, 0, none⟩))) W2 := ⟨hr2, node_c1 hbq, hE⟩
    obtain ⟨Aw, cw, rfl, -⟩ := own_form ho'
    clear ho' hrw tri8 hva hne I1 I0 hE hbr hbq
    refine hK _ _ ⟨fun _ => I2, ?_⟩
    clear hK K
    try simp only [Act.put, List.getElem_toArray, List.getElem_cons_zero, List.getElem_cons_succ, List.setIfInBounds_toArray, List.set_cons_zero, List.set_cons_succ]
    refine J_one 15 rfl (by kernel_rfl) (fun K hK => ?_)
    go_simp
    refine hK _ _ ⟨fun _ => I2, ?_⟩
    clear hK K
    try simp only [Act.put, List.setIfInBounds_toArray, List.set_cons_zero, List.set_cons_succ]
    refine J_one 16 rfl (by kernel_rfl) (fun K hK => ?_)
    go_simp
    refine hK _ _ ⟨fun _ => I2, ?_⟩
    clear hK K
    try simp only [Act.put, List.setIfInBounds_toArray, List.set_cons_zero, List.set_cons_succ]
    refine J_one 17 rfl (by kernel_rfl) (fun K hK => ?_)
    go_simp
    refine hK _ _ ⟨fun h => absurd rfl h, ?_⟩
    clear hK K
    refine J_done (by kernel_rfl) (OnlyOn.normal ?_)
    replace tri9 := hid (tri9.out _ rfl)
    clear I2 hr2 hf2
    generalize W2.setCell ⟨r, 1, none⟩ (.slice Aw (pr.length + 1) cw) = W3 at *
    have x3 := node_c1 tri9.out.hq
    have x5 := Lib.frozen_of_heap tri9.out.hq 1
    have lqW := (Array.getElem?_eq_some_iff.1 tri9.out.hq).1
    have oq := own_cut tri9.out.o4 hwb
    rw [ptrs_take, Nat.mul_one] at oq
    have tri10 := hid (tri9.out.rot.put1 oq rfl).rot.rot
    have hn3 : ¬ (ckq : Int) < (m1 : Int) := by omega
    have hn4 : m1 ≤ ckq := by omega
    clear oq tri9
    go_wp2_with fail
    clear x3 x5
    generalize (W3.setCell ⟨q, 1, none⟩ (.slice (some akq) m1 ckq)) = W6 at *
    go_end0
    have e1 : l'.length = l.length := by rw [el.out, List.length_set]
    have e2 : lq'.length = m := by rw [eq.out, List.length_take]; have := hm.out; omega
    have e3 : lr'.length = lr.length + 1 := by rw [er.out]; rfl
    have e4 : pq'.length = m1 := by rw [epq.out, List.length_take]; have := hpl.out; have := hM.out; omega
    have e6 : pr' = u0 :: pr := by
      rw [epr.out, List.drop_eq_getElem_cons (by have := hpl.out; have := hM.out; omega), (List.getElem?_eq_some_iff.1 hu0.out).2, List.drop_of_length_le (by have := hpl.out; have := hM.out; omega)]
      rfl
    have e5 : pr'.length = pr.length + 1 := by rw [e6]; rfl
    rw [e1, e2, e3, e4, e5, el.out, eq.out, er.out, epq.out, e6]
    exact ⟨rfl, _, _, _, _, _, _, tri10.out⟩
end Go.Proofs.Ytpijfiaecicpfaa
