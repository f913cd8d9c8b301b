/-
  fromRight: a kid gets the first entry of the one behind it.
-/
import Derived.Test.YtpijfiaecicpfaaEb
namespace Go.Proofs.Ytpijfiaecicpfaa
open Go.RowKit Go.Shelf
set_option linter.unusedVariables false
set_option linter.unusedSimpArgs false
set_option maxRecDepth 100000 in
set_option maxHeartbeats 4000000 in
theorem right_any (f : Nat → Nat) (p q r i j m : Nat) (l lq lr : List Te) (ps pq pr : List Nat) (lv kv vq KQ vr KR : Value) (w : World)
    (H : Tri f w w p q r lv kv vq KQ vr KR l.length ps.length lq.length pq.length (m + 1) pr.length (tents l) (ptrs ps) (tents lq) (ptrs pq) (tents lr) (ptrs pr))
    (hq : ps[j]? = some q) (hr : ps[i]? = some r) (hi : Hid (i = j + 1)) (hj : j < l.length) (hm : Hid (lr.length = m + 1)) (hpr : pr.length = 0 ∨ pr.length = m + 2) (b1 : l.length ≤ 10) (b2 : ps.length ≤ 10) (b3 : m ≤ 10) (b4 : lq.length ≤ 10) (b5 : pq.length ≤ 10)
    (l' lq' lr' : List Te) (pq' pr' : List Nat) (el : Hid (l' = l.set j (tth lr 0))) (eq : Hid (lq' = lq ++ [tth l j])) (er : Hid (lr' = lr.drop 1)) (epq : Hid (pq' = pq ++ pr.take 1)) (epr : Hid (pr' = pr.drop 1)) :
    Calls Try.prog 120 #[.pointer (some ⟨p, 0, none⟩), .int .i64 j] w fun e w' => e = .returned (.tuple #[]) ∧ ∃ lv' kv' vq' kq' vr' kr' : Value,
      Tri f w w' p q r lv' kv' vq' kq' vr' kr' l'.length ps.length lq'.length pq'.length lr'.length pr'.length (tents l') (ptrs ps) (tents lq') (ptrs pq') (tents lr') (ptrs pr') := by
  obtain ⟨A1, cl, rfl, hr1⟩ := own_rd H.o1
  obtain ⟨ad, rfl, z0, z1⟩ := RdN.at_ hr1 hj
  obtain ⟨A2, kc, rfl, hr2⟩ := own_rd H.o2
  obtain ⟨kad, rfl, -⟩ := hr2.2.2.2 (by have := (List.getElem?_eq_some_iff.1 hq).1; omega)
  obtain ⟨Aq, cq, rfl, hr3⟩ := own_rd H.o3
  obtain ⟨Ar, cr, rfl, hr5⟩ := own_rd H.o5
  obtain ⟨ar, rfl, -⟩ := hr5.2.2.2 (by omega)
  obtain ⟨Kq, ckq, rfl, hr4⟩ := own_rd H.o4
  obtain ⟨Kr, ckr, rfl, hr6⟩ := own_rd H.o6
  have y0 := rd_ptr hr2 hq
  have y1 := rd_ptr hr2 hr
  have x1 := node_c1 H.hp
  have mx1 := Rd.max hr1
  have mx2 := Rd.max hr2
  have mx3 := Rd.max hr3
  have mx5 := Rd.max hr5
  have mx4 := Rd.max hr4
  have mx6 := Rd.max hr6
  have hkr : Hid (0 < pr.length → ∃ akr, Kr = some akr) := fun h => by obtain ⟨a, e, -⟩ := hr6.2.2.2 h; exact ⟨a, e⟩
  have hjp := (List.getElem?_eq_some_iff.1 hq).1
  have hip := (List.getElem?_eq_some_iff.1 hr).1
  have hw1 : IntKind.i64.wrap ((j : Int) + 1) = (i : Int) := by have := hi.out; rw [IntWalk.i64_in _ (by omega)]; omega
  have hw2 : ((j : Int) + 1) = (i : Int) := by have := hi.out; omega
  have hw5 : IntKind.i64.wrap (i : Int) = (i : Int) := IntWalk.i64_in _ (by omega)
  have hmr := hid (show 0 < lr.length by have := hm.out; omega)
  have tri : Hid (Tri f w w p q r (.slice (some ad) l.length cl) (.slice (some kad) ps.length kc) (.slice Aq lq.length cq) (.slice Kq pq.length ckq) (.slice (some ar) (m + 1) cr) (.slice Kr pr.length ckr) l.length ps.length lq.length pq.length (m + 1) pr.length (tents l) (ptrs ps) (tents lq) (ptrs pq) (tents lr) (ptrs pr)) := H
  have hE1 : Hid (∀ W : World, W.ownsRow 0 71 2 (.slice (some ad) l.length cl) l.length (tents l) → W.cell? (ad.add (j * 2)) = some (.string (tth l j).key) ∧ W.cell? ⟨(ad.add (j * 2)).block, (ad.add (j * 2)).off + 1, none⟩ = some (.int .i64 (tth l j).no)) := fun W h => own_entryA h hj
  have hE5 : Hid (∀ W : World, W.ownsRow 0 71 2 (.slice (some ar) (m + 1) cr) (m + 1) (tents lr) → W.cell? ar = some (.string (tth lr 0).key) ∧ W.cell? ⟨ar.block, ar.off + 1, none⟩ = some (.int .i64 (tth lr 0).no)) := fun W h => own_entry0 h hmr.out
  have lp := (Array.getElem?_eq_some_iff.1 H.hp).1
  clear hr1 hr2 hr3 hr4 hr5 hr6 z0 z1 H
  replace hq := hid hq
  replace hr := hid hr
  go_enter Try.func120, Try.ntmps120
  go_upto_region 0 with fail
  go_quiet (fail)
  clear y0 y1 x1 lp
  rename_i nq
  replace tri := hid (tri.out.ext (Ext.drewN w nq))
  generalize w.drewN nq = W0 at *
  have hw3 : (0 : Int) < (m : Int) + 1 := by omega
  go_upto_region 1 with fail
  have tri1 := hid (tri.out.ext (Ext.refl W0).drew_right)
  have I0 : (fun w' : World => w'.cell? ⟨q, 0, none⟩ = some (.slice Aq lq.length cq) ∧ w'.cell? ⟨p, 0, none⟩ = some (.slice (some ad) l.length cl) ∧ w'.cell? (ad.add (j * 2)) = some (.string (tth l j).key) ∧ w'.cell? ⟨(ad.add (j * 2)).block, (ad.add (j * 2)).off + 1, none⟩ = some (.int .i64 (tth l j).no)) W0.drew := ⟨node_c0 tri1.out.hq, node_c0 tri1.out.hp, (hE1.out _ tri1.out.o1).1, (hE1.out _ tri1.out.o1).2⟩
  refine region_J (fun w' : World => w'.cell? ⟨q, 0, none⟩ = some (.slice Aq lq.length cq) ∧ w'.cell? ⟨p, 0, none⟩ = some (.slice (some ad) l.length cl) ∧ w'.cell? (ad.add (j * 2)) = some (.string (tth l j).key) ∧ w'.cell? ⟨(ad.add (j * 2)).block, (ad.add (j * 2)).off + 1, none⟩ = some (.int .i64 (tth l j).no)) 16 (by kernel_rfl) ?_
  clear tri
  generalize W0.drew = W at *
  refine J_take 0 (v := ?va0) rfl (by kernel_rfl) (by kernel_rfl) (by kernel_rfl) (by kernel_rfl) (fun _ _ _ h => h) (Or.inl ⟨by rfl, ?ya0⟩) I0 ?ra0
  case ya0 => (intro w hSw; obtain ⟨_, _, _, _⟩ := hSw; (go_simp; with_reducible rfl))
  simp only [Act.put, List.getElem_toArray, List.getElem_cons_zero, List.getElem_cons_succ, List.setIfInBounds_toArray, List.set_cons_zero, List.set_cons_succ]
  refine J_take 1 (v := ?va1) rfl (by kernel_rfl) (by kernel_rfl) (by kernel_rfl) (by kernel_rfl) (fun _ _ _ h => h) (Or.inl ⟨by rfl, ?ya1⟩) I0 ?ra1
  case ya1 => (intro w hSw; obtain ⟨_, _, _, _⟩ := hSw; (go_simp; with_reducible rfl))
  simp only [Act.put, List.getElem_toArray, List.getElem_cons_zero, List.getElem_cons_succ, List.setIfInBounds_toArray, List.set_cons_zero, List.set_cons_succ]
  refine J_take 2 (v := ?va2) rfl (by kernel_rfl) (by kernel_rfl) (by kernel_rfl) (by kernel_rfl) (fun _ _ _ h => h) (Or.inl ⟨by rfl, ?ya2⟩) I0 ?ra2
  case ya2 => (intro w hSw; obtain ⟨_, _, _, _⟩ := hSw; (go_simp; with_reducible rfl))
  simp only [Act.put, List.getElem_toArray, List.getElem_cons_zero, List.getElem_cons_succ, List.setIfInBounds_toArray, List.set_cons_zero, List.set_cons_succ]
  refine J_take 3 (v := ?va3) rfl (by kernel_rfl) (by kernel_rfl) (by kernel_rfl) (by kernel_rfl) (fun _ _ _ h => h) (Or.inl ⟨by rfl, ?ya3⟩) I0 ?ra3
  case ya3 => (intro w hSw; obtain ⟨_, _, _, _⟩ := hSw; (go_simp; with_reducible rfl))
  simp only [Act.put, List.getElem_toArray, List.getElem_cons_zero, List.getElem_cons_succ, List.setIfInBounds_toArray, List.set_cons_zero, List.set_cons_succ]
  refine J_take 4 (v := ?va4) rfl (by kernel_rfl) (by kernel_rfl) (by kernel_rfl) (by kernel_rfl) (fun _ _ _ h => h) (Or.inl ⟨by rfl, ?ya4⟩) I0 ?ra4
  case ya4 => (intro w hSw; obtain ⟨_, _, _, _⟩ := hSw; (go_simp; with_reducible rfl))
  simp only [Act.put, List.getElem_toArray, List.getElem_cons_zero, List.getElem_cons_succ, List.setIfInBounds_toArray, List.set_cons_zero, List.set_cons_succ]
  refine J_take 5 (v := ?va5) rfl (by kernel_rfl) (by kernel_rfl) (by kernel_rfl) (by kernel_rfl) (fun _ _ _ h => h) (Or.inl ⟨by rfl, ?ya5⟩) I0 ?ra5
  case ya5 => (intro w hSw; obtain ⟨_, _, _, _⟩ := hSw; (go_simp; with_reducible rfl))
  simp only [Act.put, List.getElem_toArray, List.getElem_cons_zero, List.getElem_cons_succ, List.setIfInBounds_toArray, List.set_cons_zero, List.set_cons_succ]
  refine J_take 6 (v := ?va6) rfl (by kernel_rfl) (by kernel_rfl) (by kernel_rfl) (by kernel_rfl) (fun _ _ _ h => h) (Or.inl ⟨by rfl, ?ya6⟩) I0 ?ra6
  case ya6 => (intro w hSw; obtain ⟨_, _, _, _⟩ := hSw; (go_simp; with_reducible rfl))
  simp only [Act.put, List.getElem_toArray, List.getElem_cons_zero, List.getElem_cons_succ, List.setIfInBounds_toArray, List.set_cons_zero, List.set_cons_succ]
  refine J_take 7 (v := ?va7) rfl (by kernel_rfl) (by kernel_rfl) (by kernel_rfl) (by kernel_rfl) (fun _ _ _ h => h) (Or.inl ⟨by rfl, ?ya7⟩) I0 ?ra7
  case ya7 => (intro w hSw; obtain ⟨_, _, _, _⟩ := hSw; (go_simp; with_reducible rfl))
  simp only [Act.put, List.getElem_toArray, List.getElem_cons_zero, List.getElem_cons_succ, List.setIfInBounds_toArray, List.set_cons_zero, List.set_cons_succ]
  refine J_take 8 (v := ?va8) rfl (by kernel_rfl) (by kernel_rfl) (by kernel_rfl) (by kernel_rfl) (fun _ _ _ h => h) (Or.inl ⟨by rfl, ?ya8⟩) I0 ?ra8
  case ya8 => (intro w hSw; obtain ⟨_, _, _, _⟩ := hSw; (go_simp; with_reducible rfl))
  simp only [Act.put, List.getElem_toArray, List.getElem_cons_zero, List.getElem_cons_succ, List.setIfInBounds_toArray, List.set_cons_zero, List.set_cons_succ]
  refine J_take 9 (v := ?va9) rfl (by kernel_rfl) (by kernel_rfl) (by kernel_rfl) (by kernel_rfl) (fun _ _ _ h => h) (Or.inl ⟨by rfl, ?ya9⟩) I0 ?ra9
  case ya9 => (intro w hSw; obtain ⟨_, _, _, _⟩ := hSw; (go_simp; with_reducible rfl))
  simp only [Act.put, List.getElem_toArray, List.getElem_cons_zero, List.getElem_cons_succ, List.setIfInBounds_toArray, List.set_cons_zero, List.set_cons_succ]
  refine J_take 10 (v := ?va10) rfl (by kernel_rfl) (by kernel_rfl) (by kernel_rfl) (by kernel_rfl) (fun _ _ _ h => h) (Or.inl ⟨by rfl, ?ya10⟩) I0 ?ra10
  case ya10 => (intro w hSw; obtain ⟨_, _, _, _⟩ := hSw; (go_simp; with_reducible rfl))
  simp only [Act.put, List.getElem_toArray, List.getElem_cons_zero, List.getElem_cons_succ, List.setIfInBounds_toArray, List.set_cons_zero, List.set_cons_succ]
  refine J_take 11 (v := ?va11) rfl (by kernel_rfl) (by kernel_rfl) (by kernel_rfl) (by kernel_rfl) (fun _ _ _ h => h) (Or.inl ⟨by rfl, ?ya11⟩) I0 ?ra11
  case ya11 => (intro w hSw; obtain ⟨_, _, _, _⟩ := hSw; (go_simp; with_reducible rfl))
  simp only [Act.put, List.getElem_toArray, List.getElem_cons_zero, List.getElem_cons_succ, List.setIfInBounds_toArray, List.set_cons_zero, List.set_cons_succ]
  refine J_one 12 rfl (by kernel_rfl) (fun K hK => ?_)
  go_simp
  have tri2 := hid (tri1.out.ext ((Ext.refl W).alloc_right (.cells #[.string (tth l j).key, .int .i64 (tth l j).no] 71)))
  have hva := hid (heap_alloc_new W (.cells #[.string (tth l j).key, .int .i64 (tth l j).no] 71))
  have I1 : (fun w' : World => w'.cell? ⟨q, 0, none⟩ = some (.slice Aq lq.length cq) ∧ w'.cell? ⟨p, 0, none⟩ = some (.slice (some ad) l.length cl) ∧ w'.cell? (ad.add (j * 2)) = some (.string (tth l j).key) ∧ w'.cell? ⟨(ad.add (j * 2)).block, (ad.add (j * 2)).off + 1, none⟩ = some (.int .i64 (tth l j).no)) (W.alloc (.cells #[.string (tth l j).key, .int .i64 (tth l j).no] 71)) := ⟨((Ext.refl W).alloc_right _).cell I0.1, ((Ext.refl W).alloc_right _).cell I0.2.1, ((Ext.refl W).alloc_right _).cell I0.2.2.1, ((Ext.refl W).alloc_right _).cell I0.2.2.2⟩
  clear tri1
  generalize W.heap.size = va at *
  generalize W.alloc (.cells #[.string (tth l j).key, .int .i64 (tth l j).no] 71) = W1 at *
  obtain ⟨v', W2, happ, ho', hrw⟩ := appN W1 92 _ lq.length (tents lq) tri2.out.o3 (some ⟨va, 0, none⟩) 1 1 [.string (tth l j).key, .int .i64 (tth l j).no] (rd_new hva.out) (tents_one [tth l j]) (by omega)
  have tri3 : ∀ u, u = v' → Tri f w (W2.setCell ⟨q, 0, none⟩ u) p q r (.slice (some ad) l.length cl) (.slice (some kad) ps.length kc) u (.slice Kq pq.length ckq) (.slice (some ar) (m + 1) cr) (.slice Kr pr.length ckr) l.length ps.length (lq.length + 1) pq.length (m + 1) pr.length (tents l) (ptrs ps) (tents lq ++ [.string (tth l j).key, .int .i64 (tth l j).no]) (ptrs pq) (tents lr) (ptrs pr) := fun u e => by rw [e]; exact (tri2.out.rot.rep0 hrw.1 ho' hrw.2).rot.rot
  replace tri3 := hid tri3
  have hbq : W2.heap[q]? = some (.cells #[.slice Aq lq.length cq, .slice Kq pq.length ckq] 105 (0, 0)) := (hrw.1.block q (Array.getElem?_eq_some_iff.1 tri2.out.hq).1 (fun e0 => by have := tri2.out.nd q; rw [ob_some e0.symm, one_self] at this; omega)).trans tri2.out.hq
  have hbp : W2.heap[p]? = some (.cells #[(.slice (some ad) l.length cl), (.slice (some kad) ps.length kc)] 105 (0, 0)) := (hrw.1.block p (Array.getElem?_eq_some_iff.1 tri2.out.hp).1 (fun e0 => by have := tri2.out.nd p; rw [ob_some e0.symm, one_self] at this; omega)).trans tri2.out.hp
  have hr2 := node_c0 hbq
  have hf2 := Lib.frozen_of_heap hbq 0
  have hE := hE1.out W2 (own_ne tri2.out.o1 hrw.1 (fun k e e2 => by have := tri2.out.nd k; rw [ob_some e, ob_some e2] at this; omega))
  have I2 : (fun w' : World => w'.cell? ⟨q, 0, none⟩ = some (.slice Aq lq.length cq) ∧ w'.cell? ⟨p, 0, none⟩ = some (.slice (some ad) l.length cl) ∧ w'.cell? (ad.add (j * 2)) = some (.string (tth l j).key) ∧ w'.cell? ⟨(ad.add (j * 2)).block, (ad.add (j * 2)).off + 1, none⟩ = some (.int .i64 (tth l j).no)) W2 := ⟨hr2, node_c0 hbp, hE.1, hE.2⟩
  obtain ⟨Av, cv, rfl, -⟩ := own_form ho'
  replace happ := hid happ
  clear ho' hrw tri2 hva I0 hE hbq hbp
  refine hK _ _ ⟨fun _ => I1, ?_⟩
  clear hK K
  try simp only [Act.put, List.getElem_toArray, List.getElem_cons_zero, List.getElem_cons_succ, List.setIfInBounds_toArray, List.set_cons_zero, List.set_cons_succ]
  refine J_one 13 rfl (by kernel_rfl) (fun K hK => ?_)
  refine step_run rfl _ (ex_append _ _ _ _ rfl _ _ (by simp [Act.eval, Act.put]) (by simp [Act.eval, Act.put]) _ happ.out) ?_
  refine hK _ _ ⟨fun _ => I2, ?_⟩
  clear hK K
  try simp only [Act.put, List.getElem_toArray, List.getElem_cons_zero, List.getElem_cons_succ, List.setIfInBounds_toArray, List.set_cons_zero, List.set_cons_succ]
  refine J_one 14 rfl (by kernel_rfl) (fun K hK => ?_)
  go_simp
  refine hK _ _ ⟨fun _ => I2, ?_⟩
  clear hK K
  try simp only [Act.put, List.setIfInBounds_toArray, List.set_cons_zero, List.set_cons_succ]
  refine J_one 15 rfl (by kernel_rfl) (fun K hK => ?_)
  go_simp
  refine hK _ _ ⟨fun _ => I2, ?_⟩
  clear hK K
  try simp only [Act.put, List.setIfInBounds_toArray, List.set_cons_zero, List.set_cons_succ]
  refine J_one 16 rfl (by kernel_rfl) (fun K hK => ?_)
  go_simp
  refine hK _ _ ⟨fun h => absurd rfl h, ?_⟩
  clear hK K
  refine J_done (by kernel_rfl) (OnlyOn.normal ?_)
  replace tri3 := hid (tri3.out _ rfl)
  rw [show tents lq ++ [.string (tth l j).key, .int .i64 (tth l j).no] = tents (lq ++ [tth l j]) by rw [tents_append]; rfl] at tri3
  clear I2 I1 hr2 hf2 happ
  generalize W2.setCell ⟨q, 0, none⟩ (.slice Av (lq.length + 1) cv) = W3 at *
  go_upto_region 2 with fail
  have tri4 := hid (tri3.out.ext (Ext.refl W3).drew_right)
  have I0 : (fun w' : World => w'.cell? ⟨p, 0, none⟩ = some (.slice (some ad) l.length cl) ∧ w'.cell? ⟨r, 0, none⟩ = some (.slice (some ar) (m + 1) cr) ∧ w'.cell? ar = some (.string (tth lr 0).key) ∧ w'.cell? ⟨ar.block, ar.off + 1, none⟩ = some (.int .i64 (tth lr 0).no)) W3.drew := ⟨node_c0 tri4.out.hp, node_c0 tri4.out.hr, (hE5.out _ tri4.out.o5).1, (hE5.out _ tri4.out.o5).2⟩
  refine region_J (fun w' : World => w'.cell? ⟨p, 0, none⟩ = some (.slice (some ad) l.length cl) ∧ w'.cell? ⟨r, 0, none⟩ = some (.slice (some ar) (m + 1) cr) ∧ w'.cell? ar = some (.string (tth lr 0).key) ∧ w'.cell? ⟨ar.block, ar.off + 1, none⟩ = some (.int .i64 (tth lr 0).no)) 12 (by kernel_rfl) ?_
  clear tri3
  generalize W3.drew = W at *
  have hf1 := (own_freeA tri4.out.o1 (j * 2)).1
  have hz0 := (own_entryA tri4.out.o1 hj).1
  have hz1 := (own_midA tri4.out.o1 hj (.string (tth lr 0).key)).1
  have hf2 := (own_midA tri4.out.o1 hj (.string (tth lr 0).key)).2
  refine J_take 0 (v := ?vb0) rfl (by kernel_rfl) (by kernel_rfl) (by kernel_rfl) (by kernel_rfl) (fun _ _ _ h => h) (Or.inl ⟨by rfl, ?yb0⟩) I0 ?rb0
  case yb0 => (intro w hSw; obtain ⟨_, _, _, _⟩ := hSw; (go_simp; with_reducible rfl))
  simp only [Act.put, List.getElem_toArray, List.getElem_cons_zero, List.getElem_cons_succ, List.setIfInBounds_toArray, List.set_cons_zero, List.set_cons_succ]
  refine J_take 1 (v := ?vb1) rfl (by kernel_rfl) (by kernel_rfl) (by kernel_rfl) (by kernel_rfl) (fun _ _ _ h => h) (Or.inl ⟨by rfl, ?yb1⟩) I0 ?rb1
  case yb1 => (intro w hSw; obtain ⟨_, _, _, _⟩ := hSw; (go_simp; with_reducible rfl))
  simp only [Act.put, List.getElem_toArray, List.getElem_cons_zero, List.getElem_cons_succ, List.setIfInBounds_toArray, List.set_cons_zero, List.set_cons_succ]
  refine J_take 2 (v := ?vb2) rfl (by kernel_rfl) (by kernel_rfl) (by kernel_rfl) (by kernel_rfl) (fun _ _ _ h => h) (Or.inl ⟨by rfl, ?yb2⟩) I0 ?rb2
  case yb2 => (intro w hSw; obtain ⟨_, _, _, _⟩ := hSw; (go_simp; with_reducible rfl))
  simp only [Act.put, List.getElem_toArray, List.getElem_cons_zero, List.getElem_cons_succ, List.setIfInBounds_toArray, List.set_cons_zero, List.set_cons_succ]
  refine J_take 3 (v := ?vb3) rfl (by kernel_rfl) (by kernel_rfl) (by kernel_rfl) (by kernel_rfl) (fun _ _ _ h => h) (Or.inl ⟨by rfl, ?yb3⟩) I0 ?rb3
  case yb3 => (intro w hSw; obtain ⟨_, _, _, _⟩ := hSw; (go_simp; with_reducible rfl))
  simp only [Act.put, List.getElem_toArray, List.getElem_cons_zero, List.getElem_cons_succ, List.setIfInBounds_toArray, List.set_cons_zero, List.set_cons_succ]
  refine J_take 4 (v := ?vb4) rfl (by kernel_rfl) (by kernel_rfl) (by kernel_rfl) (by kernel_rfl) (fun _ _ _ h => h) (Or.inl ⟨by rfl, ?yb4⟩) I0 ?rb4
  case yb4 => (intro w hSw; obtain ⟨_, _, _, _⟩ := hSw; (go_simp; with_reducible rfl))
  simp only [Act.put, List.getElem_toArray, List.getElem_cons_zero, List.getElem_cons_succ, List.setIfInBounds_toArray, List.set_cons_zero, List.set_cons_succ]
  refine J_take 5 (v := ?vb5) rfl (by kernel_rfl) (by kernel_rfl) (by kernel_rfl) (by kernel_rfl) (fun _ _ _ h => h) (Or.inl ⟨by rfl, ?yb5⟩) I0 ?rb5
  case yb5 => (intro w hSw; obtain ⟨_, _, _, _⟩ := hSw; (go_simp; with_reducible rfl))
  simp only [Act.put, List.getElem_toArray, List.getElem_cons_zero, List.getElem_cons_succ, List.setIfInBounds_toArray, List.set_cons_zero, List.set_cons_succ]
  refine J_take 6 (v := ?vb6) rfl (by kernel_rfl) (by kernel_rfl) (by kernel_rfl) (by kernel_rfl) (fun _ _ _ h => h) (Or.inl ⟨by rfl, ?yb6⟩) I0 ?rb6
  case yb6 => (intro w hSw; obtain ⟨_, _, _, _⟩ := hSw; (go_simp; with_reducible rfl))
  simp only [Act.put, List.getElem_toArray, List.getElem_cons_zero, List.getElem_cons_succ, List.setIfInBounds_toArray, List.set_cons_zero, List.set_cons_succ]
  refine J_take 7 (v := ?vb7) rfl (by kernel_rfl) (by kernel_rfl) (by kernel_rfl) (by kernel_rfl) (fun _ _ _ h => h) (Or.inl ⟨by rfl, ?yb7⟩) I0 ?rb7
  case yb7 => (intro w hSw; obtain ⟨_, _, _, _⟩ := hSw; (go_simp; with_reducible rfl))
  simp only [Act.put, List.getElem_toArray, List.getElem_cons_zero, List.getElem_cons_succ, List.setIfInBounds_toArray, List.set_cons_zero, List.set_cons_succ]
  refine J_take 8 (v := ?vb8) rfl (by kernel_rfl) (by kernel_rfl) (by kernel_rfl) (by kernel_rfl) (fun _ _ _ h => h) (Or.inl ⟨by rfl, ?yb8⟩) I0 ?rb8
  case yb8 => (intro w hSw; obtain ⟨_, _, _, _⟩ := hSw; (go_simp; with_reducible rfl))
  simp only [Act.put, List.getElem_toArray, List.getElem_cons_zero, List.getElem_cons_succ, List.setIfInBounds_toArray, List.set_cons_zero, List.set_cons_succ]
  refine J_take 9 (v := ?vb9) rfl (by kernel_rfl) (by kernel_rfl) (by kernel_rfl) (by kernel_rfl) (fun _ _ _ h => h) (Or.inl ⟨by rfl, ?yb9⟩) I0 ?rb9
  case yb9 => (intro w hSw; obtain ⟨_, _, _, _⟩ := hSw; (go_simp; with_reducible rfl))
  simp only [Act.put, List.getElem_toArray, List.getElem_cons_zero, List.getElem_cons_succ, List.setIfInBounds_toArray, List.set_cons_zero, List.set_cons_succ]
  refine J_take 10 (v := ?vb10) rfl (by kernel_rfl) (by kernel_rfl) (by kernel_rfl) (by kernel_rfl) (fun _ _ _ h => h) (Or.inl ⟨by rfl, ?yb10⟩) I0 ?rb10
  case yb10 => (intro w hSw; obtain ⟨_, _, _, _⟩ := hSw; (go_simp; with_reducible rfl))
  simp only [Act.put, List.getElem_toArray, List.getElem_cons_zero, List.getElem_cons_succ, List.setIfInBounds_toArray, List.set_cons_zero, List.set_cons_succ]
  refine J_one 11 rfl (by kernel_rfl) (fun K hK => ?_)
  go_simp
  refine hK _ _ ⟨fun _ => I0, ?_⟩
  clear hK K
  try simp only [Act.put, List.setIfInBounds_toArray, List.set_cons_zero, List.set_cons_succ]
  refine J_one 12 rfl (by kernel_rfl) (fun K hK => ?_)
  go_simp
  refine hK _ _ ⟨fun h => absurd rfl h, ?_⟩
  clear hK K
  refine J_done (by kernel_rfl) (OnlyOn.normal ?_)
  have tri5 := hid (tri4.out.row0 (own_turnA (x := tth lr 0) tri4.out.o1 hj).2 (own_turnA (x := tth lr 0) tri4.out.o1 hj).1)
  clear hf1 hf2 hz0 hz1 I0 tri4
  generalize (W.setCell (ad.add (j * 2)) (.string (tth lr 0).key)).setCell ⟨(ad.add (j * 2)).block, (ad.add (j * 2)).off + 1, none⟩ (.int .i64 (tth lr 0).no) = W4 at *
  have x3 := node_c0 tri5.out.hr
  have lrW := (Array.getElem?_eq_some_iff.1 tri5.out.hr).1
  go_wp2_with fail
  clear x3
  refine (del_N (m + 1) 0 _ (tents lr) W4 (by omega) (by omega) tri5.out.o5 (tents_one _)).mono ?_
  rintro e W5 ⟨v', rfl, ho', hrw⟩
  rw [Nat.add_sub_cancel] at ho'
  have tri6 : ∀ u, u = v' → Tri f w (W5.setCell ⟨r, 0, none⟩ u) p q r (.slice (some ad) l.length cl) (.slice (some kad) ps.length kc) (.slice Av (lq.length + 1) cv) (.slice Kq pq.length ckq) u (.slice Kr pr.length ckr) l.length ps.length (lq.length + 1) pq.length m pr.length (tents (l.set j (tth lr 0))) (ptrs ps) (tents (lq ++ [tth l j])) (ptrs pq) (tents (lr.drop 1)) (ptrs pr) := fun u e => by
    rw [e]
    have := (tri5.out.rot.rot.rep0 hrw.1 ho' hrw.2).rot
    rw [Nat.zero_mul, List.take_zero, List.nil_append, tents_drop] at this
    exact this
  replace tri6 := hid tri6
  have hbr : W5.heap[r]? = some (.cells #[(.slice (some ar) (m + 1) cr), .slice Kr pr.length ckr] 105 (0, 0)) := (hrw.1.block r (Array.getElem?_eq_some_iff.1 tri5.out.hr).1 (fun e0 => by have := tri5.out.nd r; rw [ob_some e0.symm, one_self] at this; omega)).trans tri5.out.hr
  have x3 := node_c0 hbr
  have x5 := Lib.frozen_of_heap hbr 0
  have lrV := (Array.getElem?_eq_some_iff.1 hbr).1
  obtain ⟨Ax, cx, rfl, hcx⟩ := own_form ho'
  have x6 : (W5.setCell ⟨r, 0, none⟩ (.slice Ax m cx)).cell? ⟨r, 1, none⟩ = some (.slice Kr pr.length ckr) := set_keep (node_c1 hbr) (off_ne (by decide))
  clear ho' hrw hbr
  rcases hpr with h0 | h6
  · have d5 : ¬ (0 : Int) < (pr.length : Int) := by omega
    have hpl := hid h0
    clear h0
    go_wp2_with fail
    clear x3 x5 x6
    replace tri6 := hid (tri6.out _ rfl)
    go_end0
    have e1 : l'.length = l.length := by rw [el.out, List.length_set]
    have e2 : lq'.length = lq.length + 1 := by rw [eq.out, List.length_append]; rfl
    have e3 : lr'.length = m := by rw [er.out, List.length_drop]; have := hm.out; omega
    obtain rfl : pr = [] := List.eq_nil_of_length_eq_zero hpl.out
    have e4 : pq' = pq := by rw [epq.out]; exact List.append_nil _
    obtain rfl : pr' = [] := epr.out
    rw [e1, e2, e3, e4, el.out, eq.out, er.out]
    exact ⟨rfl, _, _, _, _, _, _, tri6.out⟩
  · have d5 : (0 : Int) < (pr.length : Int) := by omega
    obtain ⟨akr, rfl⟩ := hkr.out (by omega)
    obtain ⟨u0, hu0⟩ : ∃ u0, pr[0]? = some u0 := ⟨_, List.getElem?_eq_getElem (by omega)⟩
    have hpl := hid h6
    replace hu0 := hid hu0
    have hwb : pr.length ≤ 12 := by omega
    clear h6
    go_upto_region 5 with fail
    clear x3 x5 x6
    replace tri6 := hid (tri6.out _ rfl)
    generalize (W5.setCell ⟨r, 0, none⟩ (.slice Ax m cx)) = W6 at *
    have tri7 := hid (tri6.out.ext (Ext.refl W6).drew_right)
    have I0 : (fun w' : World => w'.cell? ⟨q, 1, none⟩ = some (.slice Kq pq.length ckq) ∧ w'.cell? ⟨r, 1, none⟩ = some (.slice (some akr) pr.length ckr) ∧ w'.cell? akr = some (.pointer (some ⟨u0, 0, none⟩))) W6.drew := ⟨node_c1 tri7.out.hq, node_c1 tri7.out.hr, own_ptr0 tri7.out.o6 hu0.out⟩
    refine region_J (fun w' : World => w'.cell? ⟨q, 1, none⟩ = some (.slice Kq pq.length ckq) ∧ w'.cell? ⟨r, 1, none⟩ = some (.slice (some akr) pr.length ckr) ∧ w'.cell? akr = some (.pointer (some ⟨u0, 0, none⟩))) 15 (by kernel_rfl) ?_
    clear tri6
    generalize W6.drew = W at *
    refine J_take 0 (v := ?vc0) rfl (by kernel_rfl) (by kernel_rfl) (by kernel_rfl) (by kernel_rfl) (fun _ _ _ h => h) (Or.inl ⟨by rfl, ?yc0⟩) I0 ?rc0
    case yc0 => (intro w hSw; obtain ⟨_, _, _⟩ := hSw; (go_simp; with_reducible rfl))
    simp only [Act.put, List.getElem_toArray, List.getElem_cons_zero, List.getElem_cons_succ, List.setIfInBounds_toArray, List.set_cons_zero, List.set_cons_succ]
    refine J_take 1 (v := ?vc1) rfl (by kernel_rfl) (by kernel_rfl) (by kernel_rfl) (by kernel_rfl) (fun _ _ _ h => h) (Or.inl ⟨by rfl, ?yc1⟩) I0 ?rc1
    case yc1 => (intro w hSw; obtain ⟨_, _, _⟩ := hSw; (go_simp; with_reducible rfl))
    simp only [Act.put, List.getElem_toArray, List.getElem_cons_zero, List.getElem_cons_succ, List.setIfInBounds_toArray, List.set_cons_zero, List.set_cons_succ]
    refine J_take 2 (v := ?vc2) rfl (by kernel_rfl) (by kernel_rfl) (by kernel_rfl) (by kernel_rfl) (fun _ _ _ h => h) (Or.inl ⟨by rfl, ?yc2⟩) I0 ?rc2
    case yc2 => (intro w hSw; obtain ⟨_, _, _⟩ := hSw; (go_simp; with_reducible rfl))
    simp only [Act.put, List.getElem_toArray, List.getElem_cons_zero, List.getElem_cons_succ, List.setIfInBounds_toArray, List.set_cons_zero, List.set_cons_succ]
    refine J_take 3 (v := ?vc3) rfl (by kernel_rfl) (by kernel_rfl) (by kernel_rfl) (by kernel_rfl) (fun _ _ _ h => h) (Or.inl ⟨by rfl, ?yc3⟩) I0 ?rc3
    case yc3 => (intro w hSw; obtain ⟨_, _, _⟩ := hSw; (go_simp; with_reducible rfl))
    simp only [Act.put, List.getElem_toArray, List.getElem_cons_zero, List.getElem_cons_succ, List.setIfInBounds_toArray, List.set_cons_zero, List.set_cons_succ]
    refine J_take 4 (v := ?vc4) rfl (by kernel_rfl) (by kernel_rfl) (by kernel_rfl) (by kernel_rfl) (fun _ _ _ h => h) (Or.inl ⟨by rfl, ?yc4⟩) I0 ?rc4
    case yc4 => (intro w hSw; obtain ⟨_, _, _⟩ := hSw; (go_simp; with_reducible rfl))
    simp only [Act.put, List.getElem_toArray, List.getElem_cons_zero, List.getElem_cons_succ, List.setIfInBounds_toArray, List.set_cons_zero, List.set_cons_succ]
    refine J_take 5 (v := ?vc5) rfl (by kernel_rfl) (by kernel_rfl) (by kernel_rfl) (by kernel_rfl) (fun _ _ _ h => h) (Or.inl ⟨by rfl, ?yc5⟩) I0 ?rc5
    case yc5 => (intro w hSw; obtain ⟨_, _, _⟩ := hSw; (go_simp; with_reducible rfl))
    simp only [Act.put, List.getElem_toArray, List.getElem_cons_zero, List.getElem_cons_succ, List.setIfInBounds_toArray, List.set_cons_zero, List.set_cons_succ]
    refine J_take 6 (v := ?vc6) rfl (by kernel_rfl) (by kernel_rfl) (by kernel_rfl) (by kernel_rfl) (fun _ _ _ h => h) (Or.inl ⟨by rfl, ?yc6⟩) I0 ?rc6
    case yc6 => (intro w hSw; obtain ⟨_, _, _⟩ := hSw; (go_simp; with_reducible rfl))
    simp only [Act.put, List.getElem_toArray, List.getElem_cons_zero, List.getElem_cons_succ, List.setIfInBounds_toArray, List.set_cons_zero, List.set_cons_succ]
    refine J_take 7 (v := ?vc7) rfl (by kernel_rfl) (by kernel_rfl) (by kernel_rfl) (by kernel_rfl) (fun _ _ _ h => h) (Or.inl ⟨by rfl, ?yc7⟩) I0 ?rc7
    case yc7 => (intro w hSw; obtain ⟨_, _, _⟩ := hSw; (go_simp; with_reducible rfl))
    simp only [Act.put, List.getElem_toArray, List.getElem_cons_zero, List.getElem_cons_succ, List.setIfInBounds_toArray, List.set_cons_zero, List.set_cons_succ]
    refine J_take 8 (v := ?vc8) rfl (by kernel_rfl) (by kernel_rfl) (by kernel_rfl) (by kernel_rfl) (fun _ _ _ h => h) (Or.inl ⟨by rfl, ?yc8⟩) I0 ?rc8
    case yc8 => (intro w hSw; obtain ⟨_, _, _⟩ := hSw; (go_simp; with_reducible rfl))
    simp only [Act.put, List.getElem_toArray, List.getElem_cons_zero, List.getElem_cons_succ, List.setIfInBounds_toArray, List.set_cons_zero, List.set_cons_succ]
    refine J_take 9 (v := ?vc9) rfl (by kernel_rfl) (by kernel_rfl) (by kernel_rfl) (by kernel_rfl) (fun _ _ _ h => h) (Or.inl ⟨by rfl, ?yc9⟩) I0 ?rc9
    case yc9 => (intro w hSw; obtain ⟨_, _, _⟩ := hSw; (go_simp; with_reducible rfl))
    simp only [Act.put, List.getElem_toArray, List.getElem_cons_zero, List.getElem_cons_succ, List.setIfInBounds_toArray, List.set_cons_zero, List.set_cons_succ]
    refine J_take 10 (v := ?vc10) rfl (by kernel_rfl) (by kernel_rfl) (by kernel_rfl) (by kernel_rfl) (fun _ _ _ h => h) (Or.inl ⟨by rfl, ?yc10⟩) I0 ?rc10
    case yc10 => (intro w hSw; obtain ⟨_, _, _⟩ := hSw; (go_simp; with_reducible rfl))
    simp only [Act.put, List.getElem_toArray, List.getElem_cons_zero, List.getElem_cons_succ, List.setIfInBounds_toArray, List.set_cons_zero, List.set_cons_succ]
    refine J_one 11 rfl (by kernel_rfl) (fun K hK => ?_)
    go_simp
    have tri8 := hid (tri7.out.ext ((Ext.refl W).alloc_right (.cells #[.pointer (some ⟨u0, 0, none⟩)] 81)))
    have hva := hid (heap_alloc_new W (.cells #[.pointer (some ⟨u0, 0, none⟩)] 81))
    have I1 : (fun w' : World => w'.cell? ⟨q, 1, none⟩ = some (.slice Kq pq.length ckq) ∧ w'.cell? ⟨r, 1, none⟩ = some (.slice (some akr) pr.length ckr) ∧ w'.cell? akr = some (.pointer (some ⟨u0, 0, none⟩))) (W.alloc (.cells #[.pointer (some ⟨u0, 0, none⟩)] 81)) := ⟨((Ext.refl W).alloc_right _).cell I0.1, ((Ext.refl W).alloc_right _).cell I0.2.1, ((Ext.refl W).alloc_right _).cell I0.2.2⟩
    clear tri7
    generalize W.heap.size = va at *
    generalize W.alloc (.cells #[.pointer (some ⟨u0, 0, none⟩)] 81) = W1 at *
    obtain ⟨v', W2, happ, ho', hrw⟩ := appK W1 103 _ pq.length (ptrs pq) tri8.out.o4 (some ⟨va, 0, none⟩) 1 1 [.pointer (some ⟨u0, 0, none⟩)] (rd_new hva.out) (ptrs_one [u0]) (by omega)
    have tri9 : ∀ u, u = v' → Tri f w (W2.setCell ⟨q, 1, none⟩ u) p q r (.slice (some ad) l.length cl) (.slice (some kad) ps.length kc) (.slice Av (lq.length + 1) cv) u (.slice Ax m cx) (.slice (some akr) pr.length ckr) l.length ps.length (lq.length + 1) (pq.length + 1) m pr.length (tents (l.set j (tth lr 0))) (ptrs ps) (tents (lq ++ [tth l j])) (ptrs (pq ++ [u0])) (tents (lr.drop 1)) (ptrs pr) := fun u e => by
      rw [e, ptrs_append]
      exact (tri8.out.rot.rep1 hrw.1 ho' hrw.2).rot.rot
    replace tri9 := hid tri9
    have hbq : W2.heap[q]? = some (.cells #[.slice Av (lq.length + 1) cv, .slice Kq pq.length ckq] 105 (0, 0)) := (hrw.1.block q (Array.getElem?_eq_some_iff.1 tri8.out.hq).1 (fun e0 => by have := tri8.out.nd q; rw [ob_some e0.symm, one_self] at this; omega)).trans tri8.out.hq
    have hbr : W2.heap[r]? = some (.cells #[.slice Ax m cx, .slice (some akr) pr.length ckr] 105 (0, 0)) := (hrw.1.block r (Array.getElem?_eq_some_iff.1 tri8.out.hr).1 (fun e0 => by have := tri8.out.nd r; rw [ob_some e0.symm, one_self] at this; omega)).trans tri8.out.hr
    have hr2 := node_c1 hbq
    have hf2 := Lib.frozen_of_heap hbq 1
    have hE := own_ptr0 (own_ne tri8.out.o6 hrw.1 (fun k e e2 => by have := tri8.out.nd k; rw [ob_some e, ob_some e2] at this; omega)) hu0.out
    have I2 : (fun w' : World => w'.cell? ⟨q, 1, none⟩ = some (.slice Kq pq.length ckq) ∧ w'.cell? ⟨r, 1, none⟩ = some (.slice (some akr) pr.length ckr) ∧ w'.cell? akr = some (.pointer (some ⟨u0, 0, none⟩))) W2 := ⟨hr2, node_c1 hbr, hE⟩
    obtain ⟨Aw, cw, rfl, -⟩ := own_form ho'
    replace happ := hid happ
    clear ho' hrw tri8 hva I0 hE hbr hbq
    refine hK _ _ ⟨fun _ => I1, ?_⟩
    clear hK K
    try simp only [Act.put, List.getElem_toArray, List.getElem_cons_zero, List.getElem_cons_succ, List.setIfInBounds_toArray, List.set_cons_zero, List.set_cons_succ]
    refine J_one 12 rfl (by kernel_rfl) (fun K hK => ?_)
    refine step_run rfl _ (ex_append _ _ _ _ rfl _ _ (by simp [Act.eval, Act.put]) (by simp [Act.eval, Act.put]) _ happ.out) ?_
    refine hK _ _ ⟨fun _ => I2, ?_⟩
    clear hK K
    try simp only [Act.put, List.getElem_toArray, List.getElem_cons_zero, List.getElem_cons_succ, List.setIfInBounds_toArray, List.set_cons_zero, List.set_cons_succ]
    refine J_one 13 rfl (by kernel_rfl) (fun K hK => ?_)
    go_simp
    refine hK _ _ ⟨fun _ => I2, ?_⟩
    clear hK K
    try simp only [Act.put, List.setIfInBounds_toArray, List.set_cons_zero, List.set_cons_succ]
    refine J_one 14 rfl (by kernel_rfl) (fun K hK => ?_)
    go_simp
    refine hK _ _ ⟨fun _ => I2, ?_⟩
    clear hK K
    try simp only [Act.put, List.setIfInBounds_toArray, List.set_cons_zero, List.set_cons_succ]
    refine J_one 15 rfl (by kernel_rfl) (fun K hK => ?_)
    go_simp
    refine hK _ _ ⟨fun h => absurd rfl h, ?_⟩
    clear hK K
    refine J_done (by kernel_rfl) (OnlyOn.normal ?_)
    replace tri9 := hid (tri9.out _ rfl)
    clear I2 I1 hr2 hf2 happ
    generalize W2.setCell ⟨q, 1, none⟩ (.slice Aw (pq.length + 1) cw) = W3 at *
    have x3 := node_c1 tri9.out.hr
    have lrX := (Array.getElem?_eq_some_iff.1 tri9.out.hr).1
    go_wp2_with fail
    clear x3
    refine (del_K pr.length 0 _ (ptrs pr) W3 (by omega) (by omega) tri9.out.o6 (ptrs_one _)).mono ?_
    rintro e W7 ⟨v', rfl, ho', hrw⟩
    have tri10 : ∀ u, u = v' → Tri f w (W7.setCell ⟨r, 1, none⟩ u) p q r (.slice (some ad) l.length cl) (.slice (some kad) ps.length kc) (.slice Av (lq.length + 1) cv) (.slice Aw (pq.length + 1) cw) (.slice Ax m cx) u l.length ps.length (lq.length + 1) (pq.length + 1) m (pr.length - 1) (tents (l.set j (tth lr 0))) (ptrs ps) (tents (lq ++ [tth l j])) (ptrs (pq ++ [u0])) (tents (lr.drop 1)) (ptrs (pr.drop 1)) := fun u e => by
      rw [e]
      have := (tri9.out.rot.rot.rep1 hrw.1 ho' hrw.2).rot
      rw [Nat.zero_mul, List.take_zero, List.nil_append, ptrs_drop] at this
      exact this
    replace tri10 := hid tri10
    have hbr : W7.heap[r]? = some (.cells #[.slice Ax m cx, .slice (some akr) pr.length ckr] 105 (0, 0)) := (hrw.1.block r (Array.getElem?_eq_some_iff.1 tri9.out.hr).1 (fun e0 => by have := tri9.out.nd r; rw [ob_some e0.symm, one_self] at this; omega)).trans tri9.out.hr
    have x3 := node_c1 hbr
    have x5 := Lib.frozen_of_heap hbr 1
    obtain ⟨Ay, cy, rfl, -⟩ := own_form ho'
    clear ho' hrw hbr tri9
    go_wp2_with fail
    clear x3 x5
    replace tri10 := hid (tri10.out _ rfl)
    go_end0
    have e1 : l'.length = l.length := by rw [el.out, List.length_set]
    have e2 : lq'.length = lq.length + 1 := by rw [eq.out, List.length_append]; rfl
    have e3 : lr'.length = m := by rw [er.out, List.length_drop]; have := hm.out; omega
    have e4 : pr'.length = pr.length - 1 := by rw [epr.out, List.length_drop]
    have e6 : pq' = pq ++ [u0] := by
      rw [epq.out]
      cases pr with
      | nil => cases hu0.out
      | cons a t => have := hu0.out; simp at this; rw [this]; rfl
    have e5 : pq'.length = pq.length + 1 := by rw [e6, List.length_append]; rfl
    rw [e1, e2, e3, e4, e5, el.out, eq.out, er.out, epr.out, e6]
    exact ⟨rfl, _, _, _, _, _, _, tri10.out⟩
end Go.Proofs.Ytpijfiaecicpfaa
