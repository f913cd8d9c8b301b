/-
  Two kids beside each other: opened with their node, and shut again; fill: a kid with too few entries gets one, or is joined; fromRight: a kid gets the first entry of the one behind it; join: a kid, the entry behind it, and the next kid in one node.
-/
import Derived.Test.YtpijfiaecicpfaaGreatQ11
import Derived.Test.YtpijfiaecicpfaaGreatQ10
set_option maxRecDepth 100000
set_option maxHeartbeats 40000000
set_option linter.unusedVariables false
set_option linter.unusedSimpArgs false
namespace Go.Proofs.YtpijfiaecicpfaaGreat
open Go.RowKit Go.Shelf
theorem right_any (f : Nat → Nat) (p q r i j m : Nat) (l lq lr : List Te) (ps pq pr : List Nat) (lv kv vq KQ vr KR : Value) (w : World)
    (H : Tri f w w p q r lv kv vq KQ vr KR l.length ps.length lq.length pq.length (m + 1) pr.length (tents l) (ptrs ps) (tents lq) (ptrs pq) (tents lr) (ptrs pr))
    (hq : ps[j]? = some q) (hr : ps[i]? = some r) (hi : Hid (i = j + 1)) (hj : j < l.length) (hm : Hid (lr.length = m + 1)) (hpr : pr.length = 0 ∨ pr.length = m + 2) (b1 : l.length ≤ 10) (b2 : ps.length ≤ 10) (b3 : m ≤ 10) (b4 : lq.length ≤ 10) (b5 : pq.length ≤ 10)
    (l' lq' lr' : List Te) (pq' pr' : List Nat) (el : Hid (l' = l.set j (tth lr 0))) (eq : Hid (lq' = lq ++ [tth l j])) (er : Hid (lr' = lr.drop 1)) (epq : Hid (pq' = pq ++ pr.take 1)) (epr : Hid (pr' = pr.drop 1)) :
    Calls Tryz.prog 94 #[.pointer (some ⟨p, 0, none⟩), .int .i64 j] w fun e w' => e = .returned (.tuple #[]) ∧ ∃ lv' kv' vq' kq' vr' kr' : Value,
      Tri f w w' p q r lv' kv' vq' kq' vr' kr' l'.length ps.length lq'.length pq'.length lr'.length pr'.length (tents l') (ptrs ps) (tents lq') (ptrs pq') (tents lr') (ptrs pr') := by
  obtain ⟨A1, cl, rfl, hr1⟩ := own_rd H.o1
  obtain ⟨ad, rfl, z0, z1⟩ := RdN.at_ hr1 hj
  obtain ⟨A2, kc, rfl, hr2⟩ := own_rd H.o2
  obtain ⟨kad, rfl, -⟩ := hr2.2.2.2 (by have := (List.getElem?_eq_some_iff.1 hq).1; omega)
  obtain ⟨Aq, cq, rfl, hr3⟩ := own_rd H.o3
  obtain ⟨Ar, cr, rfl, hr5⟩ := own_rd H.o5
  obtain ⟨ar, rfl, -⟩ := hr5.2.2.2 (by omega)
  obtain ⟨Kq, ckq, rfl, hr4⟩ := own_rd H.o4
  obtain ⟨Kr, ckr, rfl, hr6⟩ := own_rd H.o6
  have y0 := rd_ptr hr2 hq
  have y1 := rd_ptr hr2 hr
  have x1 := node_c1 H.hp
  have mx1 := Rd.max hr1
  have mx2 := Rd.max hr2
  have mx3 := Rd.max hr3
  have mx5 := Rd.max hr5
  have mx4 := Rd.max hr4
  have mx6 := Rd.max hr6
  have hkr : Hid (0 < pr.length → ∃ akr, Kr = some akr) := fun h => by obtain ⟨a, e, -⟩ := hr6.2.2.2 h; exact ⟨a, e⟩
  have hjp := (List.getElem?_eq_some_iff.1 hq).1
  have hip := (List.getElem?_eq_some_iff.1 hr).1
  have hw1 : IntKind.i64.wrap ((j : Int) + 1) = (i : Int) := by have := hi.out; rw [IntWalk.i64_in _ (by omega)]; omega
  have hw2 : ((j : Int) + 1) = (i : Int) := by have := hi.out; omega
  have hw5 : IntKind.i64.wrap (i : Int) = (i : Int) := IntWalk.i64_in _ (by omega)
  have hmr := hid (show 0 < lr.length by have := hm.out; omega)
  have tri : Hid (Tri f w w p q r (.slice (some ad) l.length cl) (.slice (some kad) ps.length kc) (.slice Aq lq.length cq) (.slice Kq pq.length ckq) (.slice (some ar) (m + 1) cr) (.slice Kr pr.length ckr) l.length ps.length lq.length pq.length (m + 1) pr.length (tents l) (ptrs ps) (tents lq) (ptrs pq) (tents lr) (ptrs pr)) := H
  have hE1 : Hid (∀ W : World, W.ownsRow 0 83 2 (.slice (some ad) l.length cl) l.length (tents l) → W.cell? (ad.add (j * 2)) = some (.string (tth l j).key) ∧ W.cell? ⟨(ad.add (j * 2)).block, (ad.add (j * 2)).off + 1, none⟩ = some (.int .i64 (tth l j).no)) := fun W h => own_entryA h hj
  have hE5 : Hid (∀ W : World, W.ownsRow 0 83 2 (.slice (some ar) (m + 1) cr) (m + 1) (tents lr) → W.cell? ar = some (.string (tth lr 0).key) ∧ W.cell? ⟨ar.block, ar.off + 1, none⟩ = some (.int .i64 (tth lr 0).no)) := fun W h => own_entry0 h hmr.out
  have lp := (Array.getElem?_eq_some_iff.1 H.hp).1
  clear hr1 hr2 hr3 hr4 hr5 hr6 z0 z1 H
  replace hq := hid hq
  replace hr := hid hr
  go_enter Tryz.func94, Tryz.ntmps94
  go_upto_region 0 with fail
  go_quiet (fail)
  clear y0 y1 x1 lp
  rename_i nq
  replace tri := hid (tri.out.ext (Ext.drewN w nq))
  generalize w.drewN nq = W0 at *
  have hw3 : (0 : Int) < (m : Int) + 1 := by omega
  go_upto_region 1 with fail
  have tri1 := hid (tri.out.ext (Ext.refl W0).drew_right)
  have I0 : (fun w' : World => w'.cell? ⟨q, 0, none⟩ = some (.slice Aq lq.length cq) ∧ w'.cell? ⟨p, 0, none⟩ = some (.slice (some ad) l.length cl) ∧ w'.cell? (ad.add (j * 2)) = some (.string (tth l j).key) ∧ w'.cell? ⟨(ad.add (j * 2)).block, (ad.add (j * 2)).off + 1, none⟩ = some (.int .i64 (tth l j).no)) W0.drew := ⟨node_c0 tri1.out.hq, node_c0 tri1.out.hp, (hE1.out _ tri1.out.o1).1, (hE1.out _ tri1.out.o1).2⟩
  refine region_J (fun w' : World => w'.cell? ⟨q, 0, none⟩ = some (.slice Aq lq.length cq) ∧ w'.cell? ⟨p, 0, none⟩ = some (.slice (some ad) l.length cl) ∧ w'.cell? (ad.add (j * 2)) = some (.string (tth l j).key) ∧ w'.cell? ⟨(ad.add (j * 2)).block, (ad.add (j * 2)).off + 1, none⟩ = some (.int .i64 (tth l j).no)) 16 (by kernel_rfl) ?_
  clear tri
  generalize W0.drew = W at *
  refine JT 0 (v := ?va0) I0 ?ya0 ?ra0
  case ya0 => (intro w h; obtain ⟨_, _, _, _⟩ := h; go_simp; with_reducible rfl)
  simp only [Act.put, lyA, lyB, lyC, lyD, lyE, lyF]
  refine JT 1 (v := ?va1) I0 ?ya1 ?ra1
  case ya1 => (intro w h; obtain ⟨_, _, _, _⟩ := h; go_simp; with_reducible rfl)
  simp only [Act.put, lyA, lyB, lyC, lyD, lyE, lyF]
  refine JT 2 (v := ?va2) I0 ?ya2 ?ra2
  case ya2 => (intro w h; obtain ⟨_, _, _, _⟩ := h; go_simp; with_reducible rfl)
  simp only [Act.put, lyA, lyB, lyC, lyD, lyE, lyF]
  refine JT 3 (v := ?va3) I0 ?ya3 ?ra3
  case ya3 => (intro w h; obtain ⟨_, _, _, _⟩ := h; go_simp; with_reducible rfl)
  simp only [Act.put, lyA, lyB, lyC, lyD, lyE, lyF]
  refine JT 4 (v := ?va4) I0 ?ya4 ?ra4
  case ya4 => (intro w h; obtain ⟨_, _, _, _⟩ := h; go_simp; with_reducible rfl)
  simp only [Act.put, lyA, lyB, lyC, lyD, lyE, lyF]
  refine JT 5 (v := ?va5) I0 ?ya5 ?ra5
  case ya5 => (intro w h; obtain ⟨_, _, _, _⟩ := h; go_simp; with_reducible rfl)
  simp only [Act.put, lyA, lyB, lyC, lyD, lyE, lyF]
  refine JT 6 (v := ?va6) I0 ?ya6 ?ra6
  case ya6 => (intro w h; obtain ⟨_, _, _, _⟩ := h; go_simp; with_reducible rfl)
  simp only [Act.put, lyA, lyB, lyC, lyD, lyE, lyF]
  refine JT 7 (v := ?va7) I0 ?ya7 ?ra7
  case ya7 => (intro w h; obtain ⟨_, _, _, _⟩ := h; go_simp; with_reducible rfl)
  simp only [Act.put, lyA, lyB, lyC, lyD, lyE, lyF]
  refine JT 8 (v := ?va8) I0 ?ya8 ?ra8
  case ya8 => (intro w h; obtain ⟨_, _, _, _⟩ := h; go_simp; with_reducible rfl)
  simp only [Act.put, lyA, lyB, lyC, lyD, lyE, lyF]
  refine JT 9 (v := ?va9) I0 ?ya9 ?ra9
  case ya9 => (intro w h; obtain ⟨_, _, _, _⟩ := h; go_simp; with_reducible rfl)
  simp only [Act.put, lyA, lyB, lyC, lyD, lyE, lyF]
  refine JT 10 (v := ?va10) I0 ?ya10 ?ra10
  case ya10 => (intro w h; obtain ⟨_, _, _, _⟩ := h; go_simp; with_reducible rfl)
  simp only [Act.put, lyA, lyB, lyC, lyD, lyE, lyF]
  refine JT 11 (v := ?va11) I0 ?ya11 ?ra11
  case ya11 => (intro w h; obtain ⟨_, _, _, _⟩ := h; go_simp; with_reducible rfl)
  simp only [Act.put, lyA, lyB, lyC, lyD, lyE, lyF]
  refine J_one 12 rfl (by kernel_rfl) (fun K hK => ?_)
  go_simp
  have tri2 := hid (tri1.out.ext ((Ext.refl W).alloc_right (.cells #[.string (tth l j).key, .int .i64 (tth l j).no] 83)))
  have hva := hid (heap_alloc_new W (.cells #[.string (tth l j).key, .int .i64 (tth l j).no] 83))
  have I1 : (fun w' : World => w'.cell? ⟨q, 0, none⟩ = some (.slice Aq lq.length cq) ∧ w'.cell? ⟨p, 0, none⟩ = some (.slice (some ad) l.length cl) ∧ w'.cell? (ad.add (j * 2)) = some (.string (tth l j).key) ∧ w'.cell? ⟨(ad.add (j * 2)).block, (ad.add (j * 2)).off + 1, none⟩ = some (.int .i64 (tth l j).no)) (W.alloc (.cells #[.string (tth l j).key, .int .i64 (tth l j).no] 83)) := ⟨((Ext.refl W).alloc_right _).cell I0.1, ((Ext.refl W).alloc_right _).cell I0.2.1, ((Ext.refl W).alloc_right _).cell I0.2.2.1, ((Ext.refl W).alloc_right _).cell I0.2.2.2⟩
  clear tri1
  generalize W.heap.size = va at *
  generalize W.alloc (.cells #[.string (tth l j).key, .int .i64 (tth l j).no] 83) = W1 at *
  obtain ⟨v', W2, happ, ho', hrw⟩ := appN W1 52 _ lq.length (tents lq) tri2.out.o3 (some ⟨va, 0, none⟩) 1 1 [.string (tth l j).key, .int .i64 (tth l j).no] (rd_new hva.out) (tents_one [tth l j]) (by omega)
  have tri3 : ∀ u, u = v' → Tri f w (W2.setCell ⟨q, 0, none⟩ u) p q r (.slice (some ad) l.length cl) (.slice (some kad) ps.length kc) u (.slice Kq pq.length ckq) (.slice (some ar) (m + 1) cr) (.slice Kr pr.length ckr) l.length ps.length (lq.length + 1) pq.length (m + 1) pr.length (tents l) (ptrs ps) (tents lq ++ [.string (tth l j).key, .int .i64 (tth l j).no]) (ptrs pq) (tents lr) (ptrs pr) := fun u e => by rw [e]; exact (tri2.out.rot.rep0 hrw.1 ho' hrw.2).rot.rot
  replace tri3 := hid tri3
  have hbq : W2.heap[q]? = some (.cells #[.slice Aq lq.length cq, .slice Kq pq.length ckq] 55 (0, 0)) := (hrw.1.block q (Array.getElem?_eq_some_iff.1 tri2.out.hq).1 (fun e0 => by have := tri2.out.nd q; rw [ob_some e0.symm, one_self] at this; omega)).trans tri2.out.hq
  have hbp : W2.heap[p]? = some (.cells #[(.slice (some ad) l.length cl), (.slice (some kad) ps.length kc)] 55 (0, 0)) := (hrw.1.block p (Array.getElem?_eq_some_iff.1 tri2.out.hp).1 (fun e0 => by have := tri2.out.nd p; rw [ob_some e0.symm, one_self] at this; omega)).trans tri2.out.hp
  have hr2 := node_c0 hbq
  have hf2 := Lib.frozen_of_heap hbq 0
  have hE := hE1.out W2 (own_ne tri2.out.o1 hrw.1 (fun k e e2 => by have := tri2.out.nd k; rw [ob_some e, ob_some e2] at this; omega))
  have I2 : (fun w' : World => w'.cell? ⟨q, 0, none⟩ = some (.slice Aq lq.length cq) ∧ w'.cell? ⟨p, 0, none⟩ = some (.slice (some ad) l.length cl) ∧ w'.cell? (ad.add (j * 2)) = some (.string (tth l j).key) ∧ w'.cell? ⟨(ad.add (j * 2)).block, (ad.add (j * 2)).off + 1, none⟩ = some (.int .i64 (tth l j).no)) W2 := ⟨hr2, node_c0 hbp, hE.1, hE.2⟩
  obtain ⟨Av, cv, rfl, -⟩ := own_form ho'
  replace happ := hid happ
  clear ho' hrw tri2 hva I0 hE hbq hbp
  refine hK _ _ ⟨fun _ => I1, ?_⟩
  clear hK K
  try simp only [Act.put, lyA, lyB, lyC, lyD, lyE, lyF]
  refine J_one 13 rfl (by kernel_rfl) (fun K hK => ?_)
  refine step_run rfl _ (ex_append _ _ _ _ rfl _ _ (by simp [Act.eval, Act.put]) (by simp [Act.eval, Act.put]) _ happ.out) ?_
  refine hK _ _ ⟨fun _ => I2, ?_⟩
  clear hK K
  try simp only [Act.put, lyA, lyB, lyC, lyD, lyE, lyF]
  refine J_one 14 rfl (by kernel_rfl) (fun K hK => ?_)
  go_simp
  refine hK _ _ ⟨fun _ => I2, ?_⟩
  clear hK K
  try simp only [Act.put, lyD, lyE, lyF]
  refine J_one 15 rfl (by kernel_rfl) (fun K hK => ?_)
  go_simp
  refine hK _ _ ⟨fun _ => I2, ?_⟩
  clear hK K
  try simp only [Act.put, lyD, lyE, lyF]
  refine J_one 16 rfl (by kernel_rfl) (fun K hK => ?_)
  go_simp
  refine hK _ _ ⟨fun h => absurd rfl h, ?_⟩
  clear hK K
  refine J_done (by kernel_rfl) (OnlyOn.normal ?_)
  replace tri3 := hid (tri3.out _ rfl)
  rw [show tents lq ++ [.string (tth l j).key, .int .i64 (tth l j).no] = tents (lq ++ [tth l j]) by rw [tents_append]; rfl] at tri3
  clear I2 I1 hr2 hf2 happ
  generalize W2.setCell ⟨q, 0, none⟩ (.slice Av (lq.length + 1) cv) = W3 at *
  go_upto_region 2 with fail
  have tri4 := hid (tri3.out.ext (Ext.refl W3).drew_right)
  have I0 : (fun w' : World => w'.cell? ⟨p, 0, none⟩ = some (.slice (some ad) l.length cl) ∧ w'.cell? ⟨r, 0, none⟩ = some (.slice (some ar) (m + 1) cr) ∧ w'.cell? ar = some (.string (tth lr 0).key) ∧ w'.cell? ⟨ar.block, ar.off + 1, none⟩ = some (.int .i64 (tth lr 0).no)) W3.drew := ⟨node_c0 tri4.out.hp, node_c0 tri4.out.hr, (hE5.out _ tri4.out.o5).1, (hE5.out _ tri4.out.o5).2⟩
  refine region_J (fun w' : World => w'.cell? ⟨p, 0, none⟩ = some (.slice (some ad) l.length cl) ∧ w'.cell? ⟨r, 0, none⟩ = some (.slice (some ar) (m + 1) cr) ∧ w'.cell? ar = some (.string (tth lr 0).key) ∧ w'.cell? ⟨ar.block, ar.off + 1, none⟩ = some (.int .i64 (tth lr 0).no)) 12 (by kernel_rfl) ?_
  clear tri3
  generalize W3.drew = W at *
  have hf1 := (own_freeA tri4.out.o1 (j * 2)).1
  have hz0 := (own_entryA tri4.out.o1 hj).1
  have hz1 := (own_midA tri4.out.o1 hj (.string (tth lr 0).key)).1
  have hf2 := (own_midA tri4.out.o1 hj (.string (tth lr 0).key)).2
  refine JT 0 (v := ?vb0) I0 ?yb0 ?rb0
  case yb0 => (intro w h; obtain ⟨_, _, _, _⟩ := h; go_simp; with_reducible rfl)
  simp only [Act.put, lyA, lyB, lyC, lyD, lyE, lyF]
  refine JT 1 (v := ?vb1) I0 ?yb1 ?rb1
  case yb1 => (intro w h; obtain ⟨_, _, _, _⟩ := h; go_simp; with_reducible rfl)
  simp only [Act.put, lyA, lyB, lyC, lyD, lyE, lyF]
  refine JT 2 (v := ?vb2) I0 ?yb2 ?rb2
  case yb2 => (intro w h; obtain ⟨_, _, _, _⟩ := h; go_simp; with_reducible rfl)
  simp only [Act.put, lyA, lyB, lyC, lyD, lyE, lyF]
  refine JT 3 (v := ?vb3) I0 ?yb3 ?rb3
  case yb3 => (intro w h; obtain ⟨_, _, _, _⟩ := h; go_simp; with_reducible rfl)
  simp only [Act.put, lyA, lyB, lyC, lyD, lyE, lyF]
  refine JT 4 (v := ?vb4) I0 ?yb4 ?rb4
  case yb4 => (intro w h; obtain ⟨_, _, _, _⟩ := h; go_simp; with_reducible rfl)
  simp only [Act.put, lyA, lyB, lyC, lyD, lyE, lyF]
  refine JT 5 (v := ?vb5) I0 ?yb5 ?rb5
  case yb5 => (intro w h; obtain ⟨_, _, _, _⟩ := h; go_simp; with_reducible rfl)
  simp only [Act.put, lyA, lyB, lyC, lyD, lyE, lyF]
  refine JT 6 (v := ?vb6) I0 ?yb6 ?rb6
  case yb6 => (intro w h; obtain ⟨_, _, _, _⟩ := h; go_simp; with_reducible rfl)
  simp only [Act.put, lyA, lyB, lyC, lyD, lyE, lyF]
  refine JT 7 (v := ?vb7) I0 ?yb7 ?rb7
  case yb7 => (intro w h; obtain ⟨_, _, _, _⟩ := h; go_simp; with_reducible rfl)
  simp only [Act.put, lyA, lyB, lyC, lyD, lyE, lyF]
  refine JT 8 (v := ?vb8) I0 ?yb8 ?rb8
  case yb8 => (intro w h; obtain ⟨_, _, _, _⟩ := h; go_simp; with_reducible rfl)
  simp only [Act.put, lyA, lyB, lyC, lyD, lyE, lyF]
  refine JT 9 (v := ?vb9) I0 ?yb9 ?rb9
  case yb9 => (intro w h; obtain ⟨_, _, _, _⟩ := h; go_simp; with_reducible rfl)
  simp only [Act.put, lyA, lyB, lyC, lyD, lyE, lyF]
  refine JT 10 (v := ?vb10) I0 ?yb10 ?rb10
  case yb10 => (intro w h; obtain ⟨_, _, _, _⟩ := h; go_simp; with_reducible rfl)
  simp only [Act.put, lyA, lyB, lyC, lyD, lyE, lyF]
  refine J_one 11 rfl (by kernel_rfl) (fun K hK => ?_)
  go_simp
  refine hK _ _ ⟨fun _ => I0, ?_⟩
  clear hK K
  try simp only [Act.put, lyD, lyE, lyF]
  refine J_one 12 rfl (by kernel_rfl) (fun K hK => ?_)
  go_simp
  refine hK _ _ ⟨fun h => absurd rfl h, ?_⟩
  clear hK K
  refine J_done (by kernel_rfl) (OnlyOn.normal ?_)
  have tri5 := hid (tri4.out.row0 (own_turnA (x := tth lr 0) tri4.out.o1 hj).2 (own_turnA (x := tth lr 0) tri4.out.o1 hj).1)
  clear hf1 hf2 hz0 hz1 I0 tri4
  generalize (W.setCell (ad.add (j * 2)) (.string (tth lr 0).key)).setCell ⟨(ad.add (j * 2)).block, (ad.add (j * 2)).off + 1, none⟩ (.int .i64 (tth lr 0).no) = W4 at *
  have x3 := node_c0 tri5.out.hr
  have lrW := (Array.getElem?_eq_some_iff.1 tri5.out.hr).1
  go_wp2_with fail
  clear x3
  refine (del_N (m + 1) 0 _ (tents lr) W4 (by omega) (by omega) tri5.out.o5 (tents_one _)).mono ?_
  rintro e W5 ⟨v', rfl, ho', hrw⟩
  rw [Nat.add_sub_cancel] at ho'
  have tri6 : ∀ u, u = v' → Tri f w (W5.setCell ⟨r, 0, none⟩ u) p q r (.slice (some ad) l.length cl) (.slice (some kad) ps.length kc) (.slice Av (lq.length + 1) cv) (.slice Kq pq.length ckq) u (.slice Kr pr.length ckr) l.length ps.length (lq.length + 1) pq.length m pr.length (tents (l.set j (tth lr 0))) (ptrs ps) (tents (lq ++ [tth l j])) (ptrs pq) (tents (lr.drop 1)) (ptrs pr) := fun u e => by
    rw [e]
    have := (tri5.out.rot.rot.rep0 hrw.1 ho' hrw.2).rot
    rw [Nat.zero_mul, List.take_zero, List.nil_append, tents_drop] at this
    exact this
  replace tri6 := hid tri6
  have hbr : W5.heap[r]? = some (.cells #[(.slice (some ar) (m + 1) cr), .slice Kr pr.length ckr] 55 (0, 0)) := (hrw.1.block r (Array.getElem?_eq_some_iff.1 tri5.out.hr).1 (fun e0 => by have := tri5.out.nd r; rw [ob_some e0.symm, one_self] at this; omega)).trans tri5.out.hr
  have x3 := node_c0 hbr
  have x5 := Lib.frozen_of_heap hbr 0
  have lrV := (Array.getElem?_eq_some_iff.1 hbr).1
  obtain ⟨Ax, cx, rfl, hcx⟩ := own_form ho'
  have x6 : (W5.setCell ⟨r, 0, none⟩ (.slice Ax m cx)).cell? ⟨r, 1, none⟩ = some (.slice Kr pr.length ckr) := set_keep (node_c1 hbr) (off_ne (by decide))
  clear ho' hrw hbr
  rcases hpr with h0 | h6
  · have d5 : ¬ (0 : Int) < (pr.length : Int) := by omega
    have hpl := hid h0
    clear h0
    go_wp2_with fail
    clear x3 x5 x6
    replace tri6 := hid (tri6.out _ rfl)
    go_end0
    have e1 : l'.length = l.length := by rw [el.out, List.length_set]
    have e2 : lq'.length = lq.length + 1 := by rw [eq.out, List.length_append]; rfl
    have e3 : lr'.length = m := by rw [er.out, List.length_drop]; have := hm.out; omega
    obtain rfl : pr = [] := List.eq_nil_of_length_eq_zero hpl.out
    have e4 : pq' = pq := by rw [epq.out]; exact List.append_nil _
    obtain rfl : pr' = [] := epr.out
    rw [e1, e2, e3, e4, el.out, eq.out, er.out]
    exact ⟨rfl, _, _, _, _, _, _, tri6.out⟩
  · have d5 : (0 : Int) < (pr.length : Int) := by omega
    obtain ⟨akr, rfl⟩ := hkr.out (by omega)
    obtain ⟨u0, hu0⟩ : ∃ u0, pr[0]? = some u0 := ⟨_, List.getElem?_eq_getElem (by omega)⟩
    have hpl := hid h6
    replace hu0 := hid hu0
    have hwb : pr.length ≤ 12 := by omega
    clear h6
    go_upto_region 5 with fail
    clear x3 x5 x6
    replace tri6 := hid (tri6.out _ rfl)
    generalize (W5.setCell ⟨r, 0, none⟩ (.slice Ax m cx)) = W6 at *
    have tri7 := hid (tri6.out.ext (Ext.refl W6).drew_right)
    have I0 : (fun w' : World => w'.cell? ⟨q, 1, none⟩ = some (.slice Kq pq.length ckq) ∧ w'.cell? ⟨r, 1, none⟩ = some (.slice (some akr) pr.length ckr) ∧ w'.cell? akr = some (.pointer (some ⟨u0, 0, none⟩))) W6.drew := ⟨node_c1 tri7.out.hq, node_c1 tri7.out.hr, own_ptr0 tri7.out.o6 hu0.out⟩
    refine region_J (fun w' : World => w'.cell? ⟨q, 1, none⟩ = some (.slice Kq pq.length ckq) ∧ w'.cell? ⟨r, 1, none⟩ = some (.slice (some akr) pr.length ckr) ∧ w'.cell? akr = some (.pointer (some ⟨u0, 0, none⟩))) 15 (by kernel_rfl) ?_
    clear tri6
    generalize W6.drew = W at *
    refine JT 0 (v := ?vc0) I0 ?yc0 ?rc0
    case yc0 => (intro w h; obtain ⟨_, _, _⟩ := h; go_simp; with_reducible rfl)
    simp only [Act.put, lyA, lyB, lyC, lyD, lyE, lyF]
    refine JT 1 (v := ?vc1) I0 ?yc1 ?rc1
    case yc1 => (intro w h; obtain ⟨_, _, _⟩ := h; go_simp; with_reducible rfl)
    simp only [Act.put, lyA, lyB, lyC, lyD, lyE, lyF]
    refine JT 2 (v := ?vc2) I0 ?yc2 ?rc2
    case yc2 => (intro w h; obtain ⟨_, _, _⟩ := h; go_simp; with_reducible rfl)
    simp only [Act.put, lyA, lyB, lyC, lyD, lyE, lyF]
    refine JT 3 (v := ?vc3) I0 ?yc3 ?rc3
    case yc3 => (intro w h; obtain ⟨_, _, _⟩ := h; go_simp; with_reducible rfl)
    simp only [Act.put, lyA, lyB, lyC, lyD, lyE, lyF]
    refine JT 4 (v := ?vc4) I0 ?yc4 ?rc4
    case yc4 => (intro w h; obtain ⟨_, _, _⟩ := h; go_simp; with_reducible rfl)
    simp only [Act.put, lyA, lyB, lyC, lyD, lyE, lyF]
    refine JT 5 (v := ?vc5) I0 ?yc5 ?rc5
    case yc5 => (intro w h; obtain ⟨_, _, _⟩ := h; go_simp; with_reducible rfl)
    simp only [Act.put, lyA, lyB, lyC, lyD, lyE, lyF]
    refine JT 6 (v := ?vc6) I0 ?yc6 ?rc6
    case yc6 => (intro w h; obtain ⟨_, _, _⟩ := h; go_simp; with_reducible rfl)
    simp only [Act.put, lyA, lyB, lyC, lyD, lyE, lyF]
    refine JT 7 (v := ?vc7) I0 ?yc7 ?rc7
    case yc7 => (intro w h; obtain ⟨_, _, _⟩ := h; go_simp; with_reducible rfl)
    simp only [Act.put, lyA, lyB, lyC, lyD, lyE, lyF]
    refine JT 8 (v := ?vc8) I0 ?yc8 ?rc8
    case yc8 => (intro w h; obtain ⟨_, _, _⟩ := h; go_simp; with_reducible rfl)
    simp only [Act.put, lyA, lyB, lyC, lyD, lyE, lyF]
    refine JT 9 (v := ?vc9) I0 ?yc9 ?rc9
    case yc9 => (intro w h; obtain ⟨_, _, _⟩ := h; go_simp; with_reducible rfl)
    simp only [Act.put, lyA, lyB, lyC, lyD, lyE, lyF]
    refine JT 10 (v := ?vc10) I0 ?yc10 ?rc10
    case yc10 => (intro w h; obtain ⟨_, _, _⟩ := h; go_simp; with_reducible rfl)
    simp only [Act.put, lyA, lyB, lyC, lyD, lyE, lyF]
    refine J_one 11 rfl (by kernel_rfl) (fun K hK => ?_)
    go_simp
    have tri8 := hid (tri7.out.ext ((Ext.refl W).alloc_right (.cells #[.pointer (some ⟨u0, 0, none⟩)] 51)))
    have hva := hid (heap_alloc_new W (.cells #[.pointer (some ⟨u0, 0, none⟩)] 51))
    have I1 : (fun w' : World => w'.cell? ⟨q, 1, none⟩ = some (.slice Kq pq.length ckq) ∧ w'.cell? ⟨r, 1, none⟩ = some (.slice (some akr) pr.length ckr) ∧ w'.cell? akr = some (.pointer (some ⟨u0, 0, none⟩))) (W.alloc (.cells #[.pointer (some ⟨u0, 0, none⟩)] 51)) := ⟨((Ext.refl W).alloc_right _).cell I0.1, ((Ext.refl W).alloc_right _).cell I0.2.1, ((Ext.refl W).alloc_right _).cell I0.2.2⟩
    clear tri7
    generalize W.heap.size = va at *
    generalize W.alloc (.cells #[.pointer (some ⟨u0, 0, none⟩)] 51) = W1 at *
    obtain ⟨v', W2, happ, ho', hrw⟩ := appK W1 53 _ pq.length (ptrs pq) tri8.out.o4 (some ⟨va, 0, none⟩) 1 1 [.pointer (some ⟨u0, 0, none⟩)] (rd_new hva.out) (ptrs_one [u0]) (by omega)
    have tri9 : ∀ u, u = v' → Tri f w (W2.setCell ⟨q, 1, none⟩ u) p q r (.slice (some ad) l.length cl) (.slice (some kad) ps.length kc) (.slice Av (lq.length + 1) cv) u (.slice Ax m cx) (.slice (some akr) pr.length ckr) l.length ps.length (lq.length + 1) (pq.length + 1) m pr.length (tents (l.set j (tth lr 0))) (ptrs ps) (tents (lq ++ [tth l j])) (ptrs (pq ++ [u0])) (tents (lr.drop 1)) (ptrs pr) := fun u e => by
      rw [e, ptrs_append]
      exact (tri8.out.rot.rep1 hrw.1 ho' hrw.2).rot.rot
    replace tri9 := hid tri9
    have hbq : W2.heap[q]? = some (.cells #[.slice Av (lq.length + 1) cv, .slice Kq pq.length ckq] 55 (0, 0)) := (hrw.1.block q (Array.getElem?_eq_some_iff.1 tri8.out.hq).1 (fun e0 => by have := tri8.out.nd q; rw [ob_some e0.symm, one_self] at this; omega)).trans tri8.out.hq
    have hbr : W2.heap[r]? = some (.cells #[.slice Ax m cx, .slice (some akr) pr.length ckr] 55 (0, 0)) := (hrw.1.block r (Array.getElem?_eq_some_iff.1 tri8.out.hr).1 (fun e0 => by have := tri8.out.nd r; rw [ob_some e0.symm, one_self] at this; omega)).trans tri8.out.hr
    have hr2 := node_c1 hbq
    have hf2 := Lib.frozen_of_heap hbq 1
    have hE := own_ptr0 (own_ne tri8.out.o6 hrw.1 (fun k e e2 => by have := tri8.out.nd k; rw [ob_some e, ob_some e2] at this; omega)) hu0.out
    have I2 : (fun w' : World => w'.cell? ⟨q, 1, none⟩ = some (.slice Kq pq.length ckq) ∧ w'.cell? ⟨r, 1, none⟩ = some (.slice (some akr) pr.length ckr) ∧ w'.cell? akr = some (.pointer (some ⟨u0, 0, none⟩))) W2 := ⟨hr2, node_c1 hbr, hE⟩
    obtain ⟨Aw, cw, rfl, -⟩ := own_form ho'
    replace happ := hid happ
    clear ho' hrw tri8 hva I0 hE hbr hbq
    refine hK _ _ ⟨fun _ => I1, ?_⟩
    clear hK K
    try simp only [Act.put, lyA, lyB, lyC, lyD, lyE, lyF]
    refine J_one 12 rfl (by kernel_rfl) (fun K hK => ?_)
    refine step_run rfl _ (ex_append _ _ _ _ rfl _ _ (by simp [Act.eval, Act.put]) (by simp [Act.eval, Act.put]) _ happ.out) ?_
    refine hK _ _ ⟨fun _ => I2, ?_⟩
    clear hK K
    try simp only [Act.put, lyA, lyB, lyC, lyD, lyE, lyF]
    refine J_one 13 rfl (by kernel_rfl) (fun K hK => ?_)
    go_simp
    refine hK _ _ ⟨fun _ => I2, ?_⟩
    clear hK K
    try simp only [Act.put, lyD, lyE, lyF]
    refine J_one 14 rfl (by kernel_rfl) (fun K hK => ?_)
    go_simp
    refine hK _ _ ⟨fun _ => I2, ?_⟩
    clear hK K
    try simp only [Act.put, lyD, lyE, lyF]
    refine J_one 15 rfl (by kernel_rfl) (fun K hK => ?_)
    go_simp
    refine hK _ _ ⟨fun h => absurd rfl h, ?_⟩
    clear hK K
    refine J_done (by kernel_rfl) (OnlyOn.normal ?_)
    replace tri9 := hid (tri9.out _ rfl)
    clear I2 I1 hr2 hf2 happ
    generalize W2.setCell ⟨q, 1, none⟩ (.slice Aw (pq.length + 1) cw) = W3 at *
    have x3 := node_c1 tri9.out.hr
    have lrX := (Array.getElem?_eq_some_iff.1 tri9.out.hr).1
    go_wp2_with fail
    clear x3
    refine (del_K pr.length 0 _ (ptrs pr) W3 (by omega) (by omega) tri9.out.o6 (ptrs_one _)).mono ?_
    rintro e W7 ⟨v', rfl, ho', hrw⟩
    have tri10 : ∀ u, u = v' → Tri f w (W7.setCell ⟨r, 1, none⟩ u) p q r (.slice (some ad) l.length cl) (.slice (some kad) ps.length kc) (.slice Av (lq.length + 1) cv) (.slice Aw (pq.length + 1) cw) (.slice Ax m cx) u l.length ps.length (lq.length + 1) (pq.length + 1) m (pr.length - 1) (tents (l.set j (tth lr 0))) (ptrs ps) (tents (lq ++ [tth l j])) (ptrs (pq ++ [u0])) (tents (lr.drop 1)) (ptrs (pr.drop 1)) := fun u e => by
      rw [e]
      have := (tri9.out.rot.rot.rep1 hrw.1 ho' hrw.2).rot
      rw [Nat.zero_mul, List.take_zero, List.nil_append, ptrs_drop] at this
      exact this
    replace tri10 := hid tri10
    have hbr : W7.heap[r]? = some (.cells #[.slice Ax m cx, .slice (some akr) pr.length ckr] 55 (0, 0)) := (hrw.1.block r (Array.getElem?_eq_some_iff.1 tri9.out.hr).1 (fun e0 => by have := tri9.out.nd r; rw [ob_some e0.symm, one_self] at this; omega)).trans tri9.out.hr
    have x3 := node_c1 hbr
    have x5 := Lib.frozen_of_heap hbr 1
    obtain ⟨Ay, cy, rfl, -⟩ := own_form ho'
    clear ho' hrw hbr tri9
    go_wp2_with fail
    clear x3 x5
    replace tri10 := hid (tri10.out _ rfl)
    go_end0
    have e1 : l'.length = l.length := by rw [el.out, List.length_set]
    have e2 : lq'.length = lq.length + 1 := by rw [eq.out, List.length_append]; rfl
    have e3 : lr'.length = m := by rw [er.out, List.length_drop]; have := hm.out; omega
    have e4 : pr'.length = pr.length - 1 := by rw [epr.out, List.length_drop]
    have e6 : pq' = pq ++ [u0] := by
      rw [epq.out]
      cases pr with
      | nil => cases hu0.out
      | cons a t => have := hu0.out; simp at this; rw [this]; rfl
    have e5 : pq'.length = pq.length + 1 := by rw [e6, List.length_append]; rfl
    rw [e1, e2, e3, e4, e5, el.out, eq.out, er.out, epr.out, e6]
    exact ⟨rfl, _, _, _, _, _, _, tri10.out⟩
open Go.RowKit Go.Shelf
theorem Rw.trans {a b c : Value} {w1 w2 w3 : World} (h : Rw a b w1 w2) (h2 : Rw b c w2 w3) : Rw a c w1 w3 := by
  obtain ⟨hg, hb⟩ := h
  obtain ⟨hg2, hb2⟩ := h2
  refine ⟨⟨hg2.os.trans hg.os, hg2.tape.trans hg.tape, hg2.output.trans hg.output, Nat.le_trans hg.size hg2.size, fun k hk hne => ?_⟩, ?_⟩
  · refine (hg2.block k (Nat.lt_of_lt_of_le hk hg.size) (fun e => ?_)).trans (hg.block k hk hne)
    rcases hb with h1 | h1
    · exact hne (e.trans h1)
    · have := h1 k e.symm; omega
  · rcases hb2 with h2 | h2
    · rcases hb with h1 | h1
      · exact .inl (h2.trans h1)
      · exact .inr (fun k e => h1 k (h2.symm.trans e))
    · exact .inr (fun k e => Nat.le_trans hg.size (h2 k e))
theorem join_any (f : Nat → Nat) (p q r i j t : Nat) (l lq lr : List Te) (ps pq pr : List Nat) (lv kv vq KQ vr KR : Value) (w : World)
    (H : Tri f w w p q r lv kv vq KQ vr KR l.length ps.length lq.length pq.length lr.length pr.length (tents l) (ptrs ps) (tents lq) (ptrs pq) (tents lr) (ptrs pr))
    (hq : ps[j]? = some q) (hr : ps[i]? = some r) (hi : Hid (i = j + 1)) (ht : Hid (t = i + 1)) (hj : j < l.length) (b1 : l.length ≤ 10) (b2 : ps.length ≤ 10) (b3 : lr.length ≤ 10) (b4 : lq.length ≤ 10) (b5 : pq.length ≤ 10) (b6 : pr.length ≤ 10)
    (l' lq' : List Te) (ps' pq' : List Nat) (el : Hid (l' = l.take j ++ l.drop i)) (eq : Hid (lq' = lq ++ tth l j :: lr)) (ep : Hid (ps' = ps.take i ++ ps.drop t)) (epq : Hid (pq' = pq ++ pr)) :
    Calls Tryz.prog 95 #[.pointer (some ⟨p, 0, none⟩), .int .i64 j] w fun e w' => e = .returned (.tuple #[]) ∧ ∃ lv' kv' vq' kq' vr' kr' : Value,
      Tri f w w' p q r lv' kv' vq' kq' vr' kr' l'.length ps'.length lq'.length pq'.length lr.length pr.length (tents l') (ptrs ps') (tents lq') (ptrs pq') (tents lr) (ptrs pr) := by
  obtain ⟨A1, cl, rfl, hr1⟩ := own_rd H.o1
  obtain ⟨ad, rfl, z0, z1⟩ := RdN.at_ hr1 hj
  obtain ⟨A2, kc, rfl, hr2⟩ := own_rd H.o2
  obtain ⟨kad, rfl, -⟩ := hr2.2.2.2 (by have := (List.getElem?_eq_some_iff.1 hq).1; omega)
  obtain ⟨Aq, cq, rfl, hr3⟩ := own_rd H.o3
  obtain ⟨Ar, cr, rfl, hr5⟩ := own_rd H.o5
  obtain ⟨Kq, ckq, rfl, hr4⟩ := own_rd H.o4
  obtain ⟨Kr, ckr, rfl, hr6⟩ := own_rd H.o6
  have y0 := rd_ptr hr2 hq
  have y1 := rd_ptr hr2 hr
  have x1 := node_c1 H.hp
  have mx1 := Rd.max hr1
  have mx2 := Rd.max hr2
  have mx3 := Rd.max hr3
  have mx5 := Rd.max hr5
  have mx4 := Rd.max hr4
  have mx6 := Rd.max hr6
  have hjp := (List.getElem?_eq_some_iff.1 hq).1
  have hip := (List.getElem?_eq_some_iff.1 hr).1
  have hw1 : IntKind.i64.wrap ((j : Int) + 1) = (i : Int) := by have := hi.out; rw [IntWalk.i64_in _ (by omega)]; omega
  have hw2 : ((j : Int) + 1) = (i : Int) := by have := hi.out; omega
  have hw5 : IntKind.i64.wrap (i : Int) = (i : Int) := IntWalk.i64_in _ (by omega)
  have hw3 : ((j : Int) + 2) = (t : Int) := by have := hi.out; have := ht.out; omega
  have tri : Hid (Tri f w w p q r (.slice (some ad) l.length cl) (.slice (some kad) ps.length kc) (.slice Aq lq.length cq) (.slice Kq pq.length ckq) (.slice Ar lr.length cr) (.slice Kr pr.length ckr) l.length ps.length lq.length pq.length lr.length pr.length (tents l) (ptrs ps) (tents lq) (ptrs pq) (tents lr) (ptrs pr)) := H
  have hE1 : Hid (∀ W : World, W.ownsRow 0 83 2 (.slice (some ad) l.length cl) l.length (tents l) → W.cell? (ad.add (j * 2)) = some (.string (tth l j).key) ∧ W.cell? ⟨(ad.add (j * 2)).block, (ad.add (j * 2)).off + 1, none⟩ = some (.int .i64 (tth l j).no)) := fun W h => own_entryA h hj
  have lp := (Array.getElem?_eq_some_iff.1 H.hp).1
  clear hr1 hr2 hr3 hr4 hr5 hr6 z0 z1 H
  replace hq := hid hq
  replace hr := hid hr
  go_enter Tryz.func95, Tryz.ntmps95
  go_upto_region 0 with fail
  go_quiet (fail)
  clear y0 y1 x1 lp
  rename_i nq
  replace tri := hid (tri.out.ext (Ext.drewN w nq))
  generalize w.drewN nq = W0 at *
  go_upto_region 1 with fail
  have tri1 := hid (tri.out.ext (Ext.refl W0).drew_right)
  have I0 : (fun w' : World => w'.cell? ⟨q, 0, none⟩ = some (.slice Aq lq.length cq) ∧ w'.cell? ⟨p, 0, none⟩ = some (.slice (some ad) l.length cl) ∧ w'.cell? (ad.add (j * 2)) = some (.string (tth l j).key) ∧ w'.cell? ⟨(ad.add (j * 2)).block, (ad.add (j * 2)).off + 1, none⟩ = some (.int .i64 (tth l j).no) ∧ w'.cell? ⟨r, 0, none⟩ = some (.slice Ar lr.length cr)) W0.drew := ⟨node_c0 tri1.out.hq, node_c0 tri1.out.hp, (hE1.out _ tri1.out.o1).1, (hE1.out _ tri1.out.o1).2, node_c0 tri1.out.hr⟩
  refine region_J (fun w' : World => w'.cell? ⟨q, 0, none⟩ = some (.slice Aq lq.length cq) ∧ w'.cell? ⟨p, 0, none⟩ = some (.slice (some ad) l.length cl) ∧ w'.cell? (ad.add (j * 2)) = some (.string (tth l j).key) ∧ w'.cell? ⟨(ad.add (j * 2)).block, (ad.add (j * 2)).off + 1, none⟩ = some (.int .i64 (tth l j).no) ∧ w'.cell? ⟨r, 0, none⟩ = some (.slice Ar lr.length cr)) 21 (by kernel_rfl) ?_
  clear tri
  generalize W0.drew = W at *
  refine JT 0 (v := ?va0) I0 ?ya0 ?ra0
  case ya0 => (intro w h; obtain ⟨_, _, _, _, _⟩ := h; go_simp; with_reducible rfl)
  simp only [Act.put, lyA, lyB, lyC, lyD, lyE, lyF]
  refine JT 1 (v := ?va1) I0 ?ya1 ?ra1
  case ya1 => (intro w h; obtain ⟨_, _, _, _, _⟩ := h; go_simp; with_reducible rfl)
  simp only [Act.put, lyA, lyB, lyC, lyD, lyE, lyF]
  refine JT 2 (v := ?va2) I0 ?ya2 ?ra2
  case ya2 => (intro w h; obtain ⟨_, _, _, _, _⟩ := h; go_simp; with_reducible rfl)
  simp only [Act.put, lyA, lyB, lyC, lyD, lyE, lyF]
  refine JT 3 (v := ?va3) I0 ?ya3 ?ra3
  case ya3 => (intro w h; obtain ⟨_, _, _, _, _⟩ := h; go_simp; with_reducible rfl)
  simp only [Act.put, lyA, lyB, lyC, lyD, lyE, lyF]
  refine JT 4 (v := ?va4) I0 ?ya4 ?ra4
  case ya4 => (intro w h; obtain ⟨_, _, _, _, _⟩ := h; go_simp; with_reducible rfl)
  simp only [Act.put, lyA, lyB, lyC, lyD, lyE, lyF]
  refine JT 5 (v := ?va5) I0 ?ya5 ?ra5
  case ya5 => (intro w h; obtain ⟨_, _, _, _, _⟩ := h; go_simp; with_reducible rfl)
  simp only [Act.put, lyA, lyB, lyC, lyD, lyE, lyF]
  refine JT 6 (v := ?va6) I0 ?ya6 ?ra6
  case ya6 => (intro w h; obtain ⟨_, _, _, _, _⟩ := h; go_simp; with_reducible rfl)
  simp only [Act.put, lyA, lyB, lyC, lyD, lyE, lyF]
  refine JT 7 (v := ?va7) I0 ?ya7 ?ra7
  case ya7 => (intro w h; obtain ⟨_, _, _, _, _⟩ := h; go_simp; with_reducible rfl)
  simp only [Act.put, lyA, lyB, lyC, lyD, lyE, lyF]
  refine JT 8 (v := ?va8) I0 ?ya8 ?ra8
  case ya8 => (intro w h; obtain ⟨_, _, _, _, _⟩ := h; go_simp; with_reducible rfl)
  simp only [Act.put, lyA, lyB, lyC, lyD, lyE, lyF]
  refine JT 9 (v := ?va9) I0 ?ya9 ?ra9
  case ya9 => (intro w h; obtain ⟨_, _, _, _, _⟩ := h; go_simp; with_reducible rfl)
  simp only [Act.put, lyA, lyB, lyC, lyD, lyE, lyF]
  refine JT 10 (v := ?va10) I0 ?ya10 ?ra10
  case ya10 => (intro w h; obtain ⟨_, _, _, _, _⟩ := h; go_simp; with_reducible rfl)
  simp only [Act.put, lyA, lyB, lyC, lyD, lyE, lyF]
  refine JT 11 (v := ?va11) I0 ?ya11 ?ra11
  case ya11 => (intro w h; obtain ⟨_, _, _, _, _⟩ := h; go_simp; with_reducible rfl)
  simp only [Act.put, lyA, lyB, lyC, lyD, lyE, lyF]
  refine JT 14 (v := ?va14) I0 ?ya14 ?ra14
  case ya14 => (intro w h; obtain ⟨_, _, _, _, _⟩ := h; go_simp; with_reducible rfl)
  simp only [Act.put, lyA, lyB, lyC, lyD, lyE, lyF]
  refine JT 15 (v := ?va15) I0 ?ya15 ?ra15
  case ya15 => (intro w h; obtain ⟨_, _, _, _, _⟩ := h; go_simp; with_reducible rfl)
  simp only [Act.put, lyA, lyB, lyC, lyD, lyE, lyF]
  refine JT 16 (v := ?va16) I0 ?ya16 ?ra16
  case ya16 => (intro w h; obtain ⟨_, _, _, _, _⟩ := h; go_simp; with_reducible rfl)
  simp only [Act.put, lyA, lyB, lyC, lyD, lyE, lyF]
  refine JT 17 (v := ?va17) I0 ?ya17 ?ra17
  case ya17 => (intro w h; obtain ⟨_, _, _, _, _⟩ := h; go_simp; with_reducible rfl)
  simp only [Act.put, lyA, lyB, lyC, lyD, lyE, lyF]
  refine J_one 12 rfl (by kernel_rfl) (fun K hK => ?_)
  go_simp
  have tri2 := hid (tri1.out.ext ((Ext.refl W).alloc_right (.cells #[.string (tth l j).key, .int .i64 (tth l j).no] 83)))
  have hva := hid (heap_alloc_new W (.cells #[.string (tth l j).key, .int .i64 (tth l j).no] 83))
  have I1 : (fun w' : World => w'.cell? ⟨q, 0, none⟩ = some (.slice Aq lq.length cq) ∧ w'.cell? ⟨p, 0, none⟩ = some (.slice (some ad) l.length cl) ∧ w'.cell? (ad.add (j * 2)) = some (.string (tth l j).key) ∧ w'.cell? ⟨(ad.add (j * 2)).block, (ad.add (j * 2)).off + 1, none⟩ = some (.int .i64 (tth l j).no) ∧ w'.cell? ⟨r, 0, none⟩ = some (.slice Ar lr.length cr)) (W.alloc (.cells #[.string (tth l j).key, .int .i64 (tth l j).no] 83)) := ⟨((Ext.refl W).alloc_right _).cell I0.1, ((Ext.refl W).alloc_right _).cell I0.2.1, ((Ext.refl W).alloc_right _).cell I0.2.2.1, ((Ext.refl W).alloc_right _).cell I0.2.2.2.1, ((Ext.refl W).alloc_right _).cell I0.2.2.2.2⟩
  clear tri1
  generalize W.heap.size = va at *
  generalize W.alloc (.cells #[.string (tth l j).key, .int .i64 (tth l j).no] 83) = W1 at *
  obtain ⟨v1, W2, happ, ho1, hrw1⟩ := appN W1 52 _ lq.length (tents lq) tri2.out.o3 (some ⟨va, 0, none⟩) 1 1 [.string (tth l j).key, .int .i64 (tth l j).no] (rd_new hva.out) (tents_one [tth l j]) (by omega)
  have hr5 : Rd W2 2 Ar lr.length cr (tents lr) := Rd.of_own (own_ne tri2.out.o5 hrw1.1 (fun k e e2 => by have := tri2.out.nd k; rw [ob_some e, ob_some e2] at this; omega))
  obtain ⟨v', W3, happ2, ho', hrw2⟩ := appN W2 52 v1 (lq.length + 1) _ ho1 Ar lr.length cr (tents lr) hr5 (tents_one _) (by omega)
  have hI : ∀ V u, Rw (.slice Aq lq.length cq) u W1 V → (fun w' : World => w'.cell? ⟨q, 0, none⟩ = some (.slice Aq lq.length cq) ∧ w'.cell? ⟨p, 0, none⟩ = some (.slice (some ad) l.length cl) ∧ w'.cell? (ad.add (j * 2)) = some (.string (tth l j).key) ∧ w'.cell? ⟨(ad.add (j * 2)).block, (ad.add (j * 2)).off + 1, none⟩ = some (.int .i64 (tth l j).no) ∧ w'.cell? ⟨r, 0, none⟩ = some (.slice Ar lr.length cr)) V ∧ V.frozen? ⟨q, 0, none⟩ = false := fun V u hrw => by
    have hbq : V.heap[q]? = some (.cells #[.slice Aq lq.length cq, .slice Kq pq.length ckq] 55 (0, 0)) := (hrw.1.block q (Array.getElem?_eq_some_iff.1 tri2.out.hq).1 (fun e0 => by have := tri2.out.nd q; rw [ob_some e0.symm, one_self] at this; omega)).trans tri2.out.hq
    have hbp : V.heap[p]? = some (.cells #[(.slice (some ad) l.length cl), (.slice (some kad) ps.length kc)] 55 (0, 0)) := (hrw.1.block p (Array.getElem?_eq_some_iff.1 tri2.out.hp).1 (fun e0 => by have := tri2.out.nd p; rw [ob_some e0.symm, one_self] at this; omega)).trans tri2.out.hp
    have hbr : V.heap[r]? = some (.cells #[.slice Ar lr.length cr, .slice Kr pr.length ckr] 55 (0, 0)) := (hrw.1.block r (Array.getElem?_eq_some_iff.1 tri2.out.hr).1 (fun e0 => by have := tri2.out.nd r; rw [ob_some e0.symm, one_self] at this; omega)).trans tri2.out.hr
    have hE := hE1.out V (own_ne tri2.out.o1 hrw.1 (fun k e e2 => by have := tri2.out.nd k; rw [ob_some e, ob_some e2] at this; omega))
    exact ⟨⟨node_c0 hbq, node_c0 hbp, hE.1, hE.2, node_c0 hbr⟩, Lib.frozen_of_heap hbq 0⟩
  have hrw := hrw1.trans hrw2
  have tri3 : ∀ u, u = v' → Tri f w (W3.setCell ⟨q, 0, none⟩ u) p q r (.slice (some ad) l.length cl) (.slice (some kad) ps.length kc) u (.slice Kq pq.length ckq) (.slice Ar lr.length cr) (.slice Kr pr.length ckr) l.length ps.length (lq.length + 1 + lr.length) pq.length lr.length pr.length (tents l) (ptrs ps) (tents lq ++ [.string (tth l j).key, .int .i64 (tth l j).no] ++ tents lr) (ptrs pq) (tents lr) (ptrs pr) := fun u e => by rw [e]; exact (tri2.out.rot.rep0 hrw.1 ho' hrw.2).rot.rot
  replace tri3 := hid tri3
  have I2 := (hI W2 _ hrw1).1
  have I3 := (hI W3 _ hrw).1
  have hf2 := (hI W3 _ hrw).2
  have hr2 := I3.1
  obtain ⟨Av, cv, rfl, -⟩ := own_form ho'
  obtain ⟨Au, cu, rfl, -⟩ := own_form ho1
  replace happ := hid happ
  replace happ2 := hid happ2
  clear ho' ho1 hrw hrw1 hrw2 hr5 hI tri2 hva I0
  refine hK _ _ ⟨fun _ => I1, ?_⟩
  clear hK K
  try simp only [Act.put, lyA, lyB, lyC, lyD, lyE, lyF]
  refine J_one 13 rfl (by kernel_rfl) (fun K hK => ?_)
  refine step_run rfl _ (ex_append _ _ _ _ rfl _ _ (by simp [Act.eval, Act.put]) (by simp [Act.eval, Act.put]) _ happ.out) ?_
  refine hK _ _ ⟨fun _ => I2, ?_⟩
  clear hK K
  try simp only [Act.put, lyA, lyB, lyC, lyD, lyE, lyF]
  refine J_one 18 rfl (by kernel_rfl) (fun K hK => ?_)
  refine step_run rfl _ (ex_append _ _ _ _ rfl _ _ (by simp [Act.eval, Act.put]) (by simp [Act.eval, Act.put]) _ happ2.out) ?_
  refine hK _ _ ⟨fun _ => I3, ?_⟩
  clear hK K
  try simp only [Act.put, lyA, lyB, lyC, lyD, lyE, lyF]
  refine J_one 19 rfl (by kernel_rfl) (fun K hK => ?_)
  go_simp
  refine hK _ _ ⟨fun _ => I3, ?_⟩
  clear hK K
  try simp only [Act.put, lyD, lyE, lyF]
  refine J_one 20 rfl (by kernel_rfl) (fun K hK => ?_)
  go_simp
  refine hK _ _ ⟨fun _ => I3, ?_⟩
  clear hK K
  try simp only [Act.put, lyD, lyE, lyF]
  refine J_one 21 rfl (by kernel_rfl) (fun K hK => ?_)
  go_simp
  refine hK _ _ ⟨fun h => absurd rfl h, ?_⟩
  clear hK K
  refine J_done (by kernel_rfl) (OnlyOn.normal ?_)
  replace tri3 := hid (tri3.out _ rfl)
  rw [show (tents lq ++ [.string (tth l j).key, .int .i64 (tth l j).no] ++ tents lr) = tents (lq ++ tth l j :: lr) by rw [tents_append]; simp [tents, tcells]] at tri3
  clear I3 I2 I1 hr2 hf2 happ happ2
  generalize hlen : lq.length + 1 + lr.length = nq2 at *
  replace hlen := hid hlen
  generalize W3.setCell ⟨q, 0, none⟩ (.slice Av nq2 cv) = W3 at *
  go_upto_region 2 with fail
  have tri4 := hid (tri3.out.ext (Ext.refl W3).drew_right)
  have I0 : (fun w' : World => w'.cell? ⟨q, 1, none⟩ = some (.slice Kq pq.length ckq) ∧ w'.cell? ⟨r, 1, none⟩ = some (.slice Kr pr.length ckr)) W3.drew := ⟨node_c1 tri4.out.hq, node_c1 tri4.out.hr⟩
  refine region_J (fun w' : World => w'.cell? ⟨q, 1, none⟩ = some (.slice Kq pq.length ckq) ∧ w'.cell? ⟨r, 1, none⟩ = some (.slice Kr pr.length ckr)) 12 (by kernel_rfl) ?_
  clear tri3
  generalize W3.drew = W at *
  refine JT 0 (v := ?vb0) I0 ?yb0 ?rb0
  case yb0 => (intro w h; obtain ⟨_, _⟩ := h; go_simp; with_reducible rfl)
  simp only [Act.put, lyA, lyB, lyC, lyD, lyE, lyF]
  refine JT 1 (v := ?vb1) I0 ?yb1 ?rb1
  case yb1 => (intro w h; obtain ⟨_, _⟩ := h; go_simp; with_reducible rfl)
  simp only [Act.put, lyA, lyB, lyC, lyD, lyE, lyF]
  refine JT 2 (v := ?vb2) I0 ?yb2 ?rb2
  case yb2 => (intro w h; obtain ⟨_, _⟩ := h; go_simp; with_reducible rfl)
  simp only [Act.put, lyA, lyB, lyC, lyD, lyE, lyF]
  refine JT 3 (v := ?vb3) I0 ?yb3 ?rb3
  case yb3 => (intro w h; obtain ⟨_, _⟩ := h; go_simp; with_reducible rfl)
  simp only [Act.put, lyA, lyB, lyC, lyD, lyE, lyF]
  refine JT 4 (v := ?vb4) I0 ?yb4 ?rb4
  case yb4 => (intro w h; obtain ⟨_, _⟩ := h; go_simp; with_reducible rfl)
  simp only [Act.put, lyA, lyB, lyC, lyD, lyE, lyF]
  refine JT 5 (v := ?vb5) I0 ?yb5 ?rb5
  case yb5 => (intro w h; obtain ⟨_, _⟩ := h; go_simp; with_reducible rfl)
  simp only [Act.put, lyA, lyB, lyC, lyD, lyE, lyF]
  refine JT 6 (v := ?vb6) I0 ?yb6 ?rb6
  case yb6 => (intro w h; obtain ⟨_, _⟩ := h; go_simp; with_reducible rfl)
  simp only [Act.put, lyA, lyB, lyC, lyD, lyE, lyF]
  refine JT 7 (v := ?vb7) I0 ?yb7 ?rb7
  case yb7 => (intro w h; obtain ⟨_, _⟩ := h; go_simp; with_reducible rfl)
  simp only [Act.put, lyA, lyB, lyC, lyD, lyE, lyF]
  refine JT 8 (v := ?vb8) I0 ?yb8 ?rb8
  case yb8 => (intro w h; obtain ⟨_, _⟩ := h; go_simp; with_reducible rfl)
  simp only [Act.put, lyA, lyB, lyC, lyD, lyE, lyF]
  refine J_one 9 rfl (by kernel_rfl) (fun K hK => ?_)
  obtain ⟨v', W2, happ, ho', hrw⟩ := appK W 53 _ pq.length (ptrs pq) tri4.out.o4 Kr pr.length ckr (ptrs pr) (Rd.of_own tri4.out.o6) (ptrs_one _) (by omega)
  have tri5 : ∀ u, u = v' → Tri f w (W2.setCell ⟨q, 1, none⟩ u) p q r (.slice (some ad) l.length cl) (.slice (some kad) ps.length kc) (.slice Av nq2 cv) u (.slice Ar lr.length cr) (.slice Kr pr.length ckr) l.length ps.length nq2 (pq.length + pr.length) lr.length pr.length (tents l) (ptrs ps) (tents (lq ++ tth l j :: lr)) (ptrs (pq ++ pr)) (tents lr) (ptrs pr) := fun u e => by
    rw [e, ptrs_append]
    exact (tri4.out.rot.rep1 hrw.1 ho' hrw.2).rot.rot
  replace tri5 := hid tri5
  have hbq : W2.heap[q]? = some (.cells #[.slice Av nq2 cv, .slice Kq pq.length ckq] 55 (0, 0)) := (hrw.1.block q (Array.getElem?_eq_some_iff.1 tri4.out.hq).1 (fun e0 => by have := tri4.out.nd q; rw [ob_some e0.symm, one_self] at this; omega)).trans tri4.out.hq
  have hbr : W2.heap[r]? = some (.cells #[.slice Ar lr.length cr, .slice Kr pr.length ckr] 55 (0, 0)) := (hrw.1.block r (Array.getElem?_eq_some_iff.1 tri4.out.hr).1 (fun e0 => by have := tri4.out.nd r; rw [ob_some e0.symm, one_self] at this; omega)).trans tri4.out.hr
  have hr2 := node_c1 hbq
  have hf2 := Lib.frozen_of_heap hbq 1
  have I2 : (fun w' : World => w'.cell? ⟨q, 1, none⟩ = some (.slice Kq pq.length ckq) ∧ w'.cell? ⟨r, 1, none⟩ = some (.slice Kr pr.length ckr)) W2 := ⟨hr2, node_c1 hbr⟩
  obtain ⟨Aw, cw, rfl, -⟩ := own_form ho'
  replace happ := hid happ
  clear ho' hrw tri4 I0 hbr hbq
  refine step_run rfl _ (ex_append _ _ _ _ rfl _ _ (by simp [Act.eval, Act.put]) (by simp [Act.eval, Act.put]) _ happ.out) ?_
  refine hK _ _ ⟨fun _ => I2, ?_⟩
  clear hK K
  try simp only [Act.put, lyA, lyB, lyC, lyD, lyE, lyF]
  refine J_one 10 rfl (by kernel_rfl) (fun K hK => ?_)
  go_simp
  refine hK _ _ ⟨fun _ => I2, ?_⟩
  clear hK K
  try simp only [Act.put, lyD, lyE, lyF]
  refine J_one 11 rfl (by kernel_rfl) (fun K hK => ?_)
  go_simp
  refine hK _ _ ⟨fun _ => I2, ?_⟩
  clear hK K
  try simp only [Act.put, lyD, lyE, lyF]
  refine J_one 12 rfl (by kernel_rfl) (fun K hK => ?_)
  go_simp
  refine hK _ _ ⟨fun h => absurd rfl h, ?_⟩
  clear hK K
  refine J_done (by kernel_rfl) (OnlyOn.normal ?_)
  replace tri5 := hid (tri5.out _ rfl)
  clear I2 hr2 hf2 happ
  generalize hlen2 : pq.length + pr.length = nk2 at *
  replace hlen2 := hid hlen2
  generalize W2.setCell ⟨q, 1, none⟩ (.slice Aw nk2 cw) = W3 at *
  have x3 := node_c0 tri5.out.hp
  have lpX := (Array.getElem?_eq_some_iff.1 tri5.out.hp).1
  have hD := del_N l.length j _ (tents l) W3 hj (by omega) tri5.out.o1 (tents_one _)
  rw [← hi.out] at hD
  replace hD := hid hD
  go_wp2_with fail
  clear x3
  refine hD.out.mono ?_
  rintro e W7 ⟨v', rfl, ho', hrw⟩
  have tri6 : ∀ u, u = v' → Tri f w (W7.setCell ⟨p, 0, none⟩ u) p q r u (.slice (some kad) ps.length kc) (.slice Av nq2 cv) (.slice Aw nk2 cw) (.slice Ar lr.length cr) (.slice Kr pr.length ckr) (l.length - 1) ps.length nq2 nk2 lr.length pr.length (tents (l.take j ++ l.drop i)) (ptrs ps) (tents (lq ++ tth l j :: lr)) (ptrs (pq ++ pr)) (tents lr) (ptrs pr) := fun u e => by
    rw [e]
    have := tri5.out.rep0 hrw.1 ho' hrw.2
    rw [tents_take, tents_drop, ← tents_append] at this
    exact this
  replace tri6 := hid tri6
  have hbp : W7.heap[p]? = some (.cells #[(.slice (some ad) l.length cl), (.slice (some kad) ps.length kc)] 55 (0, 0)) := (hrw.1.block p (Array.getElem?_eq_some_iff.1 tri5.out.hp).1 (fun e0 => by have := tri5.out.nd p; rw [ob_some e0.symm, one_self] at this; omega)).trans tri5.out.hp
  have x3 := node_c0 hbp
  have x5 := Lib.frozen_of_heap hbp 0
  obtain ⟨Ay, cy, rfl, -⟩ := own_form ho'
  have x6 : (W7.setCell ⟨p, 0, none⟩ (.slice Ay (l.length - 1) cy)).cell? ⟨p, 1, none⟩ = some (.slice (some kad) ps.length kc) := set_keep (node_c1 hbp) (off_ne (by decide))
  have lp7 := (Array.getElem?_eq_some_iff.1 hbp).1
  replace tri6 := hid (tri6.out _ rfl)
  have hD2 := del_K ps.length i _ (ptrs ps) _ hip (by omega) tri6.out.o2 (ptrs_one _)
  rw [← ht.out] at hD2
  replace hD2 := hid hD2
  clear ho' hrw hbp tri5 hD
  go_wp2_with fail
  clear x3 x5 x6
  refine hD2.out.mono ?_
  rintro e W8 ⟨v', rfl, ho', hrw⟩
  have tri7 : ∀ u, u = v' → Tri f w (W8.setCell ⟨p, 1, none⟩ u) p q r (.slice Ay (l.length - 1) cy) u (.slice Av nq2 cv) (.slice Aw nk2 cw) (.slice Ar lr.length cr) (.slice Kr pr.length ckr) (l.length - 1) (ps.length - 1) nq2 nk2 lr.length pr.length (tents (l.take j ++ l.drop i)) (ptrs (ps.take i ++ ps.drop t)) (tents (lq ++ tth l j :: lr)) (ptrs (pq ++ pr)) (tents lr) (ptrs pr) := fun u e => by
    rw [e]
    have := tri6.out.rep1 hrw.1 ho' hrw.2
    rw [Nat.mul_one, Nat.mul_one, ptrs_take, ptrs_drop, ← ptrs_append] at this
    exact this
  replace tri7 := hid tri7
  have hbp : W8.heap[p]? = some (.cells #[.slice Ay (l.length - 1) cy, (.slice (some kad) ps.length kc)] 55 (0, 0)) := (hrw.1.block p (Array.getElem?_eq_some_iff.1 tri6.out.hp).1 (fun e0 => by have := tri6.out.nd p; rw [ob_some e0.symm, one_self] at this; omega)).trans tri6.out.hp
  have x3 := node_c1 hbp
  have x5 := Lib.frozen_of_heap hbp 1
  obtain ⟨Az, cz, rfl, -⟩ := own_form ho'
  clear ho' hrw hbp tri6 hD2
  go_wp2_with fail
  clear x3 x5
  replace tri7 := hid (tri7.out _ rfl)
  go_end0
  have e1 : l'.length = l.length - 1 := by rw [el.out, List.length_append, List.length_take, List.length_drop]; have := hi.out; omega
  have e2 : lq'.length = nq2 := by rw [eq.out, List.length_append, List.length_cons]; have := hlen.out; omega
  have e3 : ps'.length = ps.length - 1 := by rw [ep.out, List.length_append, List.length_take, List.length_drop]; have := ht.out; omega
  have e4 : pq'.length = nk2 := by rw [epq.out, List.length_append]; exact hlen2.out
  rw [e1, e2, e3, e4, el.out, eq.out, ep.out, epq.out]
  exact ⟨rfl, _, _, _, _, _, _, tri7.out⟩
open Go.RowKit Go.Shelf
theorem kth_some {ks : List BT} {i : Nat} (h : i < ks.length) : ks[i]? = some (kth ks i) := by rw [kth_get h, List.getElem?_eq_getElem h]
theorem Ks.two {R : Nat → BT → (Nat → Nat) → Prop} {j : Nat} {ps : List Nat} {ks : List BT} {g : Nat → Nat} (k : Ks R ps ks g) (hj : j + 1 < ks.length) :
    ∃ q r g0 g1 g2 g3, ps[j]? = some q ∧ ps[j + 1]? = some r ∧ R q (kth ks j) g1 ∧ R r (kth ks (j + 1)) g2 ∧ Ks R (ps.take j) (ks.take j) g0 ∧ Ks R (ps.drop (j + 2)) (ks.drop (j + 2)) g3 ∧ ∀ a, g a = g0 a + g1 a + g2 a + g3 a := by
  obtain ⟨q, g0, g1, g4, h1, h2, h3, h4, h5⟩ := k.cut (kth_some (show j < ks.length by omega))
  obtain ⟨r, z0, g2, g3, i1, i2, i3, i4, i5⟩ := h4.cut (i := 0) (K := kth ks (j + 1)) (by rw [List.getElem?_drop, Nat.add_zero]; exact kth_some hj)
  rw [List.getElem?_drop, Nat.add_zero] at i1
  rw [List.drop_drop, List.drop_drop] at i4
  refine ⟨q, r, g0, g1, g2, g3, h1, i1, h2, i2, h3, i4, fun a => ?_⟩
  have z : z0 a = 0 := i3 a
  rw [h5 a, i5 a, z]
  omega
def F9 (p q r : Nat) (lv kv lq kq lr kr : Value) (a : Nat) : Nat := one1 p a + ob lv a + ob kv a + one1 q a + ob lq a + ob kq a + one1 r a + ob lr a + ob kr a
structure Pair (w : World) (h p j : Nat) (l : List Te) (ks : List BT) (f : Nat → Nat) (q r : Nat) (lv kv vq kq vr kr : Value) (ps pq pr : List Nat) (gq gr g0 g3 : Nat → Nat) : Prop where
  tri : Tri (F9 p q r lv kv vq kq vr kr) w w p q r lv kv vq kq vr kr l.length ps.length (kth ks j).l.length pq.length (kth ks (j + 1)).l.length pr.length (tents l) (ptrs ps) (tents (kth ks j).l) (ptrs pq) (tents (kth ks (j + 1)).l) (ptrs pr)
  hq : ps[j]? = some q
  hr : ps[j + 1]? = some r
  dq : Kd w h pq (kth ks j).ks gq
  dr : Kd w h pr (kth ks (j + 1)).ks gr
  k0 : Ks (TN w h) (ps.take j) (ks.take j) g0
  k3 : Ks (TN w h) (ps.drop (j + 2)) (ks.drop (j + 2)) g3
  sum : ∀ a, f a = F9 p q r lv kv vq kq vr kr a + (gq a + gr a) + (g0 a + g3 a)
  n1 : ∀ a, f a ≤ 1
  pl : ps.length = ks.length
theorem TN.pair {w : World} {h p j : Nat} {l : List Te} {ks : List BT} {f : Nat → Nat} (hT : TN w (h + 1) p (.nd l ks) f) (hn : ∀ a, f a ≤ 1) (hj : j + 1 < ks.length) :
    ∃ q r lv kv vq kq vr kr ps pq pr gq gr g0 g3, Pair w h p j l ks f q r lv kv vq kq vr kr ps pq pr gq gr g0 g3 := by
  obtain ⟨lv, kv, ps, g, e1, e2, e3, e5, e4⟩ := hT
  obtain ⟨q, r, g0, g1, g2, g3, h1, h2, h3, h4, h5, h6, h7⟩ := e5.two hj
  rw [← nd_eta (kth ks j)] at h3
  rw [← nd_eta (kth ks (j + 1))] at h4
  obtain ⟨vq, kq, pq, gq, a1, a2, a3, a5, a4⟩ := h3.opn
  obtain ⟨vr, kr, pr, gr, b1, b2, b3, b5, b4⟩ := h4.opn
  have hs : ∀ a, f a = F9 p q r lv kv vq kq vr kr a + (gq a + gr a) + (g0 a + g3 a) := fun a => by
    rw [e4 a, h7 a, a4 a, b4 a]
    unfold F9
    omega
  refine ⟨q, r, lv, kv, vq, kq, vr, kr, ps, pq, pr, gq, gr, g0, g3, ⟨e1, a1, b1, e2, e3, a2, a3, b2, b3, fun a => ?_, FR.of_ext (Ext.refl w), fun a ha => Nat.le_refl _⟩, h1, h2, a5, b5, h5, h6, hs, hn, e5.len⟩
  have := hs a
  have := hn a
  unfold F9 at *
  omega
theorem Kd.app {w : World} {h : Nat} {ps qs : List Nat} {ks ms : List BT} {f g : Nat → Nat} (k : Kd w h ps ks f) (m : Kd w h qs ms g) : Kd w h (ps ++ qs) (ks ++ ms) (fun a => f a + g a) := by
  cases h with
  | zero =>
    obtain ⟨rfl, rfl, hf⟩ := k
    obtain ⟨rfl, rfl, hg⟩ := m
    exact ⟨rfl, rfl, fun a => by show f a + g a = 0; rw [hf a, hg a]⟩
  | succ h => exact Ks.app k m
section
variable {w w' : World} {h p j q r : Nat} {l : List Te} {ks : List BT} {f : Nat → Nat} {lv kv vq kq vr kr lv' kv' vq' kq' vr' kr' : Value} {ps pq pr ps' pq' pr' : List Nat} {gq gr g0 g3 gq' gr' : Nat → Nat} {L lq' lr' : List Te} {kq1 kr1 : List BT}
theorem Pair.two (P : Pair w h p j l ks f q r lv kv vq kq vr kr ps pq pr gq gr g0 g3)
    (T : Tri (F9 p q r lv kv vq kq vr kr) w w' p q r lv' kv' vq' kq' vr' kr' L.length ps.length lq'.length pq'.length lr'.length pr'.length (tents L) (ptrs ps) (tents lq') (ptrs pq') (tents lr') (ptrs pr'))
    (k1 : Kd w h pq' kq1 gq') (k2 : Kd w h pr' kr1 gr') (hk : ∀ a, gq' a + gr' a = gq a + gr a) : Turned w w' (h + 1) p f (.nd L (ks.take j ++ .nd lq' kq1 :: .nd lr' kr1 :: ks.drop (j + 2))) := by
  have b0 := Ks.bound (fun p T g h1 => TN.bound h1) P.k0
  have b3 := Ks.bound (fun p T g h1 => TN.bound h1) P.k3
  have b1 := k1.bound
  have b2 := k2.bound
  have z : ∀ a, 0 < gq' a + gr' a + g0 a + g3 a → F9 p q r lv kv vq kq vr kr a = 0 := fun a ha => by have := P.n1 a; have := P.sum a; have := hk a; omega
  have c0 := Ks.frame (fun _ _ _ h1 h2 => TN.frame T.fr h1 h2) P.k0 (fun a ha => z a (by omega))
  have c3 := Ks.frame (fun _ _ _ h1 h2 => TN.frame T.fr h1 h2) P.k3 (fun a ha => z a (by omega))
  have c1 := k1.frame T.fr (fun a ha => z a (by omega))
  have c2 := k2.frame T.fr (fun a ha => z a (by omega))
  have nq : TN w' h q (.nd lq' kq1) (fun a => one1 q a + ob vq' a + ob kq' a + gq' a) := TN.shut T.hq T.o3 T.o4 c1 (fun _ => rfl)
  have nr : TN w' h r (.nd lr' kr1) (fun a => one1 r a + ob vr' a + ob kr' a + gr' a) := TN.shut T.hr T.o5 T.o6 c2 (fun _ => rfl)
  have kr2 : Ks (TN w' h) (r :: ps.drop (j + 2)) (.nd lr' kr1 :: ks.drop (j + 2)) (fun a => (one1 r a + ob vr' a + ob kr' a + gr' a) + g3 a) := ⟨_, _, nr, c3, fun _ => rfl⟩
  have kall := Ks.mid c0 nq kr2
  obtain ⟨q1, q2⟩ := List.getElem?_eq_some_iff.1 P.hq
  obtain ⟨r1, r2⟩ := List.getElem?_eq_some_iff.1 P.hr
  have hps : ps.take j ++ q :: r :: ps.drop (j + 2) = ps := by
    have e1 := list_cut (l := ps) (i := j) q1
    rw [q2, List.drop_eq_getElem_cons r1, r2] at e1
    exact e1.symm
  rw [hps] at kall
  refine ⟨_, TN.shut T.hp T.o1 T.o2 kall (fun _ => rfl), fun a => ?_, fun a ha => ?_, T.fr.mono (fun k hk' h0 => by have := P.sum k; omega)⟩
  · by_cases hs : a < w.heap.size
    · have h1 := T.le a hs
      have h2 := P.n1 a
      have h3 := P.sum a
      have h4 := hk a
      show one1 p a + ob lv' a + ob kv' a + (g0 a + (one1 q a + ob vq' a + ob kq' a + gq' a) + (one1 r a + ob vr' a + ob kr' a + gr' a + g3 a)) ≤ 1
      omega
    · have h1 := T.nd a
      have h2 := b0 a (by omega)
      have h3 := b1 a (by omega)
      have h4 := b2 a (by omega)
      have h5 := b3 a (by omega)
      show one1 p a + ob lv' a + ob kv' a + (g0 a + (one1 q a + ob vq' a + ob kq' a + gq' a) + (one1 r a + ob vr' a + ob kr' a + gr' a + g3 a)) ≤ 1
      omega
  · have h1 := T.le a ha
    have h3 := P.sum a
    have h4 := hk a
    show one1 p a + ob lv' a + ob kv' a + (g0 a + (one1 q a + ob vq' a + ob kq' a + gq' a) + (one1 r a + ob vr' a + ob kr' a + gr' a + g3 a)) ≤ f a
    omega
theorem Pair.one (P : Pair w h p j l ks f q r lv kv vq kq vr kr ps pq pr gq gr g0 g3)
    (T : Tri (F9 p q r lv kv vq kq vr kr) w w' p q r lv' kv' vq' kq' vr' kr' L.length ps'.length lq'.length pq'.length lr'.length pr'.length (tents L) (ptrs ps') (tents lq') (ptrs pq') (tents lr') (ptrs pr'))
    (hps' : ps' = ps.take (j + 1) ++ ps.drop (j + 2))
    (k1 : Kd w h pq' kq1 gq') (hk : ∀ a, gq' a = gq a + gr a) : Turned w w' (h + 1) p f (.nd L (ks.take j ++ .nd lq' kq1 :: ks.drop (j + 2))) := by
  have b0 := Ks.bound (fun p T g h1 => TN.bound h1) P.k0
  have b3 := Ks.bound (fun p T g h1 => TN.bound h1) P.k3
  have b1 := k1.bound
  have z : ∀ a, 0 < gq' a + g0 a + g3 a → F9 p q r lv kv vq kq vr kr a = 0 := fun a ha => by have := P.n1 a; have := P.sum a; have := hk a; omega
  have c0 := Ks.frame (fun _ _ _ h1 h2 => TN.frame T.fr h1 h2) P.k0 (fun a ha => z a (by omega))
  have c3 := Ks.frame (fun _ _ _ h1 h2 => TN.frame T.fr h1 h2) P.k3 (fun a ha => z a (by omega))
  have c1 := k1.frame T.fr (fun a ha => z a (by omega))
  have nq : TN w' h q (.nd lq' kq1) (fun a => one1 q a + ob vq' a + ob kq' a + gq' a) := TN.shut T.hq T.o3 T.o4 c1 (fun _ => rfl)
  have kall := Ks.mid c0 nq c3
  obtain ⟨q1, q2⟩ := List.getElem?_eq_some_iff.1 P.hq
  have hps : ps.take j ++ q :: ps.drop (j + 2) = ps' := by
    rw [hps', List.take_add_one, P.hq]
    simp
  rw [hps] at kall
  refine ⟨_, TN.shut T.hp T.o1 T.o2 kall (fun _ => rfl), fun a => ?_, fun a ha => ?_, T.fr.mono (fun k hk' h0 => by have := P.sum k; omega)⟩
  · by_cases hs : a < w.heap.size
    · have h1 := T.le a hs
      have h2 := P.n1 a
      have h3 := P.sum a
      have h4 := hk a
      show one1 p a + ob lv' a + ob kv' a + (g0 a + (one1 q a + ob vq' a + ob kq' a + gq' a) + g3 a) ≤ 1
      omega
    · have h1 := T.nd a
      have h2 := b0 a (by omega)
      have h3 := b1 a (by omega)
      have h5 := b3 a (by omega)
      show one1 p a + ob lv' a + ob kv' a + (g0 a + (one1 q a + ob vq' a + ob kq' a + gq' a) + g3 a) ≤ 1
      omega
  · have h1 := T.le a ha
    have h3 := P.sum a
    have h4 := hk a
    show one1 p a + ob lv' a + ob kv' a + (g0 a + (one1 q a + ob vq' a + ob kq' a + gq' a) + g3 a) ≤ f a
    omega
end
theorem Shp.kn {h : Nat} {K : BT} (hs : Shp h K) : K.ks.length = 0 ∨ K.ks.length = K.l.length + 1 := by
  obtain ⟨l, ks⟩ := K
  cases h with
  | zero => left; have : ks = [] := hs; rw [this]; rfl
  | succ h => exact .inr hs.1
section
variable {w : World} {h p i j : Nat} {l : List Te} {ks : List BT} {f : Nat → Nat}
theorem left_T (hT : TN w (h + 1) p (.nd l ks) f) (hn : ∀ a, f a ≤ 1) (hkl : ks.length = l.length + 1) (hl : l.length ≤ 4) (hi : i = j + 1) (hj : j < l.length) (s1 : Shp h (kth ks j)) (s2 : Shp h (kth ks i)) (n1 : 1 ≤ (kth ks j).l.length) (n2 : (kth ks j).l.length ≤ 4) (n3 : (kth ks i).l.length ≤ 4) :
    Calls Tryz.prog 93 #[.pointer (some ⟨p, 0, none⟩), .int .i64 i] w fun e w' => e = .returned (.tuple #[]) ∧ Turned w w' (h + 1) p f (leftT l ks j) := by
  subst hi
  obtain ⟨q, r, lv, kv, vq, kq, vr, kr, ps, pq, pr, gq, gr, g0, g3, P⟩ := hT.pair hn (j := j) (by omega)
  have hpl := P.pl
  have hpq := P.dq.len
  have hpr := P.dr.len
  have kq' := s1.kn
  have kr' := s2.kn
  obtain ⟨m, hm⟩ : ∃ m, (kth ks j).l.length = m + 1 := ⟨(kth ks j).l.length - 1, by omega⟩
  have T := P.tri
  rw [hm] at T
  have ept : pq.take (m + 1) = pq.take (pq.length - 1) := by
    rcases kq' with h0 | h0
    · rw [List.eq_nil_of_length_eq_zero (hpq.trans h0)]; simp
    · rw [show pq.length - 1 = m + 1 by omega]
  have epd : pq.drop (m + 1) = pq.drop (pq.length - 1) := by
    rcases kq' with h0 | h0
    · rw [List.eq_nil_of_length_eq_zero (hpq.trans h0)]; simp
    · rw [show pq.length - 1 = m + 1 by omega]
  refine (left_any _ p q r (j + 1) j m l (kth ks j).l (kth ks (j + 1)).l ps pq pr lv kv vq kq vr kr w T P.hq P.hr rfl hj hm (by omega) (by omega) (by omega) (by omega) (by omega) (by omega) _ _ _ _ _ rfl rfl rfl rfl rfl).mono ?_
  rintro e w' ⟨rfl, lv', kv', vq', kq1, vr', kr1, T'⟩
  refine ⟨rfl, ?_⟩
  obtain ⟨g1, g2, m1, m2, m3⟩ := P.dq.parts (m := pq.length - 1)
  rw [ept, epd] at T'
  have := P.two (kq1 := (kth ks j).ks.take (pq.length - 1)) (kr1 := (kth ks j).ks.drop (pq.length - 1) ++ (kth ks (j + 1)).ks) T' m1 (m2.app P.dr) (fun a => by show g1 a + (g2 a + gr a) = gq a + gr a; rw [m3 a]; omega)
  rw [setC_cut hj] at this
  unfold leftT
  rw [show (kth ks j).ks.length - 1 = pq.length - 1 by omega, show (kth ks j).l.length - 1 = m by omega]
  exact this
theorem right_T (hT : TN w (h + 1) p (.nd l ks) f) (hn : ∀ a, f a ≤ 1) (hkl : ks.length = l.length + 1) (hl : l.length ≤ 4) (hj : j < l.length) (s1 : Shp h (kth ks j)) (s2 : Shp h (kth ks (j + 1))) (n1 : 1 ≤ (kth ks (j + 1)).l.length) (n2 : (kth ks j).l.length ≤ 4) (n3 : (kth ks (j + 1)).l.length ≤ 4) :
    Calls Tryz.prog 94 #[.pointer (some ⟨p, 0, none⟩), .int .i64 j] w fun e w' => e = .returned (.tuple #[]) ∧ Turned w w' (h + 1) p f (rightT l ks j) := by
  obtain ⟨q, r, lv, kv, vq, kq, vr, kr, ps, pq, pr, gq, gr, g0, g3, P⟩ := hT.pair hn (j := j) (by omega)
  have hpl := P.pl
  have hpq := P.dq.len
  have hpr := P.dr.len
  have kq' := s1.kn
  have kr' := s2.kn
  obtain ⟨m, hm⟩ : ∃ m, (kth ks (j + 1)).l.length = m + 1 := ⟨(kth ks (j + 1)).l.length - 1, by omega⟩
  have T := P.tri
  rw [hm] at T
  refine (right_any _ p q r (j + 1) j m l (kth ks j).l (kth ks (j + 1)).l ps pq pr lv kv vq kq vr kr w T P.hq P.hr rfl hj hm (by omega) (by omega) (by omega) (by omega) (by omega) (by omega) _ _ _ _ _ rfl rfl rfl rfl rfl).mono ?_
  rintro e w' ⟨rfl, lv', kv', vq', kq1, vr', kr1, T'⟩
  refine ⟨rfl, ?_⟩
  obtain ⟨g1, g2, m1, m2, m3⟩ := P.dr.parts (m := 1)
  have := P.two (kq1 := (kth ks j).ks ++ (kth ks (j + 1)).ks.take 1) (kr1 := (kth ks (j + 1)).ks.drop 1) T' (P.dq.app m1) m2 (fun a => by show gq a + g1 a + g2 a = gq a + gr a; rw [m3 a]; omega)
  rw [setC_cut hj] at this
  exact this
theorem join_T (hT : TN w (h + 1) p (.nd l ks) f) (hn : ∀ a, f a ≤ 1) (hkl : ks.length = l.length + 1) (hl : l.length ≤ 4) (hj : j < l.length) (s1 : Shp h (kth ks j)) (s2 : Shp h (kth ks (j + 1))) (n2 : (kth ks j).l.length ≤ 4) (n3 : (kth ks (j + 1)).l.length ≤ 4) :
    Calls Tryz.prog 95 #[.pointer (some ⟨p, 0, none⟩), .int .i64 j] w fun e w' => e = .returned (.tuple #[]) ∧ Turned w w' (h + 1) p f (joinT l ks j) := by
  obtain ⟨q, r, lv, kv, vq, kq, vr, kr, ps, pq, pr, gq, gr, g0, g3, P⟩ := hT.pair hn (j := j) (by omega)
  have hpl := P.pl
  have hpq := P.dq.len
  have hpr := P.dr.len
  have kq' := s1.kn
  have kr' := s2.kn
  refine (join_any _ p q r (j + 1) j (j + 2) l (kth ks j).l (kth ks (j + 1)).l ps pq pr lv kv vq kq vr kr w P.tri P.hq P.hr rfl rfl hj (by omega) (by omega) (by omega) (by omega) (by omega) (by omega) _ _ _ _ rfl rfl rfl rfl).mono ?_
  rintro e w' ⟨rfl, lv', kv', vq', kq1, vr', kr1, T'⟩
  refine ⟨rfl, ?_⟩
  exact P.one (kq1 := (kth ks j).ks ++ (kth ks (j + 1)).ks) T' rfl (P.dq.app P.dr) (fun _ => rfl)
end
open Go.RowKit Go.Shelf
theorem kid_cells {w : World} {h p : Nat} {l : List Te} {ks : List BT} {f : Nat → Nat} (hT : TN w (h + 1) p (.nd l ks) f) (h0 : 0 < ks.length) : ∃ A c kad kc, w.cell? ⟨p, 0, none⟩ = some (.slice A l.length c) ∧ w.cell? ⟨p, 1, none⟩ = some (.slice (some kad) ks.length kc) ∧ ks.length ≤ kc ∧ kc ≤ 9223372036854775807 ∧ ∀ k, k < ks.length → ∃ q A c, w.cell? (kad.add k) = some (.pointer (some ⟨q, 0, none⟩)) ∧ w.cell? ⟨q, 0, none⟩ = some (.slice A (kth ks k).l.length c) ∧ q < w.heap.size := by
  obtain ⟨lv, kv, ps, g, e1, e2, e3, e5, e4⟩ := hT
  have hl := e5.len
  obtain ⟨A, c, rfl, hr⟩ := own_rd e2
  obtain ⟨kA, kc, rfl, hkr⟩ := own_rd e3
  obtain ⟨kad, rfl, -⟩ := hkr.2.2.2 (by omega)
  have hm := Rd.max hkr
  refine ⟨A, c, kad, kc, node_c0 e1, by rw [← hl]; exact node_c1 e1, by omega, by omega, fun k hk => ?_⟩
  obtain ⟨q, g0, g1, g2, hq, hK, -⟩ := e5.cut (kth_some hk)
  rw [← nd_eta (kth ks k)] at hK
  obtain ⟨A', c', kA', kn, kc', z0, -⟩ := hK.cells
  have lq := World.block_lt_of_cell? _ _ z0
  exact ⟨q, A', c', rd_ptr hkr hq, z0, lq⟩
theorem fill_A (p q i L N n c kc cq : Nat) (A Aq : Option Addr) (kad : Addr) (w : World) (z0 : w.cell? ⟨p, 0, none⟩ = some (.slice A L c)) (z1 : w.cell? ⟨p, 1, none⟩ = some (.slice (some kad) N kc)) (y0 : w.cell? (kad.add i) = some (.pointer (some ⟨q, 0, none⟩))) (y1 : w.cell? ⟨q, 0, none⟩ = some (.slice Aq n cq)) (lq : q < w.heap.size) (hi : i < N) (hN : N ≤ 10) (hL : L ≤ 10) (hn : n ≤ 10) (h2 : 2 ≤ n) :
    Calls Tryz.prog 72 #[.pointer (some ⟨p, 0, none⟩), .int .i64 i] w (fun e w' => e = .returned (.tuple #[]) ∧ w = w') := by
  have lp := World.block_lt_of_cell? _ _ z0
  dsimp only at lp
  have hiN : (i : Int) < (N : Int) := by omega
  have f1 : (2 : Int) ≤ (n : Int) := by omega
  go_enter Tryz.func72, Tryz.ntmps72
  go_wp2_with fail
  refine bodyPost_ret (results_none rfl _ _ _) rfl ?_
  exact ⟨rfl, rfl⟩
theorem fill_B (p q i L N n c kc cq : Nat) (A Aq : Option Addr) (kad : Addr) (w : World) (z0 : w.cell? ⟨p, 0, none⟩ = some (.slice A L c)) (z1 : w.cell? ⟨p, 1, none⟩ = some (.slice (some kad) N kc)) (y0 : w.cell? (kad.add i) = some (.pointer (some ⟨q, 0, none⟩))) (y1 : w.cell? ⟨q, 0, none⟩ = some (.slice Aq n cq)) (lq : q < w.heap.size) (hi : i < N) (hN : N ≤ 10) (hL : L ≤ 10) (hn : n ≤ 10) (q1 j n1 c1 : Nat) (A1 : Option Addr) (hj : i = j + 1) (x0 : w.cell? (kad.add j) = some (.pointer (some ⟨q1, 0, none⟩))) (x1 : w.cell? ⟨q1, 0, none⟩ = some (.slice A1 n1 c1)) (lq1 : q1 < w.heap.size) (hn1 : n1 ≤ 10) (h2 : n < 2) (h3 : 2 < n1) (P : World → Prop) (hC : Calls Tryz.prog 93 #[.pointer (some ⟨p, 0, none⟩), .int .i64 i] w (fun e w' => e = .returned (.tuple #[]) ∧ P w')) :
    Calls Tryz.prog 72 #[.pointer (some ⟨p, 0, none⟩), .int .i64 i] w (fun e w' => e = .returned (.tuple #[]) ∧ P w') := by
  have lp := World.block_lt_of_cell? _ _ z0
  dsimp only at lp
  have hiN : (i : Int) < (N : Int) := by omega
  have j1 : IntKind.i64.wrap ((i : Int) - 1) = (j : Int) := by rw [IntWalk.i64_in _ (by omega)]; omega
  have j2 : ((i : Int) - 1) = (j : Int) := by omega
  have j3 : (j : Int) < (N : Int) := by omega
  have j4 : j < N := by omega
  have j5 : (0 : Int) < (i : Int) := by omega
  have f1 : ¬ (2 : Int) ≤ (n : Int) := by omega
  have f2 : (2 : Int) < (n1 : Int) := by omega
  replace hj := hid hj
  replace hC := hid hC
  go_enter Tryz.func72, Tryz.ntmps72
  go_wp2_with fail
  refine hC.out.mono ?_
  rintro e w' ⟨rfl, hP⟩
  clear hC
  go_wp2_with fail
  go_end0
  exact ⟨rfl, hP⟩
theorem fill_C0 (p q i L N n c kc cq : Nat) (A Aq : Option Addr) (kad : Addr) (w : World) (z0 : w.cell? ⟨p, 0, none⟩ = some (.slice A L c)) (z1 : w.cell? ⟨p, 1, none⟩ = some (.slice (some kad) N kc)) (y0 : w.cell? (kad.add i) = some (.pointer (some ⟨q, 0, none⟩))) (y1 : w.cell? ⟨q, 0, none⟩ = some (.slice Aq n cq)) (lq : q < w.heap.size) (hi : i < N) (hN : N ≤ 10) (hL : L ≤ 10) (hn : n ≤ 10) (q2 k n2 c2 : Nat) (A2 : Option Addr) (hk : k = i + 1) (hkN : k < N) (u0 : w.cell? (kad.add k) = some (.pointer (some ⟨q2, 0, none⟩))) (u1 : w.cell? ⟨q2, 0, none⟩ = some (.slice A2 n2 c2)) (lq2 : q2 < w.heap.size) (hn2 : n2 ≤ 10) (h2 : n < 2) (h0 : i = 0) (h1 : i < L) (h3 : 2 < n2) (P : World → Prop) (hC : Calls Tryz.prog 94 #[.pointer (some ⟨p, 0, none⟩), .int .i64 i] w (fun e w' => e = .returned (.tuple #[]) ∧ P w')) :
    Calls Tryz.prog 72 #[.pointer (some ⟨p, 0, none⟩), .int .i64 i] w (fun e w' => e = .returned (.tuple #[]) ∧ P w') := by
  have lp := World.block_lt_of_cell? _ _ z0
  dsimp only at lp
  have hiN : (i : Int) < (N : Int) := by omega
  have k1 : IntKind.i64.wrap ((i : Int) + 1) = (k : Int) := by rw [IntWalk.i64_in _ (by omega)]; omega
  have k2 : ((i : Int) + 1) = (k : Int) := by omega
  have k3 : (k : Int) < (N : Int) := by omega
  have f1 : ¬ (2 : Int) ≤ (n : Int) := by omega
  have f0 : ¬ (0 : Int) < (i : Int) := by omega
  have f2 : (i : Int) < (L : Int) := by omega
  have f3 : (2 : Int) < (n2 : Int) := by omega
  replace hk := hid hk
  replace h0 := hid h0
  replace hC := hid hC
  go_enter Tryz.func72, Tryz.ntmps72
  go_wp2_with fail
  refine hC.out.mono ?_
  rintro e w' ⟨rfl, hP⟩
  clear hC
  go_wp2_with fail
  go_end0
  exact ⟨rfl, hP⟩
theorem fill_C1 (p q i L N n c kc cq : Nat) (A Aq : Option Addr) (kad : Addr) (w : World) (z0 : w.cell? ⟨p, 0, none⟩ = some (.slice A L c)) (z1 : w.cell? ⟨p, 1, none⟩ = some (.slice (some kad) N kc)) (y0 : w.cell? (kad.add i) = some (.pointer (some ⟨q, 0, none⟩))) (y1 : w.cell? ⟨q, 0, none⟩ = some (.slice Aq n cq)) (lq : q < w.heap.size) (hi : i < N) (hN : N ≤ 10) (hL : L ≤ 10) (hn : n ≤ 10) (q1 j n1 c1 : Nat) (A1 : Option Addr) (hj : i = j + 1) (x0 : w.cell? (kad.add j) = some (.pointer (some ⟨q1, 0, none⟩))) (x1 : w.cell? ⟨q1, 0, none⟩ = some (.slice A1 n1 c1)) (lq1 : q1 < w.heap.size) (hn1 : n1 ≤ 10) (q2 k n2 c2 : Nat) (A2 : Option Addr) (hk : k = i + 1) (hkN : k < N) (u0 : w.cell? (kad.add k) = some (.pointer (some ⟨q2, 0, none⟩))) (u1 : w.cell? ⟨q2, 0, none⟩ = some (.slice A2 n2 c2)) (lq2 : q2 < w.heap.size) (hn2 : n2 ≤ 10) (h2 : n < 2) (h4 : n1 ≤ 2) (h1 : i < L) (h3 : 2 < n2) (P : World → Prop) (hC : Calls Tryz.prog 94 #[.pointer (some ⟨p, 0, none⟩), .int .i64 i] w (fun e w' => e = .returned (.tuple #[]) ∧ P w')) :
    Calls Tryz.prog 72 #[.pointer (some ⟨p, 0, none⟩), .int .i64 i] w (fun e w' => e = .returned (.tuple #[]) ∧ P w') := by
  have lp := World.block_lt_of_cell? _ _ z0
  dsimp only at lp
  have hiN : (i : Int) < (N : Int) := by omega
  have j1 : IntKind.i64.wrap ((i : Int) - 1) = (j : Int) := by rw [IntWalk.i64_in _ (by omega)]; omega
  have j2 : ((i : Int) - 1) = (j : Int) := by omega
  have j3 : (j : Int) < (N : Int) := by omega
  have j4 : j < N := by omega
  have j5 : (0 : Int) < (i : Int) := by omega
  have k1 : IntKind.i64.wrap ((i : Int) + 1) = (k : Int) := by rw [IntWalk.i64_in _ (by omega)]; omega
  have k2 : ((i : Int) + 1) = (k : Int) := by omega
  have k3 : (k : Int) < (N : Int) := by omega
  have f1 : ¬ (2 : Int) ≤ (n : Int) := by omega
  have f4 : ¬ (2 : Int) < (n1 : Int) := by omega
  have f2 : (i : Int) < (L : Int) := by omega
  have f3 : (2 : Int) < (n2 : Int) := by omega
  replace hj := hid hj
  replace hk := hid hk
  replace hC := hid hC
  go_enter Tryz.func72, Tryz.ntmps72
  go_wp2_with fail
  refine hC.out.mono ?_
  rintro e w' ⟨rfl, hP⟩
  clear hC
  go_wp2_with fail
  go_end0
  exact ⟨rfl, hP⟩
theorem fill_D0 (p q i L N n c kc cq : Nat) (A Aq : Option Addr) (kad : Addr) (w : World) (z0 : w.cell? ⟨p, 0, none⟩ = some (.slice A L c)) (z1 : w.cell? ⟨p, 1, none⟩ = some (.slice (some kad) N kc)) (y0 : w.cell? (kad.add i) = some (.pointer (some ⟨q, 0, none⟩))) (y1 : w.cell? ⟨q, 0, none⟩ = some (.slice Aq n cq)) (lq : q < w.heap.size) (hi : i < N) (hN : N ≤ 10) (hL : L ≤ 10) (hn : n ≤ 10) (q1 j n1 c1 : Nat) (A1 : Option Addr) (hj : i = j + 1) (x0 : w.cell? (kad.add j) = some (.pointer (some ⟨q1, 0, none⟩))) (x1 : w.cell? ⟨q1, 0, none⟩ = some (.slice A1 n1 c1)) (lq1 : q1 < w.heap.size) (hn1 : n1 ≤ 10) (h2 : n < 2) (h4 : n1 ≤ 2) (h1 : ¬ i < L) (P : World → Prop) (hC : Calls Tryz.prog 95 #[.pointer (some ⟨p, 0, none⟩), .int .i64 j] w (fun e w' => e = .returned (.tuple #[]) ∧ P w')) :
    Calls Tryz.prog 72 #[.pointer (some ⟨p, 0, none⟩), .int .i64 i] w (fun e w' => e = .returned (.tuple #[]) ∧ P w') := by
  have lp := World.block_lt_of_cell? _ _ z0
  dsimp only at lp
  have hiN : (i : Int) < (N : Int) := by omega
  have j1 : IntKind.i64.wrap ((i : Int) - 1) = (j : Int) := by rw [IntWalk.i64_in _ (by omega)]; omega
  have j2 : ((i : Int) - 1) = (j : Int) := by omega
  have j3 : (j : Int) < (N : Int) := by omega
  have j4 : j < N := by omega
  have j5 : (0 : Int) < (i : Int) := by omega
  have f1 : ¬ (2 : Int) ≤ (n : Int) := by omega
  have f4 : ¬ (2 : Int) < (n1 : Int) := by omega
  have f2 : ¬ (i : Int) < (L : Int) := by omega
  replace hj := hid hj
  replace hC := hid hC
  go_enter Tryz.func72, Tryz.ntmps72
  go_wp2_with fail
  refine hC.out.mono ?_
  rintro e w' ⟨rfl, hP⟩
  clear hC
  go_wp2_with fail
  go_end0
  exact ⟨rfl, hP⟩
theorem fill_D1 (p q i L N n c kc cq : Nat) (A Aq : Option Addr) (kad : Addr) (w : World) (z0 : w.cell? ⟨p, 0, none⟩ = some (.slice A L c)) (z1 : w.cell? ⟨p, 1, none⟩ = some (.slice (some kad) N kc)) (y0 : w.cell? (kad.add i) = some (.pointer (some ⟨q, 0, none⟩))) (y1 : w.cell? ⟨q, 0, none⟩ = some (.slice Aq n cq)) (lq : q < w.heap.size) (hi : i < N) (hN : N ≤ 10) (hL : L ≤ 10) (hn : n ≤ 10) (q1 j n1 c1 : Nat) (A1 : Option Addr) (hj : i = j + 1) (x0 : w.cell? (kad.add j) = some (.pointer (some ⟨q1, 0, none⟩))) (x1 : w.cell? ⟨q1, 0, none⟩ = some (.slice A1 n1 c1)) (lq1 : q1 < w.heap.size) (hn1 : n1 ≤ 10) (q2 k n2 c2 : Nat) (A2 : Option Addr) (hk : k = i + 1) (hkN : k < N) (u0 : w.cell? (kad.add k) = some (.pointer (some ⟨q2, 0, none⟩))) (u1 : w.cell? ⟨q2, 0, none⟩ = some (.slice A2 n2 c2)) (lq2 : q2 < w.heap.size) (hn2 : n2 ≤ 10) (h2 : n < 2) (h4 : n1 ≤ 2) (h1 : i < L) (h3 : n2 ≤ 2) (P : World → Prop) (hC : Calls Tryz.prog 95 #[.pointer (some ⟨p, 0, none⟩), .int .i64 j] w (fun e w' => e = .returned (.tuple #[]) ∧ P w')) :
    Calls Tryz.prog 72 #[.pointer (some ⟨p, 0, none⟩), .int .i64 i] w (fun e w' => e = .returned (.tuple #[]) ∧ P w') := by
  have lp := World.block_lt_of_cell? _ _ z0
  dsimp only at lp
  have hiN : (i : Int) < (N : Int) := by omega
  have j1 : IntKind.i64.wrap ((i : Int) - 1) = (j : Int) := by rw [IntWalk.i64_in _ (by omega)]; omega
  have j2 : ((i : Int) - 1) = (j : Int) := by omega
  have j3 : (j : Int) < (N : Int) := by omega
  have j4 : j < N := by omega
  have j5 : (0 : Int) < (i : Int) := by omega
  have k1 : IntKind.i64.wrap ((i : Int) + 1) = (k : Int) := by rw [IntWalk.i64_in _ (by omega)]; omega
  have k2 : ((i : Int) + 1) = (k : Int) := by omega
  have k3 : (k : Int) < (N : Int) := by omega
  have f1 : ¬ (2 : Int) ≤ (n : Int) := by omega
  have f4 : ¬ (2 : Int) < (n1 : Int) := by omega
  have f2 : (i : Int) < (L : Int) := by omega
  have f3 : ¬ (2 : Int) < (n2 : Int) := by omega
  replace hj := hid hj
  replace hk := hid hk
  replace hC := hid hC
  go_enter Tryz.func72, Tryz.ntmps72
  go_wp2_with fail
  refine hC.out.mono ?_
  rintro e w' ⟨rfl, hP⟩
  clear hC
  go_wp2_with fail
  go_end0
  exact ⟨rfl, hP⟩
theorem fill_E (p q i L N n c kc cq : Nat) (A Aq : Option Addr) (kad : Addr) (w : World) (z0 : w.cell? ⟨p, 0, none⟩ = some (.slice A L c)) (z1 : w.cell? ⟨p, 1, none⟩ = some (.slice (some kad) N kc)) (y0 : w.cell? (kad.add i) = some (.pointer (some ⟨q, 0, none⟩))) (y1 : w.cell? ⟨q, 0, none⟩ = some (.slice Aq n cq)) (lq : q < w.heap.size) (hi : i < N) (hN : N ≤ 10) (hL : L ≤ 10) (hn : n ≤ 10) (q2 k n2 c2 : Nat) (A2 : Option Addr) (hk : k = i + 1) (hkN : k < N) (u0 : w.cell? (kad.add k) = some (.pointer (some ⟨q2, 0, none⟩))) (u1 : w.cell? ⟨q2, 0, none⟩ = some (.slice A2 n2 c2)) (lq2 : q2 < w.heap.size) (hn2 : n2 ≤ 10) (h2 : n < 2) (h0 : i = 0) (h1 : i < L) (h3 : n2 ≤ 2) (P : World → Prop) (hC : Calls Tryz.prog 95 #[.pointer (some ⟨p, 0, none⟩), .int .i64 i] w (fun e w' => e = .returned (.tuple #[]) ∧ P w')) :
    Calls Tryz.prog 72 #[.pointer (some ⟨p, 0, none⟩), .int .i64 i] w (fun e w' => e = .returned (.tuple #[]) ∧ P w') := by
  have lp := World.block_lt_of_cell? _ _ z0
  dsimp only at lp
  have hiN : (i : Int) < (N : Int) := by omega
  have k1 : IntKind.i64.wrap ((i : Int) + 1) = (k : Int) := by rw [IntWalk.i64_in _ (by omega)]; omega
  have k2 : ((i : Int) + 1) = (k : Int) := by omega
  have k3 : (k : Int) < (N : Int) := by omega
  have f1 : ¬ (2 : Int) ≤ (n : Int) := by omega
  have f0 : ¬ (0 : Int) < (i : Int) := by omega
  have f2 : (i : Int) < (L : Int) := by omega
  have f3 : ¬ (2 : Int) < (n2 : Int) := by omega
  replace hk := hid hk
  replace h0 := hid h0
  replace hC := hid hC
  go_enter Tryz.func72, Tryz.ntmps72
  go_wp2_with fail
  refine hC.out.mono ?_
  rintro e w' ⟨rfl, hP⟩
  clear hC
  go_wp2_with fail
  go_end0
  exact ⟨rfl, hP⟩
theorem fill_any (h p i : Nat) (l : List Te) (ks : List BT) (f : Nat → Nat) (w : World) (hT : TN w (h + 1) p (.nd l ks) f) (hn : ∀ a, f a ≤ 1) (hN : Near h l ks i) (hl4 : l.length ≤ 4) :
    Calls Tryz.prog 72 #[.pointer (some ⟨p, 0, none⟩), .int .i64 i] w fun e w' => e = .returned (.tuple #[]) ∧ Turned w w' (h + 1) p f (fillT l ks i) := by
  have hkl := hN.len
  have hle := hN.le
  have n1 := hN.n1
  have hi3 := hN.it
  obtain ⟨A, c, kad, kc, z0, z1, zc1, zc2, hk⟩ := kid_cells hT (by omega)
  obtain ⟨q, Aq, cq, y0, y1, lq⟩ := hk i (by omega)
  unfold fillT
  by_cases h2 : 2 ≤ (kth ks i).l.length
  · rw [if_pos h2]
    refine (fill_A p q i l.length ks.length _ c kc cq A Aq kad w z0 z1 y0 y1 lq (by omega) (by omega) (by omega) (by omega) h2).mono ?_
    rintro e w' ⟨rfl, rfl⟩
    exact ⟨rfl, f, hT, hn, fun _ _ => Nat.le_refl _, FR.of_ext (Ext.refl w)⟩
  rw [if_neg h2]
  rcases Nat.eq_zero_or_pos i with h0 | h0
  · rw [if_neg (show ¬ (0 < i ∧ 2 < (kth ks (i - 1)).l.length) from fun hh => by omega)]
    have hr := hN.rest (i + 1) (by omega) (by omega)
    obtain ⟨q2, A2, c2, u0, u1, lq2⟩ := hk (i + 1) (by omega)
    by_cases h3 : 2 < (kth ks (i + 1)).l.length
    · rw [if_pos ⟨by omega, h3⟩]
      exact fill_C0 p q i l.length ks.length _ c kc cq A Aq kad w z0 z1 y0 y1 lq (by omega) (by omega) (by omega) (by omega) q2 (i + 1) _ c2 A2 rfl (by omega) u0 u1 lq2 (by omega) (by omega) h0 (by omega) h3 _ (right_T hT hn hkl hl4 (by omega) hi3.2.2 hr.2.2 (by omega) hi3.2.1 hr.2.1)
    · rw [if_neg (fun hh => h3 hh.2), if_neg (by omega)]
      exact fill_E p q i l.length ks.length _ c kc cq A Aq kad w z0 z1 y0 y1 lq (by omega) (by omega) (by omega) (by omega) q2 (i + 1) _ c2 A2 rfl (by omega) u0 u1 lq2 (by omega) (by omega) h0 (by omega) (by omega) _ (join_T hT hn hkl hl4 (by omega) hi3.2.2 hr.2.2 hi3.2.1 hr.2.1)
  · obtain ⟨j, rfl⟩ : ∃ j, i = j + 1 := ⟨i - 1, by omega⟩
    rw [Nat.add_sub_cancel]
    obtain ⟨q1, A1, c1, x0, x1, lq1⟩ := hk j (by omega)
    have hp := hN.rest j (by omega) (by omega)
    by_cases hB : 2 < (kth ks j).l.length
    · rw [if_pos ⟨h0, hB⟩]
      exact fill_B p q (j + 1) l.length ks.length _ c kc cq A Aq kad w z0 z1 y0 y1 lq (by omega) (by omega) (by omega) (by omega) q1 j _ c1 A1 rfl x0 x1 lq1 (by omega) (by omega) hB _ (left_T hT hn hkl hl4 rfl (by omega) hp.2.2 hi3.2.2 (by omega) hp.2.1 hi3.2.1)
    · rw [if_neg (fun hh => hB hh.2), if_pos h0]
      have hJ := join_T hT hn hkl hl4 (show j < l.length by omega) hp.2.2 hi3.2.2 hp.2.1 hi3.2.1
      by_cases h1 : j + 1 < l.length
      · have hr := hN.rest (j + 1 + 1) (by omega) (by omega)
        obtain ⟨q2, A2, c2, u0, u1, lq2⟩ := hk (j + 1 + 1) (by omega)
        by_cases h3 : 2 < (kth ks (j + 1 + 1)).l.length
        · rw [if_pos ⟨h1, h3⟩]
          exact fill_C1 p q (j + 1) l.length ks.length _ c kc cq A Aq kad w z0 z1 y0 y1 lq (by omega) (by omega) (by omega) (by omega) q1 j _ c1 A1 rfl x0 x1 lq1 (by omega) q2 (j + 1 + 1) _ c2 A2 rfl (by omega) u0 u1 lq2 (by omega) (by omega) (by omega) h1 h3 _ (right_T hT hn hkl hl4 (by omega) hi3.2.2 hr.2.2 (by omega) hi3.2.1 hr.2.1)
        · rw [if_neg (fun hh => h3 hh.2)]
          exact fill_D1 p q (j + 1) l.length ks.length _ c kc cq A Aq kad w z0 z1 y0 y1 lq (by omega) (by omega) (by omega) (by omega) q1 j _ c1 A1 rfl x0 x1 lq1 (by omega) q2 (j + 1 + 1) _ c2 A2 rfl (by omega) u0 u1 lq2 (by omega) (by omega) (by omega) h1 (by omega) _ hJ
      · rw [if_neg (fun hh => h1 hh.1)]
        exact fill_D0 p q (j + 1) l.length ks.length _ c kc cq A Aq kad w z0 z1 y0 y1 lq (by omega) (by omega) (by omega) (by omega) q1 j _ c1 A1 rfl x0 x1 lq1 (by omega) (by omega) (by omega) h1 _ hJ
end Go.Proofs.YtpijfiaecicpfaaGreat
