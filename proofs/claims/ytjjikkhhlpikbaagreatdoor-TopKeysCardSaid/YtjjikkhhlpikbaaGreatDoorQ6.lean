/-
  Taking an entry out, plainly: nodes that join, that lend; the last entry; the entry itself. No program in sight; fromLeft: a kid gets the last entry of the one before it; fromRight: a kid gets the first entry of the one behind it; join: a kid, the entry behind it, and the next kid in one node.
-/
import Derived.Test.YtjjikkhhlpikbaaGreatDoorQ5
import Derived.Test.YtjjikkhhlpikbaaGreatDoorQ3
set_option maxRecDepth 100000
set_option maxHeartbeats 40000000
set_option linter.unusedVariables false
set_option linter.unusedSimpArgs false
namespace Go.Proofs.YtjjikkhhlpikbaaGreatDoor
open Go.RowKit Go.Shelf
theorem left_any (f : Nat → Nat) (p q r i j m : Nat) (l lq lr : List Te) (ps pq pr : List Nat) (lv kv vq KQ vr KR : Value) (w : World)
    (H : Tri f w w p q r lv kv vq KQ vr KR l.length ps.length (m + 1) pq.length lr.length pr.length (tents l) (ptrs ps) (tents lq) (ptrs pq) (tents lr) (ptrs pr))
    (hq : ps[j]? = some q) (hr : ps[i]? = some r) (hi : Hid (i = j + 1)) (hj : j < l.length) (hm : Hid (lq.length = m + 1)) (hpq : pq.length = 0 ∨ pq.length = m + 2) (b1 : l.length ≤ 10) (b2 : ps.length ≤ 10) (b3 : m ≤ 10) (b4 : lr.length ≤ 10) (b5 : pr.length ≤ 10)
    (l' lq' lr' : List Te) (pq' pr' : List Nat) (el : Hid (l' = l.set j (tth lq m))) (eq : Hid (lq' = lq.take m)) (er : Hid (lr' = tth l j :: lr)) (epq : Hid (pq' = pq.take (m + 1))) (epr : Hid (pr' = pq.drop (m + 1) ++ pr)) :
    Calls Tryz.prog 86 #[.pointer (some ⟨p, 0, none⟩), .int .i64 i] w fun e w' => e = .returned (.tuple #[]) ∧ ∃ lv' kv' vq' kq' vr' kr' : Value,
      Tri f w w' p q r lv' kv' vq' kq' vr' kr' l'.length ps.length lq'.length pq'.length lr'.length pr'.length (tents l') (ptrs ps) (tents lq') (ptrs pq') (tents lr') (ptrs pr') := by
  obtain ⟨A1, cl, rfl, hr1⟩ := own_rd H.o1
  obtain ⟨ad, rfl, z0, z1⟩ := RdN.at_ hr1 hj
  obtain ⟨A2, kc, rfl, hr2⟩ := own_rd H.o2
  obtain ⟨kad, rfl, -⟩ := hr2.2.2.2 (by have := (List.getElem?_eq_some_iff.1 hq).1; omega)
  obtain ⟨A3, cq, rfl, hr3⟩ := own_rd H.o3
  obtain ⟨aq, rfl, -⟩ := hr3.2.2.2 (by omega)
  obtain ⟨Ar, cr, rfl, hr5⟩ := own_rd H.o5
  obtain ⟨Kq, ckq, rfl, hr4⟩ := own_rd H.o4
  obtain ⟨Kr, ckr, rfl, hr6⟩ := own_rd H.o6
  have y0 := rd_ptr hr2 hq
  have y1 := rd_ptr hr2 hr
  have x1 := node_c1 H.hp
  have mx1 := Rd.max hr1
  have mx2 := Rd.max hr2
  have mx3 := Rd.max hr3
  have mx5 := Rd.max hr5
  have mx4 := Rd.max hr4
  have mx6 := Rd.max hr6
  have hkq : Hid (0 < pq.length → ∃ akq, Kq = some akq) := fun h => by obtain ⟨a, e, -⟩ := hr4.2.2.2 h; exact ⟨a, e⟩
  have hjp := (List.getElem?_eq_some_iff.1 hq).1
  have hip := (List.getElem?_eq_some_iff.1 hr).1
  have hw1 : IntKind.i64.wrap ((i : Int) - 1) = (j : Int) := by have := hi.out; rw [IntWalk.i64_in _ (by omega)]; omega
  have hw2 : ((i : Int) - 1) = (j : Int) := by have := hi.out; omega
  have hw5 : IntKind.i64.wrap (j : Int) = (j : Int) := IntWalk.i64_in _ (by omega)
  have hw6 : (m : Int) < (m : Int) + 1 := by omega
  have hmq := hid (show m < lq.length by have := hm.out; omega)
  have tri : Hid (Tri f w w p q r (.slice (some ad) l.length cl) (.slice (some kad) ps.length kc) (.slice (some aq) (m + 1) cq) (.slice Kq pq.length ckq) (.slice Ar lr.length cr) (.slice Kr pr.length ckr) l.length ps.length (m + 1) pq.length lr.length pr.length (tents l) (ptrs ps) (tents lq) (ptrs pq) (tents lr) (ptrs pr)) := H
  have hE1 : Hid (∀ W : World, W.ownsRow 0 65 2 (.slice (some ad) l.length cl) l.length (tents l) → W.cell? (ad.add (j * 2)) = some (.string (tth l j).key) ∧ W.cell? ⟨(ad.add (j * 2)).block, (ad.add (j * 2)).off + 1, none⟩ = some (.int .i64 (tth l j).no)) := fun W h => own_entryA h hj
  have hE3 : Hid (∀ W : World, W.ownsRow 0 65 2 (.slice (some aq) (m + 1) cq) (m + 1) (tents lq) → W.cell? (aq.add (m * 2)) = some (.string (tth lq m).key) ∧ W.cell? ⟨(aq.add (m * 2)).block, (aq.add (m * 2)).off + 1, none⟩ = some (.int .i64 (tth lq m).no)) := fun W h => own_entryA h hmq.out
  have lp := (Array.getElem?_eq_some_iff.1 H.hp).1
  clear hr1 hr2 hr3 hr4 hr5 hr6 z0 z1 H
  replace hq := hid hq
  replace hr := hid hr
  go_enter Tryz.func86, Tryz.ntmps86
  go_upto_region 0 with fail
  go_quiet (fail)
  clear y0 y1 x1 lp
  rename_i nq
  replace tri := hid (tri.out.ext (Ext.drewN w nq))
  generalize w.drewN nq = W0 at *
  have x3 := node_c0 tri.out.hq
  have lq0 := (Array.getElem?_eq_some_iff.1 tri.out.hq).1
  have hw3 : (((m + 1 : Nat) : Int) - 1) = (m : Int) := by omega
  have hw4 : IntKind.i64.wrap (((m + 1 : Nat) : Int) - 1) = (m : Int) := by rw [IntWalk.i64_in _ (by omega)]; omega
  go_upto_region 2 with fail
  clear x3 lq0
  have tri1 := hid (tri.out.ext (Ext.refl W0).drew_right)
  have I0 : (fun w' : World => w'.cell? ⟨r, 0, none⟩ = some (.slice Ar lr.length cr) ∧ w'.cell? ⟨p, 0, none⟩ = some (.slice (some ad) l.length cl) ∧ w'.cell? (ad.add (j * 2)) = some (.string (tth l j).key) ∧ w'.cell? ⟨(ad.add (j * 2)).block, (ad.add (j * 2)).off + 1, none⟩ = some (.int .i64 (tth l j).no)) W0.drew := ⟨node_c0 tri1.out.hr, node_c0 tri1.out.hp, (hE1.out _ tri1.out.o1).1, (hE1.out _ tri1.out.o1).2⟩
  refine region_J (fun w' : World => w'.cell? ⟨r, 0, none⟩ = some (.slice Ar lr.length cr) ∧ w'.cell? ⟨p, 0, none⟩ = some (.slice (some ad) l.length cl) ∧ w'.cell? (ad.add (j * 2)) = some (.string (tth l j).key) ∧ w'.cell? ⟨(ad.add (j * 2)).block, (ad.add (j * 2)).off + 1, none⟩ = some (.int .i64 (tth l j).no)) 17 (by kernel_rfl) ?_
  clear tri
  generalize W0.drew = W at *
  refine JT 0 (v := ?va0) I0 ?ya0 ?ra0
  case ya0 => (intro w h; obtain ⟨_, _, _, _⟩ := h; go_simp; with_reducible rfl)
  simp only [Act.put, lyA, lyB, lyC, lyD, lyE, lyF]
  refine JT 1 (v := ?va1) I0 ?ya1 ?ra1
  case ya1 => (intro w h; obtain ⟨_, _, _, _⟩ := h; go_simp; with_reducible rfl)
  simp only [Act.put, lyA, lyB, lyC, lyD, lyE, lyF]
  refine JT 2 (v := ?va2) I0 ?ya2 ?ra2
  case ya2 => (intro w h; obtain ⟨_, _, _, _⟩ := h; go_simp; with_reducible rfl)
  simp only [Act.put, lyA, lyB, lyC, lyD, lyE, lyF]
  refine JT 3 (v := ?va3) I0 ?ya3 ?ra3
  case ya3 => (intro w h; obtain ⟨_, _, _, _⟩ := h; go_simp; with_reducible rfl)
  simp only [Act.put, lyA, lyB, lyC, lyD, lyE, lyF]
  refine JT 4 (v := ?va4) I0 ?ya4 ?ra4
  case ya4 => (intro w h; obtain ⟨_, _, _, _⟩ := h; go_simp; with_reducible rfl)
  simp only [Act.put, lyA, lyB, lyC, lyD, lyE, lyF]
  refine JT 5 (v := ?va5) I0 ?ya5 ?ra5
  case ya5 => (intro w h; obtain ⟨_, _, _, _⟩ := h; go_simp; with_reducible rfl)
  simp only [Act.put, lyA, lyB, lyC, lyD, lyE, lyF]
  refine JT 6 (v := ?va6) I0 ?ya6 ?ra6
  case ya6 => (intro w h; obtain ⟨_, _, _, _⟩ := h; go_simp; with_reducible rfl)
  simp only [Act.put, lyA, lyB, lyC, lyD, lyE, lyF]
  refine JT 7 (v := ?va7) I0 ?ya7 ?ra7
  case ya7 => (intro w h; obtain ⟨_, _, _, _⟩ := h; go_simp; with_reducible rfl)
  simp only [Act.put, lyA, lyB, lyC, lyD, lyE, lyF]
  refine JT 8 (v := ?va8) I0 ?ya8 ?ra8
  case ya8 => (intro w h; obtain ⟨_, _, _, _⟩ := h; go_simp; with_reducible rfl)
  simp only [Act.put, lyA, lyB, lyC, lyD, lyE, lyF]
  refine JT 9 (v := ?va9) I0 ?ya9 ?ra9
  case ya9 => (intro w h; obtain ⟨_, _, _, _⟩ := h; go_simp; with_reducible rfl)
  simp only [Act.put, lyA, lyB, lyC, lyD, lyE, lyF]
  refine JT 10 (v := ?va10) I0 ?ya10 ?ra10
  case ya10 => (intro w h; obtain ⟨_, _, _, _⟩ := h; go_simp; with_reducible rfl)
  simp only [Act.put, lyA, lyB, lyC, lyD, lyE, lyF]
  refine JT 11 (v := ?va11) I0 ?ya11 ?ra11
  case ya11 => (intro w h; obtain ⟨_, _, _, _⟩ := h; go_simp; with_reducible rfl)
  simp only [Act.put, lyA, lyB, lyC, lyD, lyE, lyF]
  refine JT 12 (v := ?va12) I0 ?ya12 ?ra12
  case ya12 => (intro w h; obtain ⟨_, _, _, _⟩ := h; go_simp; with_reducible rfl)
  simp only [Act.put, lyA, lyB, lyC, lyD, lyE, lyF]
  refine J_one 13 rfl (by kernel_rfl) (fun K hK => ?_)
  go_simp
  have tri2 := hid (tri1.out.ext ((Ext.refl W).alloc_right (.cells #[.string (tth l j).key, .int .i64 (tth l j).no] 65)))
  have hva := hid (heap_alloc_new W (.cells #[.string (tth l j).key, .int .i64 (tth l j).no] 65))
  have hne : Hid ((Value.slice Ar lr.length cr).ownBlock ≠ some W.heap.size) := fun e => by have := (tri1.out.o5.lt _ e).2; omega
  have I1 : (fun w' : World => w'.cell? ⟨r, 0, none⟩ = some (.slice Ar lr.length cr) ∧ w'.cell? ⟨p, 0, none⟩ = some (.slice (some ad) l.length cl) ∧ w'.cell? (ad.add (j * 2)) = some (.string (tth l j).key) ∧ w'.cell? ⟨(ad.add (j * 2)).block, (ad.add (j * 2)).off + 1, none⟩ = some (.int .i64 (tth l j).no)) (W.alloc (.cells #[.string (tth l j).key, .int .i64 (tth l j).no] 65)) := ⟨((Ext.refl W).alloc_right _).cell I0.1, ((Ext.refl W).alloc_right _).cell I0.2.1, ((Ext.refl W).alloc_right _).cell I0.2.2.1, ((Ext.refl W).alloc_right _).cell I0.2.2.2⟩
  clear tri1
  generalize W.heap.size = va at *
  generalize W.alloc (.cells #[.string (tth l j).key, .int .i64 (tth l j).no] 65) = W1 at *
  refine hK _ _ ⟨fun _ => I1, ?_⟩
  clear hK K
  try simp only [Act.put, lyA, lyB, lyC, lyD, lyE, lyF]
  refine J_one 14 rfl (by kernel_rfl) (fun K hK => ?_)
  go_simp
  refine (ins_N lr.length 0 _ (tents lr) [.string (tth l j).key, .int .i64 (tth l j).no] va W1 (Nat.zero_le _) (by omega) tri2.out.o5 (tents_one _) hva.out rfl (tents_one [tth l j]) hne.out).mono ?_
  rintro e W2 ⟨v', rfl, ho', hrw⟩
  have tri3 : ∀ u, u = v' → Tri f w (W2.setCell ⟨r, 0, none⟩ u) p q r (.slice (some ad) l.length cl) (.slice (some kad) ps.length kc) (.slice (some aq) (m + 1) cq) (.slice Kq pq.length ckq) u (.slice Kr pr.length ckr) l.length ps.length (m + 1) pq.length (lr.length + 1) pr.length (tents l) (ptrs ps) (tents lq) (ptrs pq) (tents (tth l j :: lr)) (ptrs pr) := fun u e => by rw [e]; exact (tri2.out.rot.rot.rep0 hrw.1 ho' hrw.2).rot
  replace tri3 := hid tri3
  have hbr : W2.heap[r]? = some (.cells #[.slice Ar lr.length cr, .slice Kr pr.length ckr] 48 (0, 0)) := (hrw.1.block r (Array.getElem?_eq_some_iff.1 tri2.out.hr).1 (fun e0 => by have := tri2.out.nd r; rw [ob_some e0.symm, one_self] at this; omega)).trans tri2.out.hr
  have hbp : W2.heap[p]? = some (.cells #[(.slice (some ad) l.length cl), (.slice (some kad) ps.length kc)] 48 (0, 0)) := (hrw.1.block p (Array.getElem?_eq_some_iff.1 tri2.out.hp).1 (fun e0 => by have := tri2.out.nd p; rw [ob_some e0.symm, one_self] at this; omega)).trans tri2.out.hp
  have hr2 := node_c0 hbr
  have hf2 := Lib.frozen_of_heap hbr 0
  have hE := hE1.out W2 (own_ne tri2.out.o1 hrw.1 (fun k e e2 => by have := tri2.out.nd k; rw [ob_some e, ob_some e2] at this; omega))
  have I2 : (fun w' : World => w'.cell? ⟨r, 0, none⟩ = some (.slice Ar lr.length cr) ∧ w'.cell? ⟨p, 0, none⟩ = some (.slice (some ad) l.length cl) ∧ w'.cell? (ad.add (j * 2)) = some (.string (tth l j).key) ∧ w'.cell? ⟨(ad.add (j * 2)).block, (ad.add (j * 2)).off + 1, none⟩ = some (.int .i64 (tth l j).no)) W2 := ⟨hr2, node_c0 hbp, hE.1, hE.2⟩
  obtain ⟨Av, cv, rfl, -⟩ := own_form ho'
  clear ho' hrw tri2 hva hne I1 I0 hE hbr hbp
  refine hK _ _ ⟨fun _ => I2, ?_⟩
  clear hK K
  try simp only [Act.put, lyA, lyB, lyC, lyD, lyE, lyF]
  refine J_one 15 rfl (by kernel_rfl) (fun K hK => ?_)
  go_simp
  refine hK _ _ ⟨fun _ => I2, ?_⟩
  clear hK K
  try simp only [Act.put, lyD, lyE, lyF]
  refine J_one 16 rfl (by kernel_rfl) (fun K hK => ?_)
  go_simp
  refine hK _ _ ⟨fun _ => I2, ?_⟩
  clear hK K
  try simp only [Act.put, lyD, lyE, lyF]
  refine J_one 17 rfl (by kernel_rfl) (fun K hK => ?_)
  go_simp
  refine hK _ _ ⟨fun h => absurd rfl h, ?_⟩
  clear hK K
  refine J_done (by kernel_rfl) (OnlyOn.normal ?_)
  replace tri3 := hid (tri3.out _ rfl)
  clear I2 hr2 hf2
  generalize W2.setCell ⟨r, 0, none⟩ (.slice Av (lr.length + 1) cv) = W3 at *
  go_upto_region 3 with fail
  have tri4 := hid (tri3.out.ext (Ext.refl W3).drew_right)
  have I0 : (fun w' : World => w'.cell? ⟨p, 0, none⟩ = some (.slice (some ad) l.length cl) ∧ w'.cell? ⟨q, 0, none⟩ = some (.slice (some aq) (m + 1) cq) ∧ w'.cell? (aq.add (m * 2)) = some (.string (tth lq m).key) ∧ w'.cell? ⟨(aq.add (m * 2)).block, (aq.add (m * 2)).off + 1, none⟩ = some (.int .i64 (tth lq m).no)) W3.drew := ⟨node_c0 tri4.out.hp, node_c0 tri4.out.hq, (hE3.out _ tri4.out.o3).1, (hE3.out _ tri4.out.o3).2⟩
  refine region_J (fun w' : World => w'.cell? ⟨p, 0, none⟩ = some (.slice (some ad) l.length cl) ∧ w'.cell? ⟨q, 0, none⟩ = some (.slice (some aq) (m + 1) cq) ∧ w'.cell? (aq.add (m * 2)) = some (.string (tth lq m).key) ∧ w'.cell? ⟨(aq.add (m * 2)).block, (aq.add (m * 2)).off + 1, none⟩ = some (.int .i64 (tth lq m).no)) 14 (by kernel_rfl) ?_
  clear tri3
  generalize W3.drew = W at *
  have hf1 := (own_freeA tri4.out.o1 (j * 2)).1
  have hz0 := (own_entryA tri4.out.o1 hj).1
  have hz1 := (own_midA tri4.out.o1 hj (.string (tth lq m).key)).1
  have hf2 := (own_midA tri4.out.o1 hj (.string (tth lq m).key)).2
  refine JT 0 (v := ?vb0) I0 ?yb0 ?rb0
  case yb0 => (intro w h; obtain ⟨_, _, _, _⟩ := h; go_simp; with_reducible rfl)
  simp only [Act.put, lyA, lyB, lyC, lyD, lyE, lyF]
  refine JT 1 (v := ?vb1) I0 ?yb1 ?rb1
  case yb1 => (intro w h; obtain ⟨_, _, _, _⟩ := h; go_simp; with_reducible rfl)
  simp only [Act.put, lyA, lyB, lyC, lyD, lyE, lyF]
  refine JT 2 (v := ?vb2) I0 ?yb2 ?rb2
  case yb2 => (intro w h; obtain ⟨_, _, _, _⟩ := h; go_simp; with_reducible rfl)
  simp only [Act.put, lyA, lyB, lyC, lyD, lyE, lyF]
  refine JT 3 (v := ?vb3) I0 ?yb3 ?rb3
  case yb3 => (intro w h; obtain ⟨_, _, _, _⟩ := h; go_simp; with_reducible rfl)
  simp only [Act.put, lyA, lyB, lyC, lyD, lyE, lyF]
  refine JT 4 (v := ?vb4) I0 ?yb4 ?rb4
  case yb4 => (intro w h; obtain ⟨_, _, _, _⟩ := h; go_simp; with_reducible rfl)
  simp only [Act.put, lyA, lyB, lyC, lyD, lyE, lyF]
  refine JT 5 (v := ?vb5) I0 ?yb5 ?rb5
  case yb5 => (intro w h; obtain ⟨_, _, _, _⟩ := h; go_simp; with_reducible rfl)
  simp only [Act.put, lyA, lyB, lyC, lyD, lyE, lyF]
  refine JT 6 (v := ?vb6) I0 ?yb6 ?rb6
  case yb6 => (intro w h; obtain ⟨_, _, _, _⟩ := h; go_simp; with_reducible rfl)
  simp only [Act.put, lyA, lyB, lyC, lyD, lyE, lyF]
  refine JT 7 (v := ?vb7) I0 ?yb7 ?rb7
  case yb7 => (intro w h; obtain ⟨_, _, _, _⟩ := h; go_simp; with_reducible rfl)
  simp only [Act.put, lyA, lyB, lyC, lyD, lyE, lyF]
  refine JT 8 (v := ?vb8) I0 ?yb8 ?rb8
  case yb8 => (intro w h; obtain ⟨_, _, _, _⟩ := h; go_simp; with_reducible rfl)
  simp only [Act.put, lyA, lyB, lyC, lyD, lyE, lyF]
  refine JT 9 (v := ?vb9) I0 ?yb9 ?rb9
  case yb9 => (intro w h; obtain ⟨_, _, _, _⟩ := h; go_simp; with_reducible rfl)
  simp only [Act.put, lyA, lyB, lyC, lyD, lyE, lyF]
  refine JT 10 (v := ?vb10) I0 ?yb10 ?rb10
  case yb10 => (intro w h; obtain ⟨_, _, _, _⟩ := h; go_simp; with_reducible rfl)
  simp only [Act.put, lyA, lyB, lyC, lyD, lyE, lyF]
  refine JT 11 (v := ?vb11) I0 ?yb11 ?rb11
  case yb11 => (intro w h; obtain ⟨_, _, _, _⟩ := h; go_simp; with_reducible rfl)
  simp only [Act.put, lyA, lyB, lyC, lyD, lyE, lyF]
  refine JT 12 (v := ?vb12) I0 ?yb12 ?rb12
  case yb12 => (intro w h; obtain ⟨_, _, _, _⟩ := h; go_simp; with_reducible rfl)
  simp only [Act.put, lyA, lyB, lyC, lyD, lyE, lyF]
  refine J_one 13 rfl (by kernel_rfl) (fun K hK => ?_)
  go_simp
  refine hK _ _ ⟨fun _ => I0, ?_⟩
  clear hK K
  try simp only [Act.put, lyD, lyE, lyF]
  refine J_one 14 rfl (by kernel_rfl) (fun K hK => ?_)
  go_simp
  refine hK _ _ ⟨fun h => absurd rfl h, ?_⟩
  clear hK K
  refine J_done (by kernel_rfl) (OnlyOn.normal ?_)
  have tri5 := hid (tri4.out.row0 (own_turnA (x := tth lq m) tri4.out.o1 hj).2 (own_turnA (x := tth lq m) tri4.out.o1 hj).1)
  clear hf1 hf2 hz0 hz1 I0 tri4
  generalize (W.setCell (ad.add (j * 2)) (.string (tth lq m).key)).setCell ⟨(ad.add (j * 2)).block, (ad.add (j * 2)).off + 1, none⟩ (.int .i64 (tth lq m).no) = W4 at *
  have x3 := node_c0 tri5.out.hq
  have x4 := node_c1 tri5.out.hq
  have x5 := Lib.frozen_of_heap tri5.out.hq 0
  have x6 : (W4.setCell ⟨q, 0, none⟩ (.slice (some aq) m cq)).cell? ⟨q, 1, none⟩ = some (.slice Kq pq.length ckq) := set_keep x4 (off_ne (by decide))
  have lqW := (Array.getElem?_eq_some_iff.1 tri5.out.hq).1
  have oq := own_cut tri5.out.o3 (show m ≤ m + 1 by omega)
  rw [tents_take] at oq
  have tri6 := hid (tri5.out.rot.put0 oq rfl).rot.rot
  have hn1 : ¬ (cq : Int) < (m : Int) := by omega
  have hn2 : m ≤ cq := by omega
  clear oq
  rcases hpq with h0 | h6
  · have d5 : ¬ (0 : Int) < (pq.length : Int) := by omega
    have hpl := hid h0
    clear h0
    go_wp2_with fail
    clear x3 x4 x5 x6
    generalize (W4.setCell ⟨q, 0, none⟩ (.slice (some aq) m cq)) = W6 at *
    go_end0
    have e1 : l'.length = l.length := by rw [el.out, List.length_set]
    have e2 : lq'.length = m := by rw [eq.out, List.length_take]; have := hm.out; omega
    have e3 : lr'.length = lr.length + 1 := by rw [er.out]; rfl
    obtain rfl : pq = [] := List.eq_nil_of_length_eq_zero hpl.out
    obtain rfl : pq' = [] := epq.out
    obtain rfl : pr' = pr := epr.out
    rw [e1, e2, e3, el.out, eq.out, er.out]
    exact ⟨rfl, _, _, _, _, _, _, tri6.out⟩
  · have d5 : (0 : Int) < (pq.length : Int) := by omega
    obtain ⟨akq, rfl⟩ := hkq.out (by omega)
    obtain ⟨m1, hM⟩ : ∃ m1, m + 1 = m1 := ⟨_, rfl⟩
    obtain ⟨u0, hu0⟩ : ∃ u0, pq[m1]? = some u0 := ⟨_, List.getElem?_eq_getElem (by omega)⟩
    have hpl := hid h6
    have hw7 : ((m : Int) + 1) = (m1 : Int) := by omega
    have hw8 : IntKind.i64.wrap ((m : Int) + 1) = (m1 : Int) := by rw [IntWalk.i64_in _ (by omega)]; omega
    have hw9 : IntKind.i64.wrap (m1 : Int) = (m1 : Int) := IntWalk.i64_in _ (by omega)
    have hwa : (m1 : Int) < (pq.length : Int) := by omega
    have hwb : m1 ≤ pq.length := by omega
    rw [hM] at epq epr
    replace hM := hid hM
    replace hu0 := hid hu0
    clear h6
    go_upto_region 6 with fail
    clear x3 x4 x5 x6
    generalize (W4.setCell ⟨q, 0, none⟩ (.slice (some aq) m cq)) = W6 at *
    have tri7 := hid (tri6.out.ext (Ext.refl W6).drew_right)
    have I0 : (fun w' : World => w'.cell? ⟨r, 1, none⟩ = some (.slice Kr pr.length ckr) ∧ w'.cell? ⟨q, 1, none⟩ = some (.slice (some akq) pq.length ckq) ∧ w'.cell? (akq.add m1) = some (.pointer (some ⟨u0, 0, none⟩))) W6.drew := ⟨node_c1 tri7.out.hr, node_c1 tri7.out.hq, own_ptrA tri7.out.o4 hu0.out⟩
    refine region_J (fun w' : World => w'.cell? ⟨r, 1, none⟩ = some (.slice Kr pr.length ckr) ∧ w'.cell? ⟨q, 1, none⟩ = some (.slice (some akq) pq.length ckq) ∧ w'.cell? (akq.add m1) = some (.pointer (some ⟨u0, 0, none⟩))) 17 (by kernel_rfl) ?_
    clear tri6
    generalize W6.drew = W at *
    refine JT 0 (v := ?vc0) I0 ?yc0 ?rc0
    case yc0 => (intro w h; obtain ⟨_, _, _⟩ := h; go_simp; with_reducible rfl)
    simp only [Act.put, lyA, lyB, lyC, lyD, lyE, lyF]
    refine JT 1 (v := ?vc1) I0 ?yc1 ?rc1
    case yc1 => (intro w h; obtain ⟨_, _, _⟩ := h; go_simp; with_reducible rfl)
    simp only [Act.put, lyA, lyB, lyC, lyD, lyE, lyF]
    refine JT 2 (v := ?vc2) I0 ?yc2 ?rc2
    case yc2 => (intro w h; obtain ⟨_, _, _⟩ := h; go_simp; with_reducible rfl)
    simp only [Act.put, lyA, lyB, lyC, lyD, lyE, lyF]
    refine JT 3 (v := ?vc3) I0 ?yc3 ?rc3
    case yc3 => (intro w h; obtain ⟨_, _, _⟩ := h; go_simp; with_reducible rfl)
    simp only [Act.put, lyA, lyB, lyC, lyD, lyE, lyF]
    refine JT 4 (v := ?vc4) I0 ?yc4 ?rc4
    case yc4 => (intro w h; obtain ⟨_, _, _⟩ := h; go_simp; with_reducible rfl)
    simp only [Act.put, lyA, lyB, lyC, lyD, lyE, lyF]
    refine JT 5 (v := ?vc5) I0 ?yc5 ?rc5
    case yc5 => (intro w h; obtain ⟨_, _, _⟩ := h; go_simp; with_reducible rfl)
    simp only [Act.put, lyA, lyB, lyC, lyD, lyE, lyF]
    refine JT 6 (v := ?vc6) I0 ?yc6 ?rc6
    case yc6 => (intro w h; obtain ⟨_, _, _⟩ := h; go_simp; with_reducible rfl)
    simp only [Act.put, lyA, lyB, lyC, lyD, lyE, lyF]
    refine JT 7 (v := ?vc7) I0 ?yc7 ?rc7
    case yc7 => (intro w h; obtain ⟨_, _, _⟩ := h; go_simp; with_reducible rfl)
    simp only [Act.put, lyA, lyB, lyC, lyD, lyE, lyF]
    refine JT 8 (v := ?vc8) I0 ?yc8 ?rc8
    case yc8 => (intro w h; obtain ⟨_, _, _⟩ := h; go_simp; with_reducible rfl)
    simp only [Act.put, lyA, lyB, lyC, lyD, lyE, lyF]
    refine JT 9 (v := ?vc9) I0 ?yc9 ?rc9
    case yc9 => (intro w h; obtain ⟨_, _, _⟩ := h; go_simp; with_reducible rfl)
    simp only [Act.put, lyA, lyB, lyC, lyD, lyE, lyF]
    refine JT 10 (v := ?vc10) I0 ?yc10 ?rc10
    case yc10 => (intro w h; obtain ⟨_, _, _⟩ := h; go_simp; with_reducible rfl)
    simp only [Act.put, lyA, lyB, lyC, lyD, lyE, lyF]
    refine JT 11 (v := ?vc11) I0 ?yc11 ?rc11
    case yc11 => (intro w h; obtain ⟨_, _, _⟩ := h; go_simp; with_reducible rfl)
    simp only [Act.put, lyA, lyB, lyC, lyD, lyE, lyF]
    refine JT 12 (v := ?vc12) I0 ?yc12 ?rc12
    case yc12 => (intro w h; obtain ⟨_, _, _⟩ := h; go_simp; with_reducible rfl)
    simp only [Act.put, lyA, lyB, lyC, lyD, lyE, lyF]
    refine J_one 13 rfl (by kernel_rfl) (fun K hK => ?_)
    go_simp
    have tri8 := hid (tri7.out.ext ((Ext.refl W).alloc_right (.cells #[.pointer (some ⟨u0, 0, none⟩)] 44)))
    have hva := hid (heap_alloc_new W (.cells #[.pointer (some ⟨u0, 0, none⟩)] 44))
    have hne : Hid ((Value.slice Kr pr.length ckr).ownBlock ≠ some W.heap.size) := fun e => by have := (tri7.out.o6.lt _ e).2; omega
    have I1 : (fun w' : World => w'.cell? ⟨r, 1, none⟩ = some (.slice Kr pr.length ckr) ∧ w'.cell? ⟨q, 1, none⟩ = some (.slice (some akq) pq.length ckq) ∧ w'.cell? (akq.add m1) = some (.pointer (some ⟨u0, 0, none⟩))) (W.alloc (.cells #[.pointer (some ⟨u0, 0, none⟩)] 44)) := ⟨((Ext.refl W).alloc_right _).cell I0.1, ((Ext.refl W).alloc_right _).cell I0.2.1, ((Ext.refl W).alloc_right _).cell I0.2.2⟩
    clear tri7
    generalize W.heap.size = va at *
    generalize W.alloc (.cells #[.pointer (some ⟨u0, 0, none⟩)] 44) = W1 at *
    refine hK _ _ ⟨fun _ => I1, ?_⟩
    clear hK K
    try simp only [Act.put, lyA, lyB, lyC, lyD, lyE, lyF]
    refine J_one 14 rfl (by kernel_rfl) (fun K hK => ?_)
    go_simp
    refine (ins_K pr.length 0 _ (ptrs pr) [.pointer (some ⟨u0, 0, none⟩)] va W1 (Nat.zero_le _) (by omega) tri8.out.o6 (ptrs_one _) hva.out rfl (ptrs_one [u0]) hne.out).mono ?_
    rintro e W2 ⟨v', rfl, ho', hrw⟩
    have tri9 : ∀ u, u = v' → Tri f w (W2.setCell ⟨r, 1, none⟩ u) p q r (.slice (some ad) l.length cl) (.slice (some kad) ps.length kc) (.slice (some aq) m cq) (.slice (some akq) pq.length ckq) (.slice Av (lr.length + 1) cv) u l.length ps.length m pq.length (lr.length + 1) (pr.length + 1) (tents (l.set j (tth lq m))) (ptrs ps) (tents (lq.take m)) (ptrs pq) (tents (tth l j :: lr)) (ptrs (u0 :: pr)) := fun u e => by rw [e]; exact (tri8.out.rot.rot.rep1 hrw.1 ho' hrw.2).rot
    replace tri9 := hid tri9
    have hbr : W2.heap[r]? = some (.cells #[.slice Av (lr.length + 1) cv, .slice Kr pr.length ckr] 48 (0, 0)) := (hrw.1.block r (Array.getElem?_eq_some_iff.1 tri8.out.hr).1 (fun e0 => by have := tri8.out.nd r; rw [ob_some e0.symm, one_self] at this; omega)).trans tri8.out.hr
    have hbq : W2.heap[q]? = some (.cells #[.slice (some aq) m cq, .slice (some akq) pq.length ckq] 48 (0, 0)) := (hrw.1.block q (Array.getElem?_eq_some_iff.1 tri8.out.hq).1 (fun e0 => by have := tri8.out.nd q; rw [ob_some e0.symm, one_self] at this; omega)).trans tri8.out.hq
    have hr2 := node_c1 hbr
    have hf2 := Lib.frozen_of_heap hbr 1
    have hE := own_ptrA (own_ne tri8.out.o4 hrw.1 (fun k e e2 => by have := tri8.out.nd k; rw [ob_some e, ob_some e2] at this; omega)) hu0.out
    have I2 : (fun w' : World => w'.cell? ⟨r, 1, none⟩ = some (.slice Kr pr.length ckr) ∧ w'.cell? ⟨q, 1, none⟩ = some (.slice (some akq) pq.length ckq) ∧ w'.cell? (akq.add m1) = some (.pointer (some ⟨u0, 0, none⟩))) W2 := ⟨hr2, node_c1 hbq, hE⟩
    obtain ⟨Aw, cw, rfl, -⟩ := own_form ho'
    clear ho' hrw tri8 hva hne I1 I0 hE hbr hbq
    refine hK _ _ ⟨fun _ => I2, ?_⟩
    clear hK K
    try simp only [Act.put, lyA, lyB, lyC, lyD, lyE, lyF]
    refine J_one 15 rfl (by kernel_rfl) (fun K hK => ?_)
    go_simp
    refine hK _ _ ⟨fun _ => I2, ?_⟩
    clear hK K
    try simp only [Act.put, lyD, lyE, lyF]
    refine J_one 16 rfl (by kernel_rfl) (fun K hK => ?_)
    go_simp
    refine hK _ _ ⟨fun _ => I2, ?_⟩
    clear hK K
    try simp only [Act.put, lyD, lyE, lyF]
    refine J_one 17 rfl (by kernel_rfl) (fun K hK => ?_)
    go_simp
    refine hK _ _ ⟨fun h => absurd rfl h, ?_⟩
    clear hK K
    refine J_done (by kernel_rfl) (OnlyOn.normal ?_)
    replace tri9 := hid (tri9.out _ rfl)
    clear I2 hr2 hf2
    generalize W2.setCell ⟨r, 1, none⟩ (.slice Aw (pr.length + 1) cw) = W3 at *
    have x3 := node_c1 tri9.out.hq
    have x5 := Lib.frozen_of_heap tri9.out.hq 1
    have lqW := (Array.getElem?_eq_some_iff.1 tri9.out.hq).1
    have oq := own_cut tri9.out.o4 hwb
    rw [ptrs_take, Nat.mul_one] at oq
    have tri10 := hid (tri9.out.rot.put1 oq rfl).rot.rot
    have hn3 : ¬ (ckq : Int) < (m1 : Int) := by omega
    have hn4 : m1 ≤ ckq := by omega
    clear oq tri9
    go_wp2_with fail
    clear x3 x5
    generalize (W3.setCell ⟨q, 1, none⟩ (.slice (some akq) m1 ckq)) = W6 at *
    go_end0
    have e1 : l'.length = l.length := by rw [el.out, List.length_set]
    have e2 : lq'.length = m := by rw [eq.out, List.length_take]; have := hm.out; omega
    have e3 : lr'.length = lr.length + 1 := by rw [er.out]; rfl
    have e4 : pq'.length = m1 := by rw [epq.out, List.length_take]; have := hpl.out; have := hM.out; omega
    have e6 : pr' = u0 :: pr := by
      rw [epr.out, List.drop_eq_getElem_cons (by have := hpl.out; have := hM.out; omega), (List.getElem?_eq_some_iff.1 hu0.out).2, List.drop_of_length_le (by have := hpl.out; have := hM.out; omega)]
      rfl
    have e5 : pr'.length = pr.length + 1 := by rw [e6]; rfl
    rw [e1, e2, e3, e4, e5, el.out, eq.out, er.out, epq.out, e6]
    exact ⟨rfl, _, _, _, _, _, _, tri10.out⟩
open Go.RowKit Go.Shelf
theorem right_any (f : Nat → Nat) (p q r i j m : Nat) (l lq lr : List Te) (ps pq pr : List Nat) (lv kv vq KQ vr KR : Value) (w : World)
    (H : Tri f w w p q r lv kv vq KQ vr KR l.length ps.length lq.length pq.length (m + 1) pr.length (tents l) (ptrs ps) (tents lq) (ptrs pq) (tents lr) (ptrs pr))
    (hq : ps[j]? = some q) (hr : ps[i]? = some r) (hi : Hid (i = j + 1)) (hj : j < l.length) (hm : Hid (lr.length = m + 1)) (hpr : pr.length = 0 ∨ pr.length = m + 2) (b1 : l.length ≤ 10) (b2 : ps.length ≤ 10) (b3 : m ≤ 10) (b4 : lq.length ≤ 10) (b5 : pq.length ≤ 10)
    (l' lq' lr' : List Te) (pq' pr' : List Nat) (el : Hid (l' = l.set j (tth lr 0))) (eq : Hid (lq' = lq ++ [tth l j])) (er : Hid (lr' = lr.drop 1)) (epq : Hid (pq' = pq ++ pr.take 1)) (epr : Hid (pr' = pr.drop 1)) :
    Calls Tryz.prog 87 #[.pointer (some ⟨p, 0, none⟩), .int .i64 j] w fun e w' => e = .returned (.tuple #[]) ∧ ∃ lv' kv' vq' kq' vr' kr' : Value,
      Tri f w w' p q r lv' kv' vq' kq' vr' kr' l'.length ps.length lq'.length pq'.length lr'.length pr'.length (tents l') (ptrs ps) (tents lq') (ptrs pq') (tents lr') (ptrs pr') := by
  obtain ⟨A1, cl, rfl, hr1⟩ := own_rd H.o1
  obtain ⟨ad, rfl, z0, z1⟩ := RdN.at_ hr1 hj
  obtain ⟨A2, kc, rfl, hr2⟩ := own_rd H.o2
  obtain ⟨kad, rfl, -⟩ := hr2.2.2.2 (by have := (List.getElem?_eq_some_iff.1 hq).1; omega)
  obtain ⟨Aq, cq, rfl, hr3⟩ := own_rd H.o3
  obtain ⟨Ar, cr, rfl, hr5⟩ := own_rd H.o5
  obtain ⟨ar, rfl, -⟩ := hr5.2.2.2 (by omega)
  obtain ⟨Kq, ckq, rfl, hr4⟩ := own_rd H.o4
  obtain ⟨Kr, ckr, rfl, hr6⟩ := own_rd H.o6
  have y0 := rd_ptr hr2 hq
  have y1 := rd_ptr hr2 hr
  have x1 := node_c1 H.hp
  have mx1 := Rd.max hr1
  have mx2 := Rd.max hr2
  have mx3 := Rd.max hr3
  have mx5 := Rd.max hr5
  have mx4 := Rd.max hr4
  have mx6 := Rd.max hr6
  have hkr : Hid (0 < pr.length → ∃ akr, Kr = some akr) := fun h => by obtain ⟨a, e, -⟩ := hr6.2.2.2 h; exact ⟨a, e⟩
  have hjp := (List.getElem?_eq_some_iff.1 hq).1
  have hip := (List.getElem?_eq_some_iff.1 hr).1
  have hw1 : IntKind.i64.wrap ((j : Int) + 1) = (i : Int) := by have := hi.out; rw [IntWalk.i64_in _ (by omega)]; omega
  have hw2 : ((j : Int) + 1) = (i : Int) := by have := hi.out; omega
  have hw5 : IntKind.i64.wrap (i : Int) = (i : Int) := IntWalk.i64_in _ (by omega)
  have hmr := hid (show 0 < lr.length by have := hm.out; omega)
  have tri : Hid (Tri f w w p q r (.slice (some ad) l.length cl) (.slice (some kad) ps.length kc) (.slice Aq lq.length cq) (.slice Kq pq.length ckq) (.slice (some ar) (m + 1) cr) (.slice Kr pr.length ckr) l.length ps.length lq.length pq.length (m + 1) pr.length (tents l) (ptrs ps) (tents lq) (ptrs pq) (tents lr) (ptrs pr)) := H
  have hE1 : Hid (∀ W : World, W.ownsRow 0 65 2 (.slice (some ad) l.length cl) l.length (tents l) → W.cell? (ad.add (j * 2)) = some (.string (tth l j).key) ∧ W.cell? ⟨(ad.add (j * 2)).block, (ad.add (j * 2)).off + 1, none⟩ = some (.int .i64 (tth l j).no)) := fun W h => own_entryA h hj
  have hE5 : Hid (∀ W : World, W.ownsRow 0 65 2 (.slice (some ar) (m + 1) cr) (m + 1) (tents lr) → W.cell? ar = some (.string (tth lr 0).key) ∧ W.cell? ⟨ar.block, ar.off + 1, none⟩ = some (.int .i64 (tth lr 0).no)) := fun W h => own_entry0 h hmr.out
  have lp := (Array.getElem?_eq_some_iff.1 H.hp).1
  clear hr1 hr2 hr3 hr4 hr5 hr6 z0 z1 H
  replace hq := hid hq
  replace hr := hid hr
  go_enter Tryz.func87, Tryz.ntmps87
  go_upto_region 0 with fail
  go_quiet (fail)
  clear y0 y1 x1 lp
  rename_i nq
  replace tri := hid (tri.out.ext (Ext.drewN w nq))
  generalize w.drewN nq = W0 at *
  have hw3 : (0 : Int) < (m : Int) + 1 := by omega
  go_upto_region 1 with fail
  have tri1 := hid (tri.out.ext (Ext.refl W0).drew_right)
  have I0 : (fun w' : World => w'.cell? ⟨q, 0, none⟩ = some (.slice Aq lq.length cq) ∧ w'.cell? ⟨p, 0, none⟩ = some (.slice (some ad) l.length cl) ∧ w'.cell? (ad.add (j * 2)) = some (.string (tth l j).key) ∧ w'.cell? ⟨(ad.add (j * 2)).block, (ad.add (j * 2)).off + 1, none⟩ = some (.int .i64 (tth l j).no)) W0.drew := ⟨node_c0 tri1.out.hq, node_c0 tri1.out.hp, (hE1.out _ tri1.out.o1).1, (hE1.out _ tri1.out.o1).2⟩
  refine region_J (fun w' : World => w'.cell? ⟨q, 0, none⟩ = some (.slice Aq lq.length cq) ∧ w'.cell? ⟨p, 0, none⟩ = some (.slice (some ad) l.length cl) ∧ w'.cell? (ad.add (j * 2)) = some (.string (tth l j).key) ∧ w'.cell? ⟨(ad.add (j * 2)).block, (ad.add (j * 2)).off + 1, none⟩ = some (.int .i64 (tth l j).no)) 16 (by kernel_rfl) ?_
  clear tri
  generalize W0.drew = W at *
  refine JT 0 (v := ?va0) I0 ?ya0 ?ra0
  case ya0 => (intro w h; obtain ⟨_, _, _, _⟩ := h; go_simp; with_reducible rfl)
  simp only [Act.put, lyA, lyB, lyC, lyD, lyE, lyF]
  refine JT 1 (v := ?va1) I0 ?ya1 ?ra1
  case ya1 => (intro w h; obtain ⟨_, _, _, _⟩ := h; go_simp; with_reducible rfl)
  simp only [Act.put, lyA, lyB, lyC, lyD, lyE, lyF]
  refine JT 2 (v := ?va2) I0 ?ya2 ?ra2
  case ya2 => (intro w h; obtain ⟨_, _, _, _⟩ := h; go_simp; with_reducible rfl)
  simp only [Act.put, lyA, lyB, lyC, lyD, lyE, lyF]
  refine JT 3 (v := ?va3) I0 ?ya3 ?ra3
  case ya3 => (intro w h; obtain ⟨_, _, _, _⟩ := h; go_simp; with_reducible rfl)
  simp only [Act.put, lyA, lyB, lyC, lyD, lyE, lyF]
  refine JT 4 (v := ?va4) I0 ?ya4 ?ra4
  case ya4 => (intro w h; obtain ⟨_, _, _, _⟩ := h; go_simp; with_reducible rfl)
  simp only [Act.put, lyA, lyB, lyC, lyD, lyE, lyF]
  refine JT 5 (v := ?va5) I0 ?ya5 ?ra5
  case ya5 => (intro w h; obtain ⟨_, _, _, _⟩ := h; go_simp; with_reducible rfl)
  simp only [Act.put, lyA, lyB, lyC, lyD, lyE, lyF]
  refine JT 6 (v := ?va6) I0 ?ya6 ?ra6
  case ya6 => (intro w h; obtain ⟨_, _, _, _⟩ := h; go_simp; with_reducible rfl)
  simp only [Act.put, lyA, lyB, lyC, lyD, lyE, lyF]
  refine JT 7 (v := ?va7) I0 ?ya7 ?ra7
  case ya7 => (intro w h; obtain ⟨_, _, _, _⟩ := h; go_simp; with_reducible rfl)
  simp only [Act.put, lyA, lyB, lyC, lyD, lyE, lyF]
  refine JT 8 (v := ?va8) I0 ?ya8 ?ra8
  case ya8 => (intro w h; obtain ⟨_, _, _, _⟩ := h; go_simp; with_reducible rfl)
  simp only [Act.put, lyA, lyB, lyC, lyD, lyE, lyF]
  refine JT 9 (v := ?va9) I0 ?ya9 ?ra9
  case ya9 => (intro w h; obtain ⟨_, _, _, _⟩ := h; go_simp; with_reducible rfl)
  simp only [Act.put, lyA, lyB, lyC, lyD, lyE, lyF]
  refine JT 10 (v := ?va10) I0 ?ya10 ?ra10
  case ya10 => (intro w h; obtain ⟨_, _, _, _⟩ := h; go_simp; with_reducible rfl)
  simp only [Act.put, lyA, lyB, lyC, lyD, lyE, lyF]
  refine JT 11 (v := ?va11) I0 ?ya11 ?ra11
  case ya11 => (intro w h; obtain ⟨_, _, _, _⟩ := h; go_simp; with_reducible rfl)
  simp only [Act.put, lyA, lyB, lyC, lyD, lyE, lyF]
  refine J_one 12 rfl (by kernel_rfl) (fun K hK => ?_)
  go_simp
  have tri2 := hid (tri1.out.ext ((Ext.refl W).alloc_right (.cells #[.string (tth l j).key, .int .i64 (tth l j).no] 65)))
  have hva := hid (heap_alloc_new W (.cells #[.string (tth l j).key, .int .i64 (tth l j).no] 65))
  have I1 : (fun w' : World => w'.cell? ⟨q, 0, none⟩ = some (.slice Aq lq.length cq) ∧ w'.cell? ⟨p, 0, none⟩ = some (.slice (some ad) l.length cl) ∧ w'.cell? (ad.add (j * 2)) = some (.string (tth l j).key) ∧ w'.cell? ⟨(ad.add (j * 2)).block, (ad.add (j * 2)).off + 1, none⟩ = some (.int .i64 (tth l j).no)) (W.alloc (.cells #[.string (tth l j).key, .int .i64 (tth l j).no] 65)) := ⟨((Ext.refl W).alloc_right _).cell I0.1, ((Ext.refl W).alloc_right _).cell I0.2.1, ((Ext.refl W).alloc_right _).cell I0.2.2.1, ((Ext.refl W).alloc_right _).cell I0.2.2.2⟩
  clear tri1
  generalize W.heap.size = va at *
  generalize W.alloc (.cells #[.string (tth l j).key, .int .i64 (tth l j).no] 65) = W1 at *
  obtain ⟨v', W2, happ, ho', hrw⟩ := appN W1 45 _ lq.length (tents lq) tri2.out.o3 (some ⟨va, 0, none⟩) 1 1 [.string (tth l j).key, .int .i64 (tth l j).no] (rd_new hva.out) (tents_one [tth l j]) (by omega)
  have tri3 : ∀ u, u = v' → Tri f w (W2.setCell ⟨q, 0, none⟩ u) p q r (.slice (some ad) l.length cl) (.slice (some kad) ps.length kc) u (.slice Kq pq.length ckq) (.slice (some ar) (m + 1) cr) (.slice Kr pr.length ckr) l.length ps.length (lq.length + 1) pq.length (m + 1) pr.length (tents l) (ptrs ps) (tents lq ++ [.string (tth l j).key, .int .i64 (tth l j).no]) (ptrs pq) (tents lr) (ptrs pr) := fun u e => by rw [e]; exact (tri2.out.rot.rep0 hrw.1 ho' hrw.2).rot.rot
  replace tri3 := hid tri3
  have hbq : W2.heap[q]? = some (.cells #[.slice Aq lq.length cq, .slice Kq pq.length ckq] 48 (0, 0)) := (hrw.1.block q (Array.getElem?_eq_some_iff.1 tri2.out.hq).1 (fun e0 => by have := tri2.out.nd q; rw [ob_some e0.symm, one_self] at this; omega)).trans tri2.out.hq
  have hbp : W2.heap[p]? = some (.cells #[(.slice (some ad) l.length cl), (.slice (some kad) ps.length kc)] 48 (0, 0)) := (hrw.1.block p (Array.getElem?_eq_some_iff.1 tri2.out.hp).1 (fun e0 => by have := tri2.out.nd p; rw [ob_some e0.symm, one_self] at this; omega)).trans tri2.out.hp
  have hr2 := node_c0 hbq
  have hf2 := Lib.frozen_of_heap hbq 0
  have hE := hE1.out W2 (own_ne tri2.out.o1 hrw.1 (fun k e e2 => by have := tri2.out.nd k; rw [ob_some e, ob_some e2] at this; omega))
  have I2 : (fun w' : World => w'.cell? ⟨q, 0, none⟩ = some (.slice Aq lq.length cq) ∧ w'.cell? ⟨p, 0, none⟩ = some (.slice (some ad) l.length cl) ∧ w'.cell? (ad.add (j * 2)) = some (.string (tth l j).key) ∧ w'.cell? ⟨(ad.add (j * 2)).block, (ad.add (j * 2)).off + 1, none⟩ = some (.int .i64 (tth l j).no)) W2 := ⟨hr2, node_c0 hbp, hE.1, hE.2⟩
  obtain ⟨Av, cv, rfl, -⟩ := own_form ho'
  replace happ := hid happ
  clear ho' hrw tri2 hva I0 hE hbq hbp
  refine hK _ _ ⟨fun _ => I1, ?_⟩
  clear hK K
  try simp only [Act.put, lyA, lyB, lyC, lyD, lyE, lyF]
  refine J_one 13 rfl (by kernel_rfl) (fun K hK => ?_)
  refine step_run rfl _ (ex_append _ _ _ _ rfl _ _ (by simp [Act.eval, Act.put]) (by simp [Act.eval, Act.put]) _ happ.out) ?_
  refine hK _ _ ⟨fun _ => I2, ?_⟩
  clear hK K
  try simp only [Act.put, lyA, lyB, lyC, lyD, lyE, lyF]
  refine J_one 14 rfl (by kernel_rfl) (fun K hK => ?_)
  go_simp
  refine hK _ _ ⟨fun _ => I2, ?_⟩
  clear hK K
  try simp only [Act.put, lyD, lyE, lyF]
  refine J_one 15 rfl (by kernel_rfl) (fun K hK => ?_)
  go_simp
  refine hK _ _ ⟨fun _ => I2, ?_⟩
  clear hK K
  try simp only [Act.put, lyD, lyE, lyF]
  refine J_one 16 rfl (by kernel_rfl) (fun K hK => ?_)
  go_simp
  refine hK _ _ ⟨fun h => absurd rfl h, ?_⟩
  clear hK K
  refine J_done (by kernel_rfl) (OnlyOn.normal ?_)
  replace tri3 := hid (tri3.out _ rfl)
  rw [show tents lq ++ [.string (tth l j).key, .int .i64 (tth l j).no] = tents (lq ++ [tth l j]) by rw [tents_append]; rfl] at tri3
  clear I2 I1 hr2 hf2 happ
  generalize W2.setCell ⟨q, 0, none⟩ (.slice Av (lq.length + 1) cv) = W3 at *
  go_upto_region 2 with fail
  have tri4 := hid (tri3.out.ext (Ext.refl W3).drew_right)
  have I0 : (fun w' : World => w'.cell? ⟨p, 0, none⟩ = some (.slice (some ad) l.length cl) ∧ w'.cell? ⟨r, 0, none⟩ = some (.slice (some ar) (m + 1) cr) ∧ w'.cell? ar = some (.string (tth lr 0).key) ∧ w'.cell? ⟨ar.block, ar.off + 1, none⟩ = some (.int .i64 (tth lr 0).no)) W3.drew := ⟨node_c0 tri4.out.hp, node_c0 tri4.out.hr, (hE5.out _ tri4.out.o5).1, (hE5.out _ tri4.out.o5).2⟩
  refine region_J (fun w' : World => w'.cell? ⟨p, 0, none⟩ = some (.slice (some ad) l.length cl) ∧ w'.cell? ⟨r, 0, none⟩ = some (.slice (some ar) (m + 1) cr) ∧ w'.cell? ar = some (.string (tth lr 0).key) ∧ w'.cell? ⟨ar.block, ar.off + 1, none⟩ = some (.int .i64 (tth lr 0).no)) 12 (by kernel_rfl) ?_
  clear tri3
  generalize W3.drew = W at *
  have hf1 := (own_freeA tri4.out.o1 (j * 2)).1
  have hz0 := (own_entryA tri4.out.o1 hj).1
  have hz1 := (own_midA tri4.out.o1 hj (.string (tth lr 0).key)).1
  have hf2 := (own_midA tri4.out.o1 hj (.string (tth lr 0).key)).2
  refine JT 0 (v := ?vb0) I0 ?yb0 ?rb0
  case yb0 => (intro w h; obtain ⟨_, _, _, _⟩ := h; go_simp; with_reducible rfl)
  simp only [Act.put, lyA, lyB, lyC, lyD, lyE, lyF]
  refine JT 1 (v := ?vb1) I0 ?yb1 ?rb1
  case yb1 => (intro w h; obtain ⟨_, _, _, _⟩ := h; go_simp; with_reducible rfl)
  simp only [Act.put, lyA, lyB, lyC, lyD, lyE, lyF]
  refine JT 2 (v := ?vb2) I0 ?yb2 ?rb2
  case yb2 => (intro w h; obtain ⟨_, _, _, _⟩ := h; go_simp; with_reducible rfl)
  simp only [Act.put, lyA, lyB, lyC, lyD, lyE, lyF]
  refine JT 3 (v := ?vb3) I0 ?yb3 ?rb3
  case yb3 => (intro w h; obtain ⟨_, _, _, _⟩ := h; go_simp; with_reducible rfl)
  simp only [Act.put, lyA, lyB, lyC, lyD, lyE, lyF]
  refine JT 4 (v := ?vb4) I0 ?yb4 ?rb4
  case yb4 => (intro w h; obtain ⟨_, _, _, _⟩ := h; go_simp; with_reducible rfl)
  simp only [Act.put, lyA, lyB, lyC, lyD, lyE, lyF]
  refine JT 5 (v := ?vb5) I0 ?yb5 ?rb5
  case yb5 => (intro w h; obtain ⟨_, _, _, _⟩ := h; go_simp; with_reducible rfl)
  simp only [Act.put, lyA, lyB, lyC, lyD, lyE, lyF]
  refine JT 6 (v := ?vb6) I0 ?yb6 ?rb6
  case yb6 => (intro w h; obtain ⟨_, _, _, _⟩ := h; go_simp; with_reducible rfl)
  simp only [Act.put, lyA, lyB, lyC, lyD, lyE, lyF]
  refine JT 7 (v := ?vb7) I0 ?yb7 ?rb7
  case yb7 => (intro w h; obtain ⟨_, _, _, _⟩ := h; go_simp; with_reducible rfl)
  simp only [Act.put, lyA, lyB, lyC, lyD, lyE, lyF]
  refine JT 8 (v := ?vb8) I0 ?yb8 ?rb8
  case yb8 => (intro w h; obtain ⟨_, _, _, _⟩ := h; go_simp; with_reducible rfl)
  simp only [Act.put, lyA, lyB, lyC, lyD, lyE, lyF]
  refine JT 9 (v := ?vb9) I0 ?yb9 ?rb9
  case yb9 => (intro w h; obtain ⟨_, _, _, _⟩ := h; go_simp; with_reducible rfl)
  simp only [Act.put, lyA, lyB, lyC, lyD, lyE, lyF]
  refine JT 10 (v := ?vb10) I0 ?yb10 ?rb10
  case yb10 => (intro w h; obtain ⟨_, _, _, _⟩ := h; go_simp; with_reducible rfl)
  simp only [Act.put, lyA, lyB, lyC, lyD, lyE, lyF]
  refine J_one 11 rfl (by kernel_rfl) (fun K hK => ?_)
  go_simp
  refine hK _ _ ⟨fun _ => I0, ?_⟩
  clear hK K
  try simp only [Act.put, lyD, lyE, lyF]
  refine J_one 12 rfl (by kernel_rfl) (fun K hK => ?_)
  go_simp
  refine hK _ _ ⟨fun h => absurd rfl h, ?_⟩
  clear hK K
  refine J_done (by kernel_rfl) (OnlyOn.normal ?_)
  have tri5 := hid (tri4.out.row0 (own_turnA (x := tth lr 0) tri4.out.o1 hj).2 (own_turnA (x := tth lr 0) tri4.out.o1 hj).1)
  clear hf1 hf2 hz0 hz1 I0 tri4
  generalize (W.setCell (ad.add (j * 2)) (.string (tth lr 0).key)).setCell ⟨(ad.add (j * 2)).block, (ad.add (j * 2)).off + 1, none⟩ (.int .i64 (tth lr 0).no) = W4 at *
  have x3 := node_c0 tri5.out.hr
  have lrW := (Array.getElem?_eq_some_iff.1 tri5.out.hr).1
  go_wp2_with fail
  clear x3
  refine (del_N (m + 1) 0 _ (tents lr) W4 (by omega) (by omega) tri5.out.o5 (tents_one _)).mono ?_
  rintro e W5 ⟨v', rfl, ho', hrw⟩
  rw [Nat.add_sub_cancel] at ho'
  have tri6 : ∀ u, u = v' → Tri f w (W5.setCell ⟨r, 0, none⟩ u) p q r (.slice (some ad) l.length cl) (.slice (some kad) ps.length kc) (.slice Av (lq.length + 1) cv) (.slice Kq pq.length ckq) u (.slice Kr pr.length ckr) l.length ps.length (lq.length + 1) pq.length m pr.length (tents (l.set j (tth lr 0))) (ptrs ps) (tents (lq ++ [tth l j])) (ptrs pq) (tents (lr.drop 1)) (ptrs pr) := fun u e => by
    rw [e]
    have := (tri5.out.rot.rot.rep0 hrw.1 ho' hrw.2).rot
    rw [Nat.zero_mul, List.take_zero, List.nil_append, tents_drop] at this
    exact this
  replace tri6 := hid tri6
  have hbr : W5.heap[r]? = some (.cells #[(.slice (some ar) (m + 1) cr), .slice Kr pr.length ckr] 48 (0, 0)) := (hrw.1.block r (Array.getElem?_eq_some_iff.1 tri5.out.hr).1 (fun e0 => by have := tri5.out.nd r; rw [ob_some e0.symm, one_self] at this; omega)).trans tri5.out.hr
  have x3 := node_c0 hbr
  have x5 := Lib.frozen_of_heap hbr 0
  have lrV := (Array.getElem?_eq_some_iff.1 hbr).1
  obtain ⟨Ax, cx, rfl, hcx⟩ := own_form ho'
  have x6 : (W5.setCell ⟨r, 0, none⟩ (.slice Ax m cx)).cell? ⟨r, 1, none⟩ = some (.slice Kr pr.length ckr) := set_keep (node_c1 hbr) (off_ne (by decide))
  clear ho' hrw hbr
  rcases hpr with h0 | h6
  · have d5 : ¬ (0 : Int) < (pr.length : Int) := by omega
    have hpl := hid h0
    clear h0
    go_wp2_with fail
    clear x3 x5 x6
    replace tri6 := hid (tri6.out _ rfl)
    go_end0
    have e1 : l'.length = l.length := by rw [el.out, List.length_set]
    have e2 : lq'.length = lq.length + 1 := by rw [eq.out, List.length_append]; rfl
    have e3 : lr'.length = m := by rw [er.out, List.length_drop]; have := hm.out; omega
    obtain rfl : pr = [] := List.eq_nil_of_length_eq_zero hpl.out
    have e4 : pq' = pq := by rw [epq.out]; exact List.append_nil _
    obtain rfl : pr' = [] := epr.out
    rw [e1, e2, e3, e4, el.out, eq.out, er.out]
    exact ⟨rfl, _, _, _, _, _, _, tri6.out⟩
  · have d5 : (0 : Int) < (pr.length : Int) := by omega
    obtain ⟨akr, rfl⟩ := hkr.out (by omega)
    obtain ⟨u0, hu0⟩ : ∃ u0, pr[0]? = some u0 := ⟨_, List.getElem?_eq_getElem (by omega)⟩
    have hpl := hid h6
    replace hu0 := hid hu0
    have hwb : pr.length ≤ 12 := by omega
    clear h6
    go_upto_region 5 with fail
    clear x3 x5 x6
    replace tri6 := hid (tri6.out _ rfl)
    generalize (W5.setCell ⟨r, 0, none⟩ (.slice Ax m cx)) = W6 at *
    have tri7 := hid (tri6.out.ext (Ext.refl W6).drew_right)
    have I0 : (fun w' : World => w'.cell? ⟨q, 1, none⟩ = some (.slice Kq pq.length ckq) ∧ w'.cell? ⟨r, 1, none⟩ = some (.slice (some akr) pr.length ckr) ∧ w'.cell? akr = some (.pointer (some ⟨u0, 0, none⟩))) W6.drew := ⟨node_c1 tri7.out.hq, node_c1 tri7.out.hr, own_ptr0 tri7.out.o6 hu0.out⟩
    refine region_J (fun w' : World => w'.cell? ⟨q, 1, none⟩ = some (.slice Kq pq.length ckq) ∧ w'.cell? ⟨r, 1, none⟩ = some (.slice (some akr) pr.length ckr) ∧ w'.cell? akr = some (.pointer (some ⟨u0, 0, none⟩))) 15 (by kernel_rfl) ?_
    clear tri6
    generalize W6.drew = W at *
    refine JT 0 (v := ?vc0) I0 ?yc0 ?rc0
    case yc0 => (intro w h; obtain ⟨_, _, _⟩ := h; go_simp; with_reducible rfl)
    simp only [Act.put, lyA, lyB, lyC, lyD, lyE, lyF]
    refine JT 1 (v := ?vc1) I0 ?yc1 ?rc1
    case yc1 => (intro w h; obtain ⟨_, _, _⟩ := h; go_simp; with_reducible rfl)
    simp only [Act.put, lyA, lyB, lyC, lyD, lyE, lyF]
    refine JT 2 (v := ?vc2) I0 ?yc2 ?rc2
    case yc2 => (intro w h; obtain ⟨_, _, _⟩ := h; go_simp; with_reducible rfl)
    simp only [Act.put, lyA, lyB, lyC, lyD, lyE, lyF]
    refine JT 3 (v := ?vc3) I0 ?yc3 ?rc3
    case yc3 => (intro w h; obtain ⟨_, _, _⟩ := h; go_simp; with_reducible rfl)
    simp only [Act.put, lyA, lyB, lyC, lyD, lyE, lyF]
    refine JT 4 (v := ?vc4) I0 ?yc4 ?rc4
    case yc4 => (intro w h; obtain ⟨_, _, _⟩ := h; go_simp; with_reducible rfl)
    simp only [Act.put, lyA, lyB, lyC, lyD, lyE, lyF]
    refine JT 5 (v := ?vc5) I0 ?yc5 ?rc5
    case yc5 => (intro w h; obtain ⟨_, _, _⟩ := h; go_simp; with_reducible rfl)
    simp only [Act.put, lyA, lyB, lyC, lyD, lyE, lyF]
    refine JT 6 (v := ?vc6) I0 ?yc6 ?rc6
    case yc6 => (intro w h; obtain ⟨_, _, _⟩ := h; go_simp; with_reducible rfl)
    simp only [Act.put, lyA, lyB, lyC, lyD, lyE, lyF]
    refine JT 7 (v := ?vc7) I0 ?yc7 ?rc7
    case yc7 => (intro w h; obtain ⟨_, _, _⟩ := h; go_simp; with_reducible rfl)
    simp only [Act.put, lyA, lyB, lyC, lyD, lyE, lyF]
    refine JT 8 (v := ?vc8) I0 ?yc8 ?rc8
    case yc8 => (intro w h; obtain ⟨_, _, _⟩ := h; go_simp; with_reducible rfl)
    simp only [Act.put, lyA, lyB, lyC, lyD, lyE, lyF]
    refine JT 9 (v := ?vc9) I0 ?yc9 ?rc9
    case yc9 => (intro w h; obtain ⟨_, _, _⟩ := h; go_simp; with_reducible rfl)
    simp only [Act.put, lyA, lyB, lyC, lyD, lyE, lyF]
    refine JT 10 (v := ?vc10) I0 ?yc10 ?rc10
    case yc10 => (intro w h; obtain ⟨_, _, _⟩ := h; go_simp; with_reducible rfl)
    simp only [Act.put, lyA, lyB, lyC, lyD, lyE, lyF]
    refine J_one 11 rfl (by kernel_rfl) (fun K hK => ?_)
    go_simp
    have tri8 := hid (tri7.out.ext ((Ext.refl W).alloc_right (.cells #[.pointer (some ⟨u0, 0, none⟩)] 44)))
    have hva := hid (heap_alloc_new W (.cells #[.pointer (some ⟨u0, 0, none⟩)] 44))
    have I1 : (fun w' : World => w'.cell? ⟨q, 1, none⟩ = some (.slice Kq pq.length ckq) ∧ w'.cell? ⟨r, 1, none⟩ = some (.slice (some akr) pr.length ckr) ∧ w'.cell? akr = some (.pointer (some ⟨u0, 0, none⟩))) (W.alloc (.cells #[.pointer (some ⟨u0, 0, none⟩)] 44)) := ⟨((Ext.refl W).alloc_right _).cell I0.1, ((Ext.refl W).alloc_right _).cell I0.2.1, ((Ext.refl W).alloc_right _).cell I0.2.2⟩
    clear tri7
    generalize W.heap.size = va at *
    generalize W.alloc (.cells #[.pointer (some ⟨u0, 0, none⟩)] 44) = W1 at *
    obtain ⟨v', W2, happ, ho', hrw⟩ := appK W1 46 _ pq.length (ptrs pq) tri8.out.o4 (some ⟨va, 0, none⟩) 1 1 [.pointer (some ⟨u0, 0, none⟩)] (rd_new hva.out) (ptrs_one [u0]) (by omega)
    have tri9 : ∀ u, u = v' → Tri f w (W2.setCell ⟨q, 1, none⟩ u) p q r (.slice (some ad) l.length cl) (.slice (some kad) ps.length kc) (.slice Av (lq.length + 1) cv) u (.slice Ax m cx) (.slice (some akr) pr.length ckr) l.length ps.length (lq.length + 1) (pq.length + 1) m pr.length (tents (l.set j (tth lr 0))) (ptrs ps) (tents (lq ++ [tth l j])) (ptrs (pq ++ [u0])) (tents (lr.drop 1)) (ptrs pr) := fun u e => by
      rw [e, ptrs_append]
      exact (tri8.out.rot.rep1 hrw.1 ho' hrw.2).rot.rot
    replace tri9 := hid tri9
    have hbq : W2.heap[q]? = some (.cells #[.slice Av (lq.length + 1) cv, .slice Kq pq.length ckq] 48 (0, 0)) := (hrw.1.block q (Array.getElem?_eq_some_iff.1 tri8.out.hq).1 (fun e0 => by have := tri8.out.nd q; rw [ob_some e0.symm, one_self] at this; omega)).trans tri8.out.hq
    have hbr : W2.heap[r]? = some (.cells #[.slice Ax m cx, .slice (some akr) pr.length ckr] 48 (0, 0)) := (hrw.1.block r (Array.getElem?_eq_some_iff.1 tri8.out.hr).1 (fun e0 => by have := tri8.out.nd r; rw [ob_some e0.symm, one_self] at this; omega)).trans tri8.out.hr
    have hr2 := node_c1 hbq
    have hf2 := Lib.frozen_of_heap hbq 1
    have hE := own_ptr0 (own_ne tri8.out.o6 hrw.1 (fun k e e2 => by have := tri8.out.nd k; rw [ob_some e, ob_some e2] at this; omega)) hu0.out
    have I2 : (fun w' : World => w'.cell? ⟨q, 1, none⟩ = some (.slice Kq pq.length ckq) ∧ w'.cell? ⟨r, 1, none⟩ = some (.slice (some akr) pr.length ckr) ∧ w'.cell? akr = some (.pointer (some ⟨u0, 0, none⟩))) W2 := ⟨hr2, node_c1 hbr, hE⟩
    obtain ⟨Aw, cw, rfl, -⟩ := own_form ho'
    replace happ := hid happ
    clear ho' hrw tri8 hva I0 hE hbr hbq
    refine hK _ _ ⟨fun _ => I1, ?_⟩
    clear hK K
    try simp only [Act.put, lyA, lyB, lyC, lyD, lyE, lyF]
    refine J_one 12 rfl (by kernel_rfl) (fun K hK => ?_)
    refine step_run rfl _ (ex_append _ _ _ _ rfl _ _ (by simp [Act.eval, Act.put]) (by simp [Act.eval, Act.put]) _ happ.out) ?_
    refine hK _ _ ⟨fun _ => I2, ?_⟩
    clear hK K
    try simp only [Act.put, lyA, lyB, lyC, lyD, lyE, lyF]
    refine J_one 13 rfl (by kernel_rfl) (fun K hK => ?_)
    go_simp
    refine hK _ _ ⟨fun _ => I2, ?_⟩
    clear hK K
    try simp only [Act.put, lyD, lyE, lyF]
    refine J_one 14 rfl (by kernel_rfl) (fun K hK => ?_)
    go_simp
    refine hK _ _ ⟨fun _ => I2, ?_⟩
    clear hK K
    try simp only [Act.put, lyD, lyE, lyF]
    refine J_one 15 rfl (by kernel_rfl) (fun K hK => ?_)
    go_simp
    refine hK _ _ ⟨fun h => absurd rfl h, ?_⟩
    clear hK K
    refine J_done (by kernel_rfl) (OnlyOn.normal ?_)
    replace tri9 := hid (tri9.out _ rfl)
    clear I2 I1 hr2 hf2 happ
    generalize W2.setCell ⟨q, 1, none⟩ (.slice Aw (pq.length + 1) cw) = W3 at *
    have x3 := node_c1 tri9.out.hr
    have lrX := (Array.getElem?_eq_some_iff.1 tri9.out.hr).1
    go_wp2_with fail
    clear x3
    refine (del_K pr.length 0 _ (ptrs pr) W3 (by omega) (by omega) tri9.out.o6 (ptrs_one _)).mono ?_
    rintro e W7 ⟨v', rfl, ho', hrw⟩
    have tri10 : ∀ u, u = v' → Tri f w (W7.setCell ⟨r, 1, none⟩ u) p q r (.slice (some ad) l.length cl) (.slice (some kad) ps.length kc) (.slice Av (lq.length + 1) cv) (.slice Aw (pq.length + 1) cw) (.slice Ax m cx) u l.length ps.length (lq.length + 1) (pq.length + 1) m (pr.length - 1) (tents (l.set j (tth lr 0))) (ptrs ps) (tents (lq ++ [tth l j])) (ptrs (pq ++ [u0])) (tents (lr.drop 1)) (ptrs (pr.drop 1)) := fun u e => by
      rw [e]
      have := (tri9.out.rot.rot.rep1 hrw.1 ho' hrw.2).rot
      rw [Nat.zero_mul, List.take_zero, List.nil_append, ptrs_drop] at this
      exact this
    replace tri10 := hid tri10
    have hbr : W7.heap[r]? = some (.cells #[.slice Ax m cx, .slice (some akr) pr.length ckr] 48 (0, 0)) := (hrw.1.block r (Array.getElem?_eq_some_iff.1 tri9.out.hr).1 (fun e0 => by have := tri9.out.nd r; rw [ob_some e0.symm, one_self] at this; omega)).trans tri9.out.hr
    have x3 := node_c1 hbr
    have x5 := Lib.frozen_of_heap hbr 1
    obtain ⟨Ay, cy, rfl, -⟩ := own_form ho'
    clear ho' hrw hbr tri9
    go_wp2_with fail
    clear x3 x5
    replace tri10 := hid (tri10.out _ rfl)
    go_end0
    have e1 : l'.length = l.length := by rw [el.out, List.length_set]
    have e2 : lq'.length = lq.length + 1 := by rw [eq.out, List.length_append]; rfl
    have e3 : lr'.length = m := by rw [er.out, List.length_drop]; have := hm.out; omega
    have e4 : pr'.length = pr.length - 1 := by rw [epr.out, List.length_drop]
    have e6 : pq' = pq ++ [u0] := by
      rw [epq.out]
      cases pr with
      | nil => cases hu0.out
      | cons a t => have := hu0.out; simp at this; rw [this]; rfl
    have e5 : pq'.length = pq.length + 1 := by rw [e6, List.length_append]; rfl
    rw [e1, e2, e3, e4, e5, el.out, eq.out, er.out, epr.out, e6]
    exact ⟨rfl, _, _, _, _, _, _, tri10.out⟩
open Go.RowKit Go.Shelf
theorem Rw.trans {a b c : Value} {w1 w2 w3 : World} (h : Rw a b w1 w2) (h2 : Rw b c w2 w3) : Rw a c w1 w3 := by
  obtain ⟨hg, hb⟩ := h
  obtain ⟨hg2, hb2⟩ := h2
  refine ⟨⟨hg2.os.trans hg.os, hg2.tape.trans hg.tape, hg2.output.trans hg.output, Nat.le_trans hg.size hg2.size, fun k hk hne => ?_⟩, ?_⟩
  · refine (hg2.block k (Nat.lt_of_lt_of_le hk hg.size) (fun e => ?_)).trans (hg.block k hk hne)
    rcases hb with h1 | h1
    · exact hne (e.trans h1)
    · have := h1 k e.symm; omega
  · rcases hb2 with h2 | h2
    · rcases hb with h1 | h1
      · exact .inl (h2.trans h1)
      · exact .inr (fun k e => h1 k (h2.symm.trans e))
    · exact .inr (fun k e => Nat.le_trans hg.size (h2 k e))
theorem join_any (f : Nat → Nat) (p q r i j t : Nat) (l lq lr : List Te) (ps pq pr : List Nat) (lv kv vq KQ vr KR : Value) (w : World)
    (H : Tri f w w p q r lv kv vq KQ vr KR l.length ps.length lq.length pq.length lr.length pr.length (tents l) (ptrs ps) (tents lq) (ptrs pq) (tents lr) (ptrs pr))
    (hq : ps[j]? = some q) (hr : ps[i]? = some r) (hi : Hid (i = j + 1)) (ht : Hid (t = i + 1)) (hj : j < l.length) (b1 : l.length ≤ 10) (b2 : ps.length ≤ 10) (b3 : lr.length ≤ 10) (b4 : lq.length ≤ 10) (b5 : pq.length ≤ 10) (b6 : pr.length ≤ 10)
    (l' lq' : List Te) (ps' pq' : List Nat) (el : Hid (l' = l.take j ++ l.drop i)) (eq : Hid (lq' = lq ++ tth l j :: lr)) (ep : Hid (ps' = ps.take i ++ ps.drop t)) (epq : Hid (pq' = pq ++ pr)) :
    Calls Tryz.prog 88 #[.pointer (some ⟨p, 0, none⟩), .int .i64 j] w fun e w' => e = .returned (.tuple #[]) ∧ ∃ lv' kv' vq' kq' vr' kr' : Value,
      Tri f w w' p q r lv' kv' vq' kq' vr' kr' l'.length ps'.length lq'.length pq'.length lr.length pr.length (tents l') (ptrs ps') (tents lq') (ptrs pq') (tents lr) (ptrs pr) := by
  obtain ⟨A1, cl, rfl, hr1⟩ := own_rd H.o1
  obtain ⟨ad, rfl, z0, z1⟩ := RdN.at_ hr1 hj
  obtain ⟨A2, kc, rfl, hr2⟩ := own_rd H.o2
  obtain ⟨kad, rfl, -⟩ := hr2.2.2.2 (by have := (List.getElem?_eq_some_iff.1 hq).1; omega)
  obtain ⟨Aq, cq, rfl, hr3⟩ := own_rd H.o3
  obtain ⟨Ar, cr, rfl, hr5⟩ := own_rd H.o5
  obtain ⟨Kq, ckq, rfl, hr4⟩ := own_rd H.o4
  obtain ⟨Kr, ckr, rfl, hr6⟩ := own_rd H.o6
  have y0 := rd_ptr hr2 hq
  have y1 := rd_ptr hr2 hr
  have x1 := node_c1 H.hp
  have mx1 := Rd.max hr1
  have mx2 := Rd.max hr2
  have mx3 := Rd.max hr3
  have mx5 := Rd.max hr5
  have mx4 := Rd.max hr4
  have mx6 := Rd.max hr6
  have hjp := (List.getElem?_eq_some_iff.1 hq).1
  have hip := (List.getElem?_eq_some_iff.1 hr).1
  have hw1 : IntKind.i64.wrap ((j : Int) + 1) = (i : Int) := by have := hi.out; rw [IntWalk.i64_in _ (by omega)]; omega
  have hw2 : ((j : Int) + 1) = (i : Int) := by have := hi.out; omega
  have hw5 : IntKind.i64.wrap (i : Int) = (i : Int) := IntWalk.i64_in _ (by omega)
  have hw3 : ((j : Int) + 2) = (t : Int) := by have := hi.out; have := ht.out; omega
  have tri : Hid (Tri f w w p q r (.slice (some ad) l.length cl) (.slice (some kad) ps.length kc) (.slice Aq lq.length cq) (.slice Kq pq.length ckq) (.slice Ar lr.length cr) (.slice Kr pr.length ckr) l.length ps.length lq.length pq.length lr.length pr.length (tents l) (ptrs ps) (tents lq) (ptrs pq) (tents lr) (ptrs pr)) := H
  have hE1 : Hid (∀ W : World, W.ownsRow 0 65 2 (.slice (some ad) l.length cl) l.length (tents l) → W.cell? (ad.add (j * 2)) = some (.string (tth l j).key) ∧ W.cell? ⟨(ad.add (j * 2)).block, (ad.add (j * 2)).off + 1, none⟩ = some (.int .i64 (tth l j).no)) := fun W h => own_entryA h hj
  have lp := (Array.getElem?_eq_some_iff.1 H.hp).1
  clear hr1 hr2 hr3 hr4 hr5 hr6 z0 z1 H
  replace hq := hid hq
  replace hr := hid hr
  go_enter Tryz.func88, Tryz.ntmps88
  go_upto_region 0 with fail
  go_quiet (fail)
  clear y0 y1 x1 lp
  rename_i nq
  replace tri := hid (tri.out.ext (Ext.drewN w nq))
  generalize w.drewN nq = W0 at *
  go_upto_region 1 with fail
  have tri1 := hid (tri.out.ext (Ext.refl W0).drew_right)
  have I0 : (fun w' : World => w'.cell? ⟨q, 0, none⟩ = some (.slice Aq lq.length cq) ∧ w'.cell? ⟨p, 0, none⟩ = some (.slice (some ad) l.length cl) ∧ w'.cell? (ad.add (j * 2)) = some (.string (tth l j).key) ∧ w'.cell? ⟨(ad.add (j * 2)).block, (ad.add (j * 2)).off + 1, none⟩ = some (.int .i64 (tth l j).no) ∧ w'.cell? ⟨r, 0, none⟩ = some (.slice Ar lr.length cr)) W0.drew := ⟨node_c0 tri1.out.hq, node_c0 tri1.out.hp, (hE1.out _ tri1.out.o1).1, (hE1.out _ tri1.out.o1).2, node_c0 tri1.out.hr⟩
  refine region_J (fun w' : World => w'.cell? ⟨q, 0, none⟩ = some (.slice Aq lq.length cq) ∧ w'.cell? ⟨p, 0, none⟩ = some (.slice (some ad) l.length cl) ∧ w'.cell? (ad.add (j * 2)) = some (.string (tth l j).key) ∧ w'.cell? ⟨(ad.add (j * 2)).block, (ad.add (j * 2)).off + 1, none⟩ = some (.int .i64 (tth l j).no) ∧ w'.cell? ⟨r, 0, none⟩ = some (.slice Ar lr.length cr)) 21 (by kernel_rfl) ?_
  clear tri
  generalize W0.drew = W at *
  refine JT 0 (v := ?va0) I0 ?ya0 ?ra0
  case ya0 => (intro w h; obtain ⟨_, _, _, _, _⟩ := h; go_simp; with_reducible rfl)
  simp only [Act.put, lyA, lyB, lyC, lyD, lyE, lyF]
  refine JT 1 (v := ?va1) I0 ?ya1 ?ra1
  case ya1 => (intro w h; obtain ⟨_, _, _, _, _⟩ := h; go_simp; with_reducible rfl)
  simp only [Act.put, lyA, lyB, lyC, lyD, lyE, lyF]
  refine JT 2 (v := ?va2) I0 ?ya2 ?ra2
  case ya2 => (intro w h; obtain ⟨_, _, _, _, _⟩ := h; go_simp; with_reducible rfl)
  simp only [Act.put, lyA, lyB, lyC, lyD, lyE, lyF]
  refine JT 3 (v := ?va3) I0 ?ya3 ?ra3
  case ya3 => (intro w h; obtain ⟨_, _, _, _, _⟩ := h; go_simp; with_reducible rfl)
  simp only [Act.put, lyA, lyB, lyC, lyD, lyE, lyF]
  refine JT 4 (v := ?va4) I0 ?ya4 ?ra4
  case ya4 => (intro w h; obtain ⟨_, _, _, _, _⟩ := h; go_simp; with_reducible rfl)
  simp only [Act.put, lyA, lyB, lyC, lyD, lyE, lyF]
  refine JT 5 (v := ?va5) I0 ?ya5 ?ra5
  case ya5 => (intro w h; obtain ⟨_, _, _, _, _⟩ := h; go_simp; with_reducible rfl)
  simp only [Act.put, lyA, lyB, lyC, lyD, lyE, lyF]
  refine JT 6 (v := ?va6) I0 ?ya6 ?ra6
  case ya6 => (intro w h; obtain ⟨_, _, _, _, _⟩ := h; go_simp; with_reducible rfl)
  simp only [Act.put, lyA, lyB, lyC, lyD, lyE, lyF]
  refine JT 7 (v := ?va7) I0 ?ya7 ?ra7
  case ya7 => (intro w h; obtain ⟨_, _, _, _, _⟩ := h; go_simp; with_reducible rfl)
  simp only [Act.put, lyA, lyB, lyC, lyD, lyE, lyF]
  refine JT 8 (v := ?va8) I0 ?ya8 ?ra8
  case ya8 => (intro w h; obtain ⟨_, _, _, _, _⟩ := h; go_simp; with_reducible rfl)
  simp only [Act.put, lyA, lyB, lyC, lyD, lyE, lyF]
  refine JT 9 (v := ?va9) I0 ?ya9 ?ra9
  case ya9 => (intro w h; obtain ⟨_, _, _, _, _⟩ := h; go_simp; with_reducible rfl)
  simp only [Act.put, lyA, lyB, lyC, lyD, lyE, lyF]
  refine JT 10 (v := ?va10) I0 ?ya10 ?ra10
  case ya10 => (intro w h; obtain ⟨_, _, _, _, _⟩ := h; go_simp; with_reducible rfl)
  simp only [Act.put, lyA, lyB, lyC, lyD, lyE, lyF]
  refine JT 11 (v := ?va11) I0 ?ya11 ?ra11
  case ya11 => (intro w h; obtain ⟨_, _, _, _, _⟩ := h; go_simp; with_reducible rfl)
  simp only [Act.put, lyA, lyB, lyC, lyD, lyE, lyF]
  refine JT 14 (v := ?va14) I0 ?ya14 ?ra14
  case ya14 => (intro w h; obtain ⟨_, _, _, _, _⟩ := h; go_simp; with_reducible rfl)
  simp only [Act.put, lyA, lyB, lyC, lyD, lyE, lyF]
  refine JT 15 (v := ?va15) I0 ?ya15 ?ra15
  case ya15 => (intro w h; obtain ⟨_, _, _, _, _⟩ := h; go_simp; with_reducible rfl)
  simp only [Act.put, lyA, lyB, lyC, lyD, lyE, lyF]
  refine JT 16 (v := ?va16) I0 ?ya16 ?ra16
  case ya16 => (intro w h; obtain ⟨_, _, _, _, _⟩ := h; go_simp; with_reducible rfl)
  simp only [Act.put, lyA, lyB, lyC, lyD, lyE, lyF]
  refine JT 17 (v := ?va17) I0 ?ya17 ?ra17
  case ya17 => (intro w h; obtain ⟨_, _, _, _, _⟩ := h; go_simp; with_reducible rfl)
  simp only [Act.put, lyA, lyB, lyC, lyD, lyE, lyF]
  refine J_one 12 rfl (by kernel_rfl) (fun K hK => ?_)
  go_simp
  have tri2 := hid (tri1.out.ext ((Ext.refl W).alloc_right (.cells #[.string (tth l j).key, .int .i64 (tth l j).no] 65)))
  have hva := hid (heap_alloc_new W (.cells #[.string (tth l j).key, .int .i64 (tth l j).no] 65))
  have I1 : (fun w' : World => w'.cell? ⟨q, 0, none⟩ = some (.slice Aq lq.length cq) ∧ w'.cell? ⟨p, 0, none⟩ = some (.slice (some ad) l.length cl) ∧ w'.cell? (ad.add (j * 2)) = some (.string (tth l j).key) ∧ w'.cell? ⟨(ad.add (j * 2)).block, (ad.add (j * 2)).off + 1, none⟩ = some (.int .i64 (tth l j).no) ∧ w'.cell? ⟨r, 0, none⟩ = some (.slice Ar lr.length cr)) (W.alloc (.cells #[.string (tth l j).key, .int .i64 (tth l j).no] 65)) := ⟨((Ext.refl W).alloc_right _).cell I0.1, ((Ext.refl W).alloc_right _).cell I0.2.1, ((Ext.refl W).alloc_right _).cell I0.2.2.1, ((Ext.refl W).alloc_right _).cell I0.2.2.2.1, ((Ext.refl W).alloc_right _).cell I0.2.2.2.2⟩
  clear tri1
  generalize W.heap.size = va at *
  generalize W.alloc (.cells #[.string (tth l j).key, .int .i64 (tth l j).no] 65) = W1 at *
  obtain ⟨v1, W2, happ, ho1, hrw1⟩ := appN W1 45 _ lq.length (tents lq) tri2.out.o3 (some ⟨va, 0, none⟩) 1 1 [.string (tth l j).key, .int .i64 (tth l j).no] (rd_new hva.out) (tents_one [tth l j]) (by omega)
  have hr5 : Rd W2 2 Ar lr.length cr (tents lr) := Rd.of_own (own_ne tri2.out.o5 hrw1.1 (fun k e e2 => by have := tri2.out.nd k; rw [ob_some e, ob_some e2] at this; omega))
  obtain ⟨v', W3, happ2, ho', hrw2⟩ := appN W2 45 v1 (lq.length + 1) _ ho1 Ar lr.length cr (tents lr) hr5 (tents_one _) (by omega)
  have hI : ∀ V u, Rw (.slice Aq lq.length cq) u W1 V → (fun w' : World => w'.cell? ⟨q, 0, none⟩ = some (.slice Aq lq.length cq) ∧ w'.cell? ⟨p, 0, none⟩ = some (.slice (some ad) l.length cl) ∧ w'.cell? (ad.add (j * 2)) = some (.string (tth l j).key) ∧ w'.cell? ⟨(ad.add (j * 2)).block, (ad.add (j * 2)).off + 1, none⟩ = some (.int .i64 (tth l j).no) ∧ w'.cell? ⟨r, 0, none⟩ = some (.slice Ar lr.length cr)) V ∧ V.frozen? ⟨q, 0, none⟩ = false := fun V u hrw => by
    have hbq : V.heap[q]? = some (.cells #[.slice Aq lq.length cq, .slice Kq pq.length ckq] 48 (0, 0)) := (hrw.1.block q (Array.getElem?_eq_some_iff.1 tri2.out.hq).1 (fun e0 => by have := tri2.out.nd q; rw [ob_some e0.symm, one_self] at this; omega)).trans tri2.out.hq
    have hbp : V.heap[p]? = some (.cells #[(.slice (some ad) l.length cl), (.slice (some kad) ps.length kc)] 48 (0, 0)) := (hrw.1.block p (Array.getElem?_eq_some_iff.1 tri2.out.hp).1 (fun e0 => by have := tri2.out.nd p; rw [ob_some e0.symm, one_self] at this; omega)).trans tri2.out.hp
    have hbr : V.heap[r]? = some (.cells #[.slice Ar lr.length cr, .slice Kr pr.length ckr] 48 (0, 0)) := (hrw.1.block r (Array.getElem?_eq_some_iff.1 tri2.out.hr).1 (fun e0 => by have := tri2.out.nd r; rw [ob_some e0.symm, one_self] at this; omega)).trans tri2.out.hr
    have hE := hE1.out V (own_ne tri2.out.o1 hrw.1 (fun k e e2 => by have := tri2.out.nd k; rw [ob_some e, ob_some e2] at this; omega))
    exact ⟨⟨node_c0 hbq, node_c0 hbp, hE.1, hE.2, node_c0 hbr⟩, Lib.frozen_of_heap hbq 0⟩
  have hrw := hrw1.trans hrw2
  have tri3 : ∀ u, u = v' → Tri f w (W3.setCell ⟨q, 0, none⟩ u) p q r (.slice (some ad) l.length cl) (.slice (some kad) ps.length kc) u (.slice Kq pq.length ckq) (.slice Ar lr.length cr) (.slice Kr pr.length ckr) l.length ps.length (lq.length + 1 + lr.length) pq.length lr.length pr.length (tents l) (ptrs ps) (tents lq ++ [.string (tth l j).key, .int .i64 (tth l j).no] ++ tents lr) (ptrs pq) (tents lr) (ptrs pr) := fun u e => by rw [e]; exact (tri2.out.rot.rep0 hrw.1 ho' hrw.2).rot.rot
  replace tri3 := hid tri3
  have I2 := (hI W2 _ hrw1).1
  have I3 := (hI W3 _ hrw).1
  have hf2 := (hI W3 _ hrw).2
  have hr2 := I3.1
  obtain ⟨Av, cv, rfl, -⟩ := own_form ho'
  obtain ⟨Au, cu, rfl, -⟩ := own_form ho1
  replace happ := hid happ
  replace happ2 := hid happ2
  clear ho' ho1 hrw hrw1 hrw2 hr5 hI tri2 hva I0
  refine hK _ _ ⟨fun _ => I1, ?_⟩
  clear hK K
  try simp only [Act.put, lyA, lyB, lyC, lyD, lyE, lyF]
  refine J_one 13 rfl (by kernel_rfl) (fun K hK => ?_)
  refine step_run rfl _ (ex_append _ _ _ _ rfl _ _ (by simp [Act.eval, Act.put]) (by simp [Act.eval, Act.put]) _ happ.out) ?_
  refine hK _ _ ⟨fun _ => I2, ?_⟩
  clear hK K
  try simp only [Act.put, lyA, lyB, lyC, lyD, lyE, lyF]
  refine J_one 18 rfl (by kernel_rfl) (fun K hK => ?_)
  refine step_run rfl _ (ex_append _ _ _ _ rfl _ _ (by simp [Act.eval, Act.put]) (by simp [Act.eval, Act.put]) _ happ2.out) ?_
  refine hK _ _ ⟨fun _ => I3, ?_⟩
  clear hK K
  try simp only [Act.put, lyA, lyB, lyC, lyD, lyE, lyF]
  refine J_one 19 rfl (by kernel_rfl) (fun K hK => ?_)
  go_simp
  refine hK _ _ ⟨fun _ => I3, ?_⟩
  clear hK K
  try simp only [Act.put, lyD, lyE, lyF]
  refine J_one 20 rfl (by kernel_rfl) (fun K hK => ?_)
  go_simp
  refine hK _ _ ⟨fun _ => I3, ?_⟩
  clear hK K
  try simp only [Act.put, lyD, lyE, lyF]
  refine J_one 21 rfl (by kernel_rfl) (fun K hK => ?_)
  go_simp
  refine hK _ _ ⟨fun h => absurd rfl h, ?_⟩
  clear hK K
  refine J_done (by kernel_rfl) (OnlyOn.normal ?_)
  replace tri3 := hid (tri3.out _ rfl)
  rw [show (tents lq ++ [.string (tth l j).key, .int .i64 (tth l j).no] ++ tents lr) = tents (lq ++ tth l j :: lr) by rw [tents_append]; simp [tents, tcells]] at tri3
  clear I3 I2 I1 hr2 hf2 happ happ2
  generalize hlen : lq.length + 1 + lr.length = nq2 at *
  replace hlen := hid hlen
  generalize W3.setCell ⟨q, 0, none⟩ (.slice Av nq2 cv) = W3 at *
  go_upto_region 2 with fail
  have tri4 := hid (tri3.out.ext (Ext.refl W3).drew_right)
  have I0 : (fun w' : World => w'.cell? ⟨q, 1, none⟩ = some (.slice Kq pq.length ckq) ∧ w'.cell? ⟨r, 1, none⟩ = some (.slice Kr pr.length ckr)) W3.drew := ⟨node_c1 tri4.out.hq, node_c1 tri4.out.hr⟩
  refine region_J (fun w' : World => w'.cell? ⟨q, 1, none⟩ = some (.slice Kq pq.length ckq) ∧ w'.cell? ⟨r, 1, none⟩ = some (.slice Kr pr.length ckr)) 12 (by kernel_rfl) ?_
  clear tri3
  generalize W3.drew = W at *
  refine JT 0 (v := ?vb0) I0 ?yb0 ?rb0
  case yb0 => (intro w h; obtain ⟨_, _⟩ := h; go_simp; with_reducible rfl)
  simp only [Act.put, lyA, lyB, lyC, lyD, lyE, lyF]
  refine JT 1 (v := ?vb1) I0 ?yb1 ?rb1
  case yb1 => (intro w h; obtain ⟨_, _⟩ := h; go_simp; with_reducible rfl)
  simp only [Act.put, lyA, lyB, lyC, lyD, lyE, lyF]
  refine JT 2 (v := ?vb2) I0 ?yb2 ?rb2
  case yb2 => (intro w h; obtain ⟨_, _⟩ := h; go_simp; with_reducible rfl)
  simp only [Act.put, lyA, lyB, lyC, lyD, lyE, lyF]
  refine JT 3 (v := ?vb3) I0 ?yb3 ?rb3
  case yb3 => (intro w h; obtain ⟨_, _⟩ := h; go_simp; with_reducible rfl)
  simp only [Act.put, lyA, lyB, lyC, lyD, lyE, lyF]
  refine JT 4 (v := ?vb4) I0 ?yb4 ?rb4
  case yb4 => (intro w h; obtain ⟨_, _⟩ := h; go_simp; with_reducible rfl)
  simp only [Act.put, lyA, lyB, lyC, lyD, lyE, lyF]
  refine JT 5 (v := ?vb5) I0 ?yb5 ?rb5
  case yb5 => (intro w h; obtain ⟨_, _⟩ := h; go_simp; with_reducible rfl)
  simp only [Act.put, lyA, lyB, lyC, lyD, lyE, lyF]
  refine JT 6 (v := ?vb6) I0 ?yb6 ?rb6
  case yb6 => (intro w h; obtain ⟨_, _⟩ := h; go_simp; with_reducible rfl)
  simp only [Act.put, lyA, lyB, lyC, lyD, lyE, lyF]
  refine JT 7 (v := ?vb7) I0 ?yb7 ?rb7
  case yb7 => (intro w h; obtain ⟨_, _⟩ := h; go_simp; with_reducible rfl)
  simp only [Act.put, lyA, lyB, lyC, lyD, lyE, lyF]
  refine JT 8 (v := ?vb8) I0 ?yb8 ?rb8
  case yb8 => (intro w h; obtain ⟨_, _⟩ := h; go_simp; with_reducible rfl)
  simp only [Act.put, lyA, lyB, lyC, lyD, lyE, lyF]
  refine J_one 9 rfl (by kernel_rfl) (fun K hK => ?_)
  obtain ⟨v', W2, happ, ho', hrw⟩ := appK W 46 _ pq.length (ptrs pq) tri4.out.o4 Kr pr.length ckr (ptrs pr) (Rd.of_own tri4.out.o6) (ptrs_one _) (by omega)
  have tri5 : ∀ u, u = v' → Tri f w (W2.setCell ⟨q, 1, none⟩ u) p q r (.slice (some ad) l.length cl) (.slice (some kad) ps.length kc) (.slice Av nq2 cv) u (.slice Ar lr.length cr) (.slice Kr pr.length ckr) l.length ps.length nq2 (pq.length + pr.length) lr.length pr.length (tents l) (ptrs ps) (tents (lq ++ tth l j :: lr)) (ptrs (pq ++ pr)) (tents lr) (ptrs pr) := fun u e => by
    rw [e, ptrs_append]
    exact (tri4.out.rot.rep1 hrw.1 ho' hrw.2).rot.rot
  replace tri5 := hid tri5
  have hbq : W2.heap[q]? = some (.cells #[.slice Av nq2 cv, .slice Kq pq.length ckq] 48 (0, 0)) := (hrw.1.block q (Array.getElem?_eq_some_iff.1 tri4.out.hq).1 (fun e0 => by have := tri4.out.nd q; rw [ob_some e0.symm, one_self] at this; omega)).trans tri4.out.hq
  have hbr : W2.heap[r]? = some (.cells #[.slice Ar lr.length cr, .slice Kr pr.length ckr] 48 (0, 0)) := (hrw.1.block r (Array.getElem?_eq_some_iff.1 tri4.out.hr).1 (fun e0 => by have := tri4.out.nd r; rw [ob_some e0.symm, one_self] at this; omega)).trans tri4.out.hr
  have hr2 := node_c1 hbq
  have hf2 := Lib.frozen_of_heap hbq 1
  have I2 : (fun w' : World => w'.cell? ⟨q, 1, none⟩ = some (.slice Kq pq.length ckq) ∧ w'.cell? ⟨r, 1, none⟩ = some (.slice Kr pr.length ckr)) W2 := ⟨hr2, node_c1 hbr⟩
  obtain ⟨Aw, cw, rfl, -⟩ := own_form ho'
  replace happ := hid happ
  clear ho' hrw tri4 I0 hbr hbq
  refine step_run rfl _ (ex_append _ _ _ _ rfl _ _ (by simp [Act.eval, Act.put]) (by simp [Act.eval, Act.put]) _ happ.out) ?_
  refine hK _ _ ⟨fun _ => I2, ?_⟩
  clear hK K
  try simp only [Act.put, lyA, lyB, lyC, lyD, lyE, lyF]
  refine J_one 10 rfl (by kernel_rfl) (fun K hK => ?_)
  go_simp
  refine hK _ _ ⟨fun _ => I2, ?_⟩
  clear hK K
  try simp only [Act.put, lyD, lyE, lyF]
  refine J_one 11 rfl (by kernel_rfl) (fun K hK => ?_)
  go_simp
  refine hK _ _ ⟨fun _ => I2, ?_⟩
  clear hK K
  try simp only [Act.put, lyD, lyE, lyF]
  refine J_one 12 rfl (by kernel_rfl) (fun K hK => ?_)
  go_simp
  refine hK _ _ ⟨fun h => absurd rfl h, ?_⟩
  clear hK K
  refine J_done (by kernel_rfl) (OnlyOn.normal ?_)
  replace tri5 := hid (tri5.out _ rfl)
  clear I2 hr2 hf2 happ
  generalize hlen2 : pq.length + pr.length = nk2 at *
  replace hlen2 := hid hlen2
  generalize W2.setCell ⟨q, 1, none⟩ (.slice Aw nk2 cw) = W3 at *
  have x3 := node_c0 tri5.out.hp
  have lpX := (Array.getElem?_eq_some_iff.1 tri5.out.hp).1
  have hD := del_N l.length j _ (tents l) W3 hj (by omega) tri5.out.o1 (tents_one _)
  rw [← hi.out] at hD
  replace hD := hid hD
  go_wp2_with fail
  clear x3
  refine hD.out.mono ?_
  rintro e W7 ⟨v', rfl, ho', hrw⟩
  have tri6 : ∀ u, u = v' → Tri f w (W7.setCell ⟨p, 0, none⟩ u) p q r u (.slice (some kad) ps.length kc) (.slice Av nq2 cv) (.slice Aw nk2 cw) (.slice Ar lr.length cr) (.slice Kr pr.length ckr) (l.length - 1) ps.length nq2 nk2 lr.length pr.length (tents (l.take j ++ l.drop i)) (ptrs ps) (tents (lq ++ tth l j :: lr)) (ptrs (pq ++ pr)) (tents lr) (ptrs pr) := fun u e => by
    rw [e]
    have := tri5.out.rep0 hrw.1 ho' hrw.2
    rw [tents_take, tents_drop, ← tents_append] at this
    exact this
  replace tri6 := hid tri6
  have hbp : W7.heap[p]? = some (.cells #[(.slice (some ad) l.length cl), (.slice (some kad) ps.length kc)] 48 (0, 0)) := (hrw.1.block p (Array.getElem?_eq_some_iff.1 tri5.out.hp).1 (fun e0 => by have := tri5.out.nd p; rw [ob_some e0.symm, one_self] at this; omega)).trans tri5.out.hp
  have x3 := node_c0 hbp
  have x5 := Lib.frozen_of_heap hbp 0
  obtain ⟨Ay, cy, rfl, -⟩ := own_form ho'
  have x6 : (W7.setCell ⟨p, 0, none⟩ (.slice Ay (l.length - 1) cy)).cell? ⟨p, 1, none⟩ = some (.slice (some kad) ps.length kc) := set_keep (node_c1 hbp) (off_ne (by decide))
  have lp7 := (Array.getElem?_eq_some_iff.1 hbp).1
  replace tri6 := hid (tri6.out _ rfl)
  have hD2 := del_K ps.length i _ (ptrs ps) _ hip (by omega) tri6.out.o2 (ptrs_one _)
  rw [← ht.out] at hD2
  replace hD2 := hid hD2
  clear ho' hrw hbp tri5 hD
  go_wp2_with fail
  clear x3 x5 x6
  refine hD2.out.mono ?_
  rintro e W8 ⟨v', rfl, ho', hrw⟩
  have tri7 : ∀ u, u = v' → Tri f w (W8.setCell ⟨p, 1, none⟩ u) p q r (.slice Ay (l.length - 1) cy) u (.slice Av nq2 cv) (.slice Aw nk2 cw) (.slice Ar lr.length cr) (.slice Kr pr.length ckr) (l.length - 1) (ps.length - 1) nq2 nk2 lr.length pr.length (tents (l.take j ++ l.drop i)) (ptrs (ps.take i ++ ps.drop t)) (tents (lq ++ tth l j :: lr)) (ptrs (pq ++ pr)) (tents lr) (ptrs pr) := fun u e => by
    rw [e]
    have := tri6.out.rep1 hrw.1 ho' hrw.2
    rw [Nat.mul_one, Nat.mul_one, ptrs_take, ptrs_drop, ← ptrs_append] at this
    exact this
  replace tri7 := hid tri7
  have hbp : W8.heap[p]? = some (.cells #[.slice Ay (l.length - 1) cy, (.slice (some kad) ps.length kc)] 48 (0, 0)) := (hrw.1.block p (Array.getElem?_eq_some_iff.1 tri6.out.hp).1 (fun e0 => by have := tri6.out.nd p; rw [ob_some e0.symm, one_self] at this; omega)).trans tri6.out.hp
  have x3 := node_c1 hbp
  have x5 := Lib.frozen_of_heap hbp 1
  obtain ⟨Az, cz, rfl, -⟩ := own_form ho'
  clear ho' hrw hbp tri6 hD2
  go_wp2_with fail
  clear x3 x5
  replace tri7 := hid (tri7.out _ rfl)
  go_end0
  have e1 : l'.length = l.length - 1 := by rw [el.out, List.length_append, List.length_take, List.length_drop]; have := hi.out; omega
  have e2 : lq'.length = nq2 := by rw [eq.out, List.length_append, List.length_cons]; have := hlen.out; omega
  have e3 : ps'.length = ps.length - 1 := by rw [ep.out, List.length_append, List.length_take, List.length_drop]; have := ht.out; omega
  have e4 : pq'.length = nk2 := by rw [epq.out, List.length_append]; exact hlen2.out
  rw [e1, e2, e3, e4, el.out, eq.out, ep.out, epq.out]
  exact ⟨rfl, _, _, _, _, _, _, tri7.out⟩
def kth (ks : List BT) (i : Nat) : BT := ks.getD i (.nd [] [])
theorem kth_get {ks : List BT} {i : Nat} (h : i < ks.length) : kth ks i = ks[i] := by simp [kth, List.getD, h]
def joinT (l : List Te) (ks : List BT) (i : Nat) : BT :=
  .nd (l.take i ++ l.drop (i + 1)) (ks.take i ++ .nd ((kth ks i).l ++ tth l i :: (kth ks (i + 1)).l) ((kth ks i).ks ++ (kth ks (i + 1)).ks) :: ks.drop (i + 2))
def leftT (l : List Te) (ks : List BT) (i : Nat) : BT :=
  .nd (l.take i ++ tth (kth ks i).l ((kth ks i).l.length - 1) :: l.drop (i + 1))
    (ks.take i ++ .nd ((kth ks i).l.take ((kth ks i).l.length - 1)) ((kth ks i).ks.take ((kth ks i).ks.length - 1)) :: .nd (tth l i :: (kth ks (i + 1)).l) ((kth ks i).ks.drop ((kth ks i).ks.length - 1) ++ (kth ks (i + 1)).ks) :: ks.drop (i + 2))
def rightT (l : List Te) (ks : List BT) (i : Nat) : BT :=
  .nd (l.take i ++ tth (kth ks (i + 1)).l 0 :: l.drop (i + 1))
    (ks.take i ++ .nd ((kth ks i).l ++ [tth l i]) ((kth ks i).ks ++ (kth ks (i + 1)).ks.take 1) :: .nd ((kth ks (i + 1)).l.drop 1) ((kth ks (i + 1)).ks.drop 1) :: ks.drop (i + 2))
def fillT (l : List Te) (ks : List BT) (i : Nat) : BT :=
  if 2 ≤ (kth ks i).l.length then .nd l ks else if 0 < i ∧ 2 < (kth ks (i - 1)).l.length then leftT l ks (i - 1)
  else if i < l.length ∧ 2 < (kth ks (i + 1)).l.length then rightT l ks i else if 0 < i then joinT l ks (i - 1) else joinT l ks i
theorem tlW_join {x : Te} {rl : List Te} {r : List Te} {rs : List (List Te)} : ∀ {ll : List Te} {ms : List (List Te)}, ms.length = ll.length → tlW (ll ++ x :: rl) (ms ++ r :: rs) = tlW ll ms ++ x :: wv rl (r :: rs)
  | [], [], _ => rfl
  | y :: ll, m :: ms, h => by
    have ih := tlW_join (x := x) (rl := rl) (r := r) (rs := rs) (ll := ll) (ms := ms) (by simpa using h)
    show y :: (m ++ tlW (ll ++ x :: rl) (ms ++ r :: rs)) = (y :: (m ++ tlW ll ms)) ++ x :: wv rl (r :: rs)
    rw [ih]
    simp
theorem wv_join {x : Te} {ll rl : List Te} {lm rm : List (List Te)} (h : lm.length = ll.length + 1) (hr : rm.length = rl.length + 1) : wv (ll ++ x :: rl) (lm ++ rm) = wv ll lm ++ x :: wv rl rm := by
  match lm, rm, h, hr with
  | m :: ms, r :: rs, h, hr =>
    show m ++ tlW (ll ++ x :: rl) (ms ++ r :: rs) = (m ++ tlW ll ms) ++ x :: wv rl (r :: rs)
    rw [tlW_join (by simpa using h)]
    simp
theorem joinK {x : Te} : ∀ {h : Nat} {ll rl : List Te} {lk rk : List BT}, Shp h (.nd ll lk) → Shp h (.nd rl rk) → Shp h (.nd (ll ++ x :: rl) (lk ++ rk)) ∧ flat h (.nd (ll ++ x :: rl) (lk ++ rk)) = flat h (.nd ll lk) ++ x :: flat h (.nd rl rk)
  | 0, ll, rl, lk, rk, h1, h2 => by
    obtain rfl : lk = [] := h1
    obtain rfl : rk = [] := h2
    exact ⟨rfl, rfl⟩
  | h + 1, ll, rl, lk, rk, h1, h2 => by
    refine ⟨⟨?_, fun k hk => ?_⟩, ?_⟩
    · have a := h1.1
      have b := h2.1
      simp only [List.length_append, List.length_cons]
      omega
    · rcases List.mem_append.1 hk with hk | hk
      · exact h1.2 k hk
      · exact h2.2 k hk
    · show wv (ll ++ x :: rl) ((lk ++ rk).map (flat h)) = wv ll (lk.map (flat h)) ++ x :: wv rl (rk.map (flat h))
      rw [List.map_append]
      exact wv_join (by rw [List.length_map]; exact h1.1) (by rw [List.length_map]; exact h2.1)
theorem cutLast : ∀ {h : Nat} {ll : List Te} {lk : List BT}, Shp h (.nd ll lk) → 1 ≤ ll.length → Shp h (.nd (ll.take (ll.length - 1)) (lk.take (lk.length - 1))) ∧ Shp h (.nd [] (lk.drop (lk.length - 1))) ∧ ll = ll.take (ll.length - 1) ++ tth ll (ll.length - 1) :: [] ∧ lk = lk.take (lk.length - 1) ++ lk.drop (lk.length - 1)
  | h, ll, lk, hs, h1 => by
    have e1 : ll = ll.take (ll.length - 1) ++ tth ll (ll.length - 1) :: [] := by
      have e := list_cut (l := ll) (i := ll.length - 1) (by omega)
      rw [show ll.length - 1 + 1 = ll.length by omega, List.drop_length] at e
      rw [tth_get (by omega)]
      exact e
    refine ⟨?_, ?_, e1, (List.take_append_drop _ _).symm⟩
    · cases h with
      | zero => obtain rfl : lk = [] := hs; rfl
      | succ h =>
        have a := hs.1
        exact ⟨by rw [List.length_take, List.length_take]; omega, fun k hk => hs.2 k (List.mem_of_mem_take hk)⟩
    · cases h with
      | zero => obtain rfl : lk = [] := hs; rfl
      | succ h =>
        have a := hs.1
        exact ⟨by rw [List.length_drop, List.length_nil]; omega, fun k hk => hs.2 k (List.mem_of_mem_drop hk)⟩
theorem cutFirst : ∀ {h : Nat} {ll : List Te} {lk : List BT}, Shp h (.nd ll lk) → 1 ≤ ll.length → Shp h (.nd (ll.drop 1) (lk.drop 1)) ∧ Shp h (.nd [] (lk.take 1)) ∧ ll = [] ++ tth ll 0 :: ll.drop 1 ∧ lk = lk.take 1 ++ lk.drop 1
  | h, ll, lk, hs, h1 => by
    have e1 : ll = [] ++ tth ll 0 :: ll.drop 1 := by
      have e := list_cut (l := ll) (i := 0) (by omega)
      rw [tth_get (by omega)]
      exact e
    refine ⟨?_, ?_, e1, (List.take_append_drop _ _).symm⟩
    · cases h with
      | zero => obtain rfl : lk = [] := hs; rfl
      | succ h =>
        have a := hs.1
        exact ⟨by rw [List.length_drop, List.length_drop]; omega, fun k hk => hs.2 k (List.mem_of_mem_drop hk)⟩
    · cases h with
      | zero => obtain rfl : lk = [] := hs; rfl
      | succ h =>
        have a := hs.1
        exact ⟨by rw [List.length_take, List.length_nil]; omega, fun k hk => hs.2 k (List.mem_of_mem_take hk)⟩
theorem leftK {x : Te} {h : Nat} {ll kl : List Te} {lk kk : List BT} (h1 : Shp h (.nd ll lk)) (h2 : Shp h (.nd kl kk)) (hn : 1 ≤ ll.length) :
    Shp h (.nd (ll.take (ll.length - 1)) (lk.take (lk.length - 1))) ∧ Shp h (.nd (x :: kl) (lk.drop (lk.length - 1) ++ kk)) ∧
    flat h (.nd (ll.take (ll.length - 1)) (lk.take (lk.length - 1))) ++ tth ll (ll.length - 1) :: flat h (.nd (x :: kl) (lk.drop (lk.length - 1) ++ kk)) = flat h (.nd ll lk) ++ x :: flat h (.nd kl kk) := by
  obtain ⟨a, b, e1, e2⟩ := cutLast h1 hn
  have j1 := joinK (x := tth ll (ll.length - 1)) a b
  have j2 := joinK (x := x) b h2
  rw [← e1, ← e2] at j1
  refine ⟨a, j2.1, ?_⟩
  rw [j1.2, show (x :: kl) = [] ++ x :: kl from rfl, j2.2]
  simp
theorem rightK {x : Te} {h : Nat} {ll rl : List Te} {lk rk : List BT} (h1 : Shp h (.nd ll lk)) (h2 : Shp h (.nd rl rk)) (hn : 1 ≤ rl.length) :
    Shp h (.nd (ll ++ [x]) (lk ++ rk.take 1)) ∧ Shp h (.nd (rl.drop 1) (rk.drop 1)) ∧
    flat h (.nd (ll ++ [x]) (lk ++ rk.take 1)) ++ tth rl 0 :: flat h (.nd (rl.drop 1) (rk.drop 1)) = flat h (.nd ll lk) ++ x :: flat h (.nd rl rk) := by
  obtain ⟨a, b, e1, e2⟩ := cutFirst h2 hn
  have j1 := joinK (x := tth rl 0) b a
  have j2 := joinK (x := x) h1 b
  rw [← e1, ← e2] at j1
  refine ⟨j2.1, a, ?_⟩
  rw [j1.2, j2.2]
  simp
theorem one_flat {h : Nat} {a b : List Te} {p q : List BT} {J : BT} (hl : a.length = p.length) : flat (h + 1) (.nd (a ++ b) (p ++ J :: q)) = wvp a (p.map (flat h)) ++ (flat h J ++ tlW b (q.map (flat h))) := by
  show wv (a ++ b) ((p ++ J :: q).map (flat h)) = _
  rw [List.map_append, List.map_cons]
  exact wv_app (by rw [List.length_map]; exact hl)
theorem pair_flat {h : Nat} {a b : List Te} {p q : List BT} {x : Te} {L K : BT} (hl : a.length = p.length) : flat (h + 1) (.nd (a ++ x :: b) (p ++ L :: K :: q)) = wvp a (p.map (flat h)) ++ ((flat h L ++ x :: flat h K) ++ tlW b (q.map (flat h))) := by
  rw [one_flat hl]
  show wvp a (p.map (flat h)) ++ (flat h L ++ (x :: (flat h K ++ tlW b (q.map (flat h))))) = _
  simp
theorem nd_eta (K : BT) : BT.nd K.l K.ks = K := by cases K; rfl
structure Near (h : Nat) (l : List Te) (ks : List BT) (i : Nat) : Prop where
  len : ks.length = l.length + 1
  le : i ≤ l.length
  n1 : 1 ≤ l.length
  rest : ∀ j, j < ks.length → j ≠ i → 2 ≤ (kth ks j).l.length ∧ (kth ks j).l.length ≤ 4 ∧ Shp h (kth ks j)
  it : 1 ≤ (kth ks i).l.length ∧ (kth ks i).l.length ≤ 4 ∧ Shp h (kth ks i)
theorem pair_cut {l : List Te} {ks : List BT} {i : Nat} (hlen : ks.length = l.length + 1) (hi : i < l.length) : l = l.take i ++ tth l i :: l.drop (i + 1) ∧ ks = ks.take i ++ kth ks i :: kth ks (i + 1) :: ks.drop (i + 2) ∧ (l.take i).length = (ks.take i).length := by
  refine ⟨?_, ?_, by rw [List.length_take, List.length_take]; omega⟩
  · rw [tth_get hi]
    exact list_cut hi
  · have e1 := list_cut (l := ks) (i := i) (by omega)
    have e2 : ks.drop (i + 1) = ks[i + 1]'(by omega) :: ks.drop (i + 2) := List.drop_eq_getElem_cons (by omega)
    rw [e2] at e1
    rw [kth_get (by omega), kth_get (by omega)]
    exact e1
theorem Near.out {h : Nat} {l : List Te} {ks : List BT} {i j : Nat} (H : Near h l ks i) (hj : i = j ∨ i = j + 1) : ∀ K, (K ∈ ks.take j ∨ K ∈ ks.drop (j + 2)) → 2 ≤ K.l.length ∧ K.l.length ≤ 4 ∧ Shp h K := by
  intro K hK
  rcases hK with hK | hK
  · obtain ⟨q, hq, rfl⟩ := List.getElem_of_mem hK
    rw [List.length_take] at hq
    rw [List.getElem_take]
    have := H.rest q (by omega) (by omega)
    rwa [kth_get (by omega)] at this
  · obtain ⟨q, hq, rfl⟩ := List.getElem_of_mem hK
    rw [List.length_drop] at hq
    rw [List.getElem_drop]
    have := H.rest (j + 2 + q) (by omega) (by omega)
    rwa [kth_get (by omega)] at this
def Filled (h : Nat) (l : List Te) (ks : List BT) (T : BT) : Prop := Shp (h + 1) T ∧ flat (h + 1) T = flat (h + 1) (.nd l ks) ∧ l.length ≤ T.l.length + 1 ∧ T.l.length ≤ l.length
section
variable {h : Nat} {l : List Te} {ks : List BT} {i j : Nat}
theorem two_ok {L' K' : BT} {x' : Te} (H : Near h l ks i) (hj : j < l.length) (hij : i = j ∨ i = j + 1) (hL : 2 ≤ L'.l.length ∧ L'.l.length ≤ 4 ∧ Shp h L') (hK : 2 ≤ K'.l.length ∧ K'.l.length ≤ 4 ∧ Shp h K')
    (hf : flat h L' ++ x' :: flat h K' = flat h (kth ks j) ++ tth l j :: flat h (kth ks (j + 1))) : Filled h l ks (.nd (l.take j ++ x' :: l.drop (j + 1)) (ks.take j ++ L' :: K' :: ks.drop (j + 2))) := by
  obtain ⟨e1, e2, e3⟩ := pair_cut H.len hj
  have hlen := H.len
  have ho := H.out hij
  refine ⟨⟨?_, fun k hk => ?_⟩, ?_, ?_, ?_⟩
  · simp only [List.length_append, List.length_cons, List.length_take, List.length_drop]
    omega
  · rcases List.mem_append.1 hk with hk | hk
    · exact ho k (.inl hk)
    · rcases List.mem_cons.1 hk with rfl | hk
      · exact hL
      · rcases List.mem_cons.1 hk with rfl | hk
        · exact hK
        · exact ho k (.inr hk)
  · rw [pair_flat e3, hf, ← pair_flat e3, ← e1, ← e2]
  · show l.length ≤ (l.take j ++ x' :: l.drop (j + 1)).length + 1
    simp only [List.length_append, List.length_cons, List.length_take, List.length_drop]
    omega
  · show (l.take j ++ x' :: l.drop (j + 1)).length ≤ l.length
    simp only [List.length_append, List.length_cons, List.length_take, List.length_drop]
    omega
theorem one_ok {J : BT} (H : Near h l ks i) (hj : j < l.length) (hij : i = j ∨ i = j + 1) (hJ : 2 ≤ J.l.length ∧ J.l.length ≤ 4 ∧ Shp h J) (hf : flat h J = flat h (kth ks j) ++ tth l j :: flat h (kth ks (j + 1))) :
    Filled h l ks (.nd (l.take j ++ l.drop (j + 1)) (ks.take j ++ J :: ks.drop (j + 2))) := by
  obtain ⟨e1, e2, e3⟩ := pair_cut H.len hj
  have hlen := H.len
  have ho := H.out hij
  refine ⟨⟨?_, fun k hk => ?_⟩, ?_, ?_, ?_⟩
  · simp only [List.length_append, List.length_cons, List.length_take, List.length_drop]
    omega
  · rcases List.mem_append.1 hk with hk | hk
    · exact ho k (.inl hk)
    · rcases List.mem_cons.1 hk with rfl | hk
      · exact hJ
      · exact ho k (.inr hk)
  · rw [one_flat e3, hf, ← pair_flat e3, ← e1, ← e2]
  · show l.length ≤ (l.take j ++ l.drop (j + 1)).length + 1
    simp only [List.length_append, List.length_take, List.length_drop]
    omega
  · show (l.take j ++ l.drop (j + 1)).length ≤ l.length
    simp only [List.length_append, List.length_take, List.length_drop]
    omega
theorem fill_ok (H : Near h l ks i) : Filled h l ks (fillT l ks i) := by
  have hlen := H.len
  have hle := H.le
  have hn := H.n1
  unfold fillT
  split
  · rename_i h2
    refine ⟨⟨H.len, fun k hk => ?_⟩, rfl, Nat.le_succ _, Nat.le_refl _⟩
    obtain ⟨q, hq, rfl⟩ := List.getElem_of_mem hk
    rw [← kth_get hq]
    by_cases hqi : q = i
    · subst hqi
      exact ⟨h2, H.it.2⟩
    · exact H.rest q hq hqi
  · rename_i h2
    have hKi := H.it
    split
    · rename_i h3
      obtain ⟨j, rfl⟩ : ∃ j, i = j + 1 := ⟨i - 1, by omega⟩
      rw [Nat.add_sub_cancel] at h3 ⊢
      have hL := H.rest j (by omega) (by omega)
      have k := leftK (x := tth l j) (h := h) (ll := (kth ks j).l) (kl := (kth ks (j + 1)).l) (lk := (kth ks j).ks) (kk := (kth ks (j + 1)).ks) (by rw [nd_eta]; exact hL.2.2) (by rw [nd_eta]; exact hKi.2.2) (by omega)
      rw [nd_eta, nd_eta] at k
      refine two_ok H (by omega) (.inr rfl) ⟨?_, ?_, k.1⟩ ⟨?_, ?_, k.2.1⟩ k.2.2
      · show 2 ≤ ((kth ks j).l.take _).length
        rw [List.length_take]; omega
      · show ((kth ks j).l.take _).length ≤ 4
        rw [List.length_take]; omega
      · show 2 ≤ ((kth ks (j + 1)).l.length + 1)
        omega
      · show (kth ks (j + 1)).l.length + 1 ≤ 4
        omega
    · rename_i h3
      split
      · rename_i h4
        have hR := H.rest (i + 1) (by omega) (by omega)
        have k := rightK (x := tth l i) (h := h) (ll := (kth ks i).l) (rl := (kth ks (i + 1)).l) (lk := (kth ks i).ks) (rk := (kth ks (i + 1)).ks) (by rw [nd_eta]; exact hKi.2.2) (by rw [nd_eta]; exact hR.2.2) (by omega)
        rw [nd_eta, nd_eta] at k
        refine two_ok H h4.1 (.inl rfl) ⟨?_, ?_, k.1⟩ ⟨?_, ?_, k.2.1⟩ k.2.2
        · show 2 ≤ ((kth ks i).l ++ [tth l i]).length
          rw [List.length_append, List.length_singleton]; omega
        · show ((kth ks i).l ++ [tth l i]).length ≤ 4
          rw [List.length_append, List.length_singleton]; omega
        · show 2 ≤ ((kth ks (i + 1)).l.drop 1).length
          rw [List.length_drop]; omega
        · show ((kth ks (i + 1)).l.drop 1).length ≤ 4
          rw [List.length_drop]; omega
      · rename_i h4
        split
        · rename_i h5
          obtain ⟨j, rfl⟩ : ∃ j, i = j + 1 := ⟨i - 1, by omega⟩
          rw [Nat.add_sub_cancel] at h3 ⊢
          have hL := H.rest j (by omega) (by omega)
          have k := joinK (x := tth l j) (h := h) (ll := (kth ks j).l) (rl := (kth ks (j + 1)).l) (lk := (kth ks j).ks) (rk := (kth ks (j + 1)).ks) (by rw [nd_eta]; exact hL.2.2) (by rw [nd_eta]; exact hKi.2.2)
          rw [nd_eta, nd_eta] at k
          refine one_ok H (by omega) (.inr rfl) ⟨?_, ?_, k.1⟩ k.2
          · show 2 ≤ ((kth ks j).l ++ tth l j :: (kth ks (j + 1)).l).length
            rw [List.length_append, List.length_cons]; omega
          · show ((kth ks j).l ++ tth l j :: (kth ks (j + 1)).l).length ≤ 4
            rw [List.length_append, List.length_cons]; omega
        · rename_i h5
          obtain rfl : i = 0 := by omega
          rw [Nat.zero_add] at h4
          have hR := H.rest 1 (by omega) (by omega)
          have k := joinK (x := tth l 0) (h := h) (ll := (kth ks 0).l) (rl := (kth ks 1).l) (lk := (kth ks 0).ks) (rk := (kth ks 1).ks) (by rw [nd_eta]; exact hKi.2.2) (by rw [nd_eta]; exact hR.2.2)
          rw [nd_eta, nd_eta] at k
          refine one_ok H (by omega) (.inl rfl) ⟨?_, ?_, k.1⟩ k.2
          · show 2 ≤ ((kth ks 0).l ++ tth l 0 :: (kth ks 1).l).length
            rw [List.length_append, List.length_cons]; omega
          · show ((kth ks 0).l ++ tth l 0 :: (kth ks 1).l).length ≤ 4
            rw [List.length_append, List.length_cons]; omega
end
end Go.Proofs.YtjjikkhhlpikbaaGreatDoor
