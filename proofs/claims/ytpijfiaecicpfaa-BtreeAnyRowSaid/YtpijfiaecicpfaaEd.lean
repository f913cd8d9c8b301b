/-
  join: a kid, the entry behind it, and the next kid in one node.
-/
import Derived.Test.YtpijfiaecicpfaaEc
namespace Go.Proofs.Ytpijfiaecicpfaa
open Go.RowKit Go.Shelf
set_option linter.unusedVariables false
set_option linter.unusedSimpArgs false
theorem Rw.trans {a b c : Value} {w1 w2 w3 : World} (h : Rw a b w1 w2) (h2 : Rw b c w2 w3) : Rw a c w1 w3 := by
  obtain ⟨hg, hb⟩ := h
  obtain ⟨hg2, hb2⟩ := h2
  refine ⟨⟨hg2.os.trans hg.os, hg2.tape.trans hg.tape, hg2.output.trans hg.output, Nat.le_trans hg.size hg2.size, fun k hk hne => ?_⟩, ?_⟩
  · refine (hg2.block k (Nat.lt_of_lt_of_le hk hg.size) (fun e => ?_)).trans (hg.block k hk hne)
    rcases hb with h1 | h1
    · exact hne (e.trans h1)
    · have := h1 k e.symm; omega
  · rcases hb2 with h2 | h2
    · rcases hb with h1 | h1
      · exact .inl (h2.trans h1)
      · exact .inr (fun k e => h1 k (h2.symm.trans e))
    · exact .inr (fun k e => Nat.le_trans hg.size (h2 k e))
set_option maxRecDepth 100000 in
set_option maxHeartbeats 4000000 in
theorem join_any (f : Nat → Nat) (p q r i j t : Nat) (l lq lr : List Te) (ps pq pr : List Nat) (lv kv vq KQ vr KR : Value) (w : World)
    (H : Tri f w w p q r lv kv vq KQ vr KR l.length ps.length lq.length pq.length lr.length pr.length (tents l) (ptrs ps) (tents lq) (ptrs pq) (tents lr) (ptrs pr))
    (hq : ps[j]? = some q) (hr : ps[i]? = some r) (hi : Hid (i = j + 1)) (ht : Hid (t = i + 1)) (hj : j < l.length) (b1 : l.length ≤ 10) (b2 : ps.length ≤ 10) (b3 : lr.length ≤ 10) (b4 : lq.length ≤ 10) (b5 : pq.length ≤ 10) (b6 : pr.length ≤ 10)
    (l' lq' : List Te) (ps' pq' : List Nat) (el : Hid (l' = l.take j ++ l.drop i)) (eq : Hid (lq' = lq ++ tth l j :: lr)) (ep : Hid (ps' = ps.take i ++ ps.drop t)) (epq : Hid (pq' = pq ++ pr)) :
    Calls Try.prog 121 #[.pointer (some ⟨p, 0, none⟩), .int .i64 j] w fun e w' => e = .returned (.tuple #[]) ∧ ∃ lv' kv' vq' kq' vr' kr' : Value,
      Tri f w w' p q r lv' kv' vq' kq' vr' kr' l'.length ps'.length lq'.length pq'.length lr.length pr.length (tents l') (ptrs ps') (tents lq') (ptrs pq') (tents lr) (ptrs pr) := by
  obtain ⟨A1, cl, rfl, hr1⟩ := own_rd H.o1
  obtain ⟨ad, rfl, z0, z1⟩ := RdN.at_ hr1 hj
  obtain ⟨A2, kc, rfl, hr2⟩ := own_rd H.o2
  obtain ⟨kad, rfl, -⟩ := hr2.2.2.2 (by have := (List.getElem?_eq_some_iff.1 hq).1; omega)
  obtain ⟨Aq, cq, rfl, hr3⟩ := own_rd H.o3
  obtain ⟨Ar, cr, rfl, hr5⟩ := own_rd H.o5
  obtain ⟨Kq, ckq, rfl, hr4⟩ := own_rd H.o4
  obtain ⟨Kr, ckr, rfl, hr6⟩ := own_rd H.o6
  have y0 := rd_ptr hr2 hq
  have y1 := rd_ptr hr2 hr
  have x1 := node_c1 H.hp
  have mx1 := Rd.max hr1
  have mx2 := Rd.max hr2
  have mx3 := Rd.max hr3
  have mx5 := Rd.max hr5
  have mx4 := Rd.max hr4
  have mx6 := Rd.max hr6
  have hjp := (List.getElem?_eq_some_iff.1 hq).1
  have hip := (List.getElem?_eq_some_iff.1 hr).1
  have hw1 : IntKind.i64.wrap ((j : Int) + 1) = (i : Int) := by have := hi.out; rw [IntWalk.i64_in _ (by omega)]; omega
  have hw2 : ((j : Int) + 1) = (i : Int) := by have := hi.out; omega
  have hw5 : IntKind.i64.wrap (i : Int) = (i : Int) := IntWalk.i64_in _ (by omega)
  have hw3 : ((j : Int) + 2) = (t : Int) := by have := hi.out; have := ht.out; omega
  have tri : Hid (Tri f w w p q r (.slice (some ad) l.length cl) (.slice (some kad) ps.length kc) (.slice Aq lq.length cq) (.slice Kq pq.length ckq) (.slice Ar lr.length cr) (.slice Kr pr.length ckr) l.length ps.length lq.length pq.length lr.length pr.length (tents l) (ptrs ps) (tents lq) (ptrs pq) (tents lr) (ptrs pr)) := H
  have hE1 : Hid (∀ W : World, W.ownsRow 0 71 2 (.slice (some ad) l.length cl) l.length (tents l) → W.cell? (ad.add (j * 2)) = some (.string (tth l j).key) ∧ W.cell? ⟨(ad.add (j * 2)).block, (ad.add (j * 2)).off + 1, none⟩ = some (.int .i64 (tth l j).no)) := fun W h => own_entryA h hj
  have lp := (Array.getElem?_eq_some_iff.1 H.hp).1
  clear hr1 hr2 hr3 hr4 hr5 hr6 z0 z1 H
  replace hq := hid hq
  replace hr := hid hr
  go_enter Try.func121, Try.ntmps121
  go_upto_region 0 with fail
  go_quiet (fail)
  clear y0 y1 x1 lp
  rename_i nq
  replace tri := hid (tri.out.ext (Ext.drewN w nq))
  generalize w.drewN nq = W0 at *
  go_upto_region 1 with fail
  have tri1 := hid (tri.out.ext (Ext.refl W0).drew_right)
  have I0 : (fun w' : World => w'.cell? ⟨q, 0, none⟩ = some (.slice Aq lq.length cq) ∧ w'.cell? ⟨p, 0, none⟩ = some (.slice (some ad) l.length cl) ∧ w'.cell? (ad.add (j * 2)) = some (.string (tth l j).key) ∧ w'.cell? ⟨(ad.add (j * 2)).block, (ad.add (j * 2)).off + 1, none⟩ = some (.int .i64 (tth l j).no) ∧ w'.cell? ⟨r, 0, none⟩ = some (.slice Ar lr.length cr)) W0.drew := ⟨node_c0 tri1.out.hq, node_c0 tri1.out.hp, (hE1.out _ tri1.out.o1).1, (hE1.out _ tri1.out.o1).2, node_c0 tri1.out.hr⟩
  refine region_J (fun w' : World => w'.cell? ⟨q, 0, none⟩ = some (.slice Aq lq.length cq) ∧ w'.cell? ⟨p, 0, none⟩ = some (.slice (some ad) l.length cl) ∧ w'.cell? (ad.add (j * 2)) = some (.string (tth l j).key) ∧ w'.cell? ⟨(ad.add (j * 2)).block, (ad.add (j * 2)).off + 1, none⟩ = some (.int .i64 (tth l j).no) ∧ w'.cell? ⟨r, 0, none⟩ = some (.slice Ar lr.length cr)) 21 (by kernel_rfl) ?_
  clear tri
  generalize W0.drew = W at *
  refine J_take 0 (v := ?va0) rfl (by kernel_rfl) (by kernel_rfl) (by kernel_rfl) (by kernel_rfl) (fun _ _ _ h => h) (Or.inl ⟨by rfl, ?ya0⟩) I0 ?ra0
  case ya0 => (intro w hSw; obtain ⟨_, _, _, _, _⟩ := hSw; (go_simp; with_reducible rfl))
  simp only [Act.put, List.getElem_toArray, List.getElem_cons_zero, List.getElem_cons_succ, List.setIfInBounds_toArray, List.set_cons_zero, List.set_cons_succ]
  refine J_take 1 (v := ?va1) rfl (by kernel_rfl) (by kernel_rfl) (by kernel_rfl) (by kernel_rfl) (fun _ _ _ h => h) (Or.inl ⟨by rfl, ?ya1⟩) I0 ?ra1
  case ya1 => (intro w hSw; obtain ⟨_, _, _, _, _⟩ := hSw; (go_simp; with_reducible rfl))
  simp only [Act.put, List.getElem_toArray, List.getElem_cons_zero, List.getElem_cons_succ, List.setIfInBounds_toArray, List.set_cons_zero, List.set_cons_succ]
  refine J_take 2 (v := ?va2) rfl (by kernel_rfl) (by kernel_rfl) (by kernel_rfl) (by kernel_rfl) (fun _ _ _ h => h) (Or.inl ⟨by rfl, ?ya2⟩) I0 ?ra2
  case ya2 => (intro w hSw; obtain ⟨_, _, _, _, _⟩ := hSw; (go_simp; with_reducible rfl))
  simp only [Act.put, List.getElem_toArray, List.getElem_cons_zero, List.getElem_cons_succ, List.setIfInBounds_toArray, List.set_cons_zero, List.set_cons_succ]
  refine J_take 3 (v := ?va3) rfl (by kernel_rfl) (by kernel_rfl) (by kernel_rfl) (by kernel_rfl) (fun _ _ _ h => h) (Or.inl ⟨by rfl, ?ya3⟩) I0 ?ra3
  case ya3 => (intro w hSw; obtain ⟨_, _, _, _, _⟩ := hSw; (go_simp; with_reducible rfl))
  simp only [Act.put, List.getElem_toArray, List.getElem_cons_zero, List.getElem_cons_succ, List.setIfInBounds_toArray, List.set_cons_zero, List.set_cons_succ]
  refine J_take 4 (v := ?va4) rfl (by kernel_rfl) (by kernel_rfl) (by kernel_rfl) (by kernel_rfl) (fun _ _ _ h => h) (Or.inl ⟨by rfl, ?ya4⟩) I0 ?ra4
  case ya4 => (intro w hSw; obtain ⟨_, _, _, _, _⟩ := hSw; (go_simp; with_reducible rfl))
  simp only [Act.put, List.getElem_toArray, List.getElem_cons_zero, List.getElem_cons_succ, List.setIfInBounds_toArray, List.set_cons_zero, List.set_cons_succ]
  refine J_take 5 (v := ?va5) rfl (by kernel_rfl) (by kernel_rfl) (by kernel_rfl) (by kernel_rfl) (fun _ _ _ h => h) (Or.inl ⟨by rfl, ?ya5⟩) I0 ?ra5
  case ya5 => (intro w hSw; obtain ⟨_, _, _, _, _⟩ := hSw; (go_simp; with_reducible rfl))
  simp only [Act.put, List.getElem_toArray, List.getElem_cons_zero, List.getElem_cons_succ, List.setIfInBounds_toArray, List.set_cons_zero, List.set_cons_succ]
  refine J_take 6 (v := ?va6) rfl (by kernel_rfl) (by kernel_rfl) (by kernel_rfl) (by kernel_rfl) (fun _ _ _ h => h) (Or.inl ⟨by rfl, ?ya6⟩) I0 ?ra6
  case ya6 => (intro w hSw; obtain ⟨_, _, _, _, _⟩ := hSw; (go_simp; with_reducible rfl))
  simp only [Act.put, List.getElem_toArray, List.getElem_cons_zero, List.getElem_cons_succ, List.setIfInBounds_toArray, List.set_cons_zero, List.set_cons_succ]
  refine J_take 7 (v := ?va7) rfl (by kernel_rfl) (by kernel_rfl) (by kernel_rfl) (by kernel_rfl) (fun _ _ _ h => h) (Or.inl ⟨by rfl, ?ya7⟩) I0 ?ra7
  case ya7 => (intro w hSw; obtain ⟨_, _, _, _, _⟩ := hSw; (go_simp; with_reducible rfl))
  simp only [Act.put, List.getElem_toArray, List.getElem_cons_zero, List.getElem_cons_succ, List.setIfInBounds_toArray, List.set_cons_zero, List.set_cons_succ]
  refine J_take 8 (v := ?va8) rfl (by kernel_rfl) (by kernel_rfl) (by kernel_rfl) (by kernel_rfl) (fun _ _ _ h => h) (Or.inl ⟨by rfl, ?ya8⟩) I0 ?ra8
  case ya8 => (intro w hSw; obtain ⟨_, _, _, _, _⟩ := hSw; (go_simp; with_reducible rfl))
  simp only [Act.put, List.getElem_toArray, List.getElem_cons_zero, List.getElem_cons_succ, List.setIfInBounds_toArray, List.set_cons_zero, List.set_cons_succ]
  refine J_take 9 (v := ?va9) rfl (by kernel_rfl) (by kernel_rfl) (by kernel_rfl) (by kernel_rfl) (fun _ _ _ h => h) (Or.inl ⟨by rfl, ?ya9⟩) I0 ?ra9
  case ya9 => (intro w hSw; obtain ⟨_, _, _, _, _⟩ := hSw; (go_simp; with_reducible rfl))
  simp only [Act.put, List.getElem_toArray, List.getElem_cons_zero, List.getElem_cons_succ, List.setIfInBounds_toArray, List.set_cons_zero, List.set_cons_succ]
  refine J_take 10 (v := ?va10) rfl (by kernel_rfl) (by kernel_rfl) (by kernel_rfl) (by kernel_rfl) (fun _ _ _ h => h) (Or.inl ⟨by rfl, ?ya10⟩) I0 ?ra10
  case ya10 => (intro w hSw; obtain ⟨_, _, _, _, _⟩ := hSw; (go_simp; with_reducible rfl))
  simp only [Act.put, List.getElem_toArray, List.getElem_cons_zero, List.getElem_cons_succ, List.setIfInBounds_toArray, List.set_cons_zero, List.set_cons_succ]
  refine J_take 11 (v := ?va11) rfl (by kernel_rfl) (by kernel_rfl) (by kernel_rfl) (by kernel_rfl) (fun _ _ _ h => h) (Or.inl ⟨by rfl, ?ya11⟩) I0 ?ra11
  case ya11 => (intro w hSw; obtain ⟨_, _, _, _, _⟩ := hSw; (go_simp; with_reducible rfl))
  simp only [Act.put, List.getElem_toArray, List.getElem_cons_zero, List.getElem_cons_succ, List.setIfInBounds_toArray, List.set_cons_zero, List.set_cons_succ]
  refine J_take 14 (v := ?va14) rfl (by kernel_rfl) (by kernel_rfl) (by kernel_rfl) (by kernel_rfl) (fun _ _ _ h => h) (Or.inl ⟨by rfl, ?ya14⟩) I0 ?ra14
  case ya14 => (intro w hSw; obtain ⟨_, _, _, _, _⟩ := hSw; (go_simp; with_reducible rfl))
  simp only [Act.put, List.getElem_toArray, List.getElem_cons_zero, List.getElem_cons_succ, List.setIfInBounds_toArray, List.set_cons_zero, List.set_cons_succ]
  refine J_take 15 (v := ?va15) rfl (by kernel_rfl) (by kernel_rfl) (by kernel_rfl) (by kernel_rfl) (fun _ _ _ h => h) (Or.inl ⟨by rfl, ?ya15⟩) I0 ?ra15
  case ya15 => (intro w hSw; obtain ⟨_, _, _, _, _⟩ := hSw; (go_simp; with_reducible rfl))
  simp only [Act.put, List.getElem_toArray, List.getElem_cons_zero, List.getElem_cons_succ, List.setIfInBounds_toArray, List.set_cons_zero, List.set_cons_succ]
  refine J_take 16 (v := ?va16) rfl (by kernel_rfl) (by kernel_rfl) (by kernel_rfl) (by kernel_rfl) (fun _ _ _ h => h) (Or.inl ⟨by rfl, ?ya16⟩) I0 ?ra16
  case ya16 => (intro w hSw; obtain ⟨_, _, _, _, _⟩ := hSw; (go_simp; with_reducible rfl))
  simp only [Act.put, List.getElem_toArray, List.getElem_cons_zero, List.getElem_cons_succ, List.setIfInBounds_toArray, List.set_cons_zero, List.set_cons_succ]
  refine J_take 17 (v := ?va17) rfl (by kernel_rfl) (by kernel_rfl) (by kernel_rfl) (by kernel_rfl) (fun _ _ _ h => h) (Or.inl ⟨by rfl, ?ya17⟩) I0 ?ra17
  case ya17 => (intro w hSw; obtain ⟨_, _, _, _, _⟩ := hSw; (go_simp; with_reducible rfl))
  simp only [Act.put, List.getElem_toArray, List.getElem_cons_zero, List.getElem_cons_succ, List.setIfInBounds_toArray, List.set_cons_zero, List.set_cons_succ]
  refine J_one 12 rfl (by kernel_rfl) (fun K hK => ?_)
  go_simp
  have tri2 := hid (tri1.out.ext ((Ext.refl W).alloc_right (.cells #[.string (tth l j).key, .int .i64 (tth l j).no] 71)))
  have hva := hid (heap_alloc_new W (.cells #[.string (tth l j).key, .int .i64 (tth l j).no] 71))
  have I1 : (fun w' : World => w'.cell? ⟨q, 0, none⟩ = some (.slice Aq lq.length cq) ∧ w'.cell? ⟨p, 0, none⟩ = some (.slice (some ad) l.length cl) ∧ w'.cell? (ad.add (j * 2)) = some (.string (tth l j).key) ∧ w'.cell? ⟨(ad.add (j * 2)).block, (ad.add (j * 2)).off + 1, none⟩ = some (.int .i64 (tth l j).no) ∧ w'.cell? ⟨r, 0, none⟩ = some (.slice Ar lr.length cr)) (W.alloc (.cells #[.string (tth l j).key, .int .i64 (tth l j).no] 71)) := ⟨((Ext.refl W).alloc_right _).cell I0.1, ((Ext.refl W).alloc_right _).cell I0.2.1, ((Ext.refl W).alloc_right _).cell I0.2.2.1, ((Ext.refl W).alloc_right _).cell I0.2.2.2.1, ((Ext.refl W).alloc_right _).cell I0.2.2.2.2⟩
  clear tri1
  generalize W.heap.size = va at *
  generalize W.alloc (.cells #[.string (tth l j).key, .int .i64 (tth l j).no] 71) = W1 at *
  obtain ⟨v1, W2, happ, ho1, hrw1⟩ := appN W1 92 _ lq.length (tents lq) tri2.out.o3 (some ⟨va, 0, none⟩) 1 1 [.string (tth l j).key, .int .i64 (tth l j).no] (rd_new hva.out) (tents_one [tth l j]) (by omega)
  have hr5 : Rd W2 2 Ar lr.length cr (tents lr) := Rd.of_own (own_ne tri2.out.o5 hrw1.1 (fun k e e2 => by have := tri2.out.nd k; rw [ob_some e, ob_some e2] at this; omega))
  obtain ⟨v', W3, happ2, ho', hrw2⟩ := appN W2 92 v1 (lq.length + 1) _ ho1 Ar lr.length cr (tents lr) hr5 (tents_one _) (by omega)
  have hI : ∀ V u, Rw (.slice Aq lq.length cq) u W1 V → (fun w' : World => w'.cell? ⟨q, 0, none⟩ = some (.slice Aq lq.length cq) ∧ w'.cell? ⟨p, 0, none⟩ = some (.slice (some ad) l.length cl) ∧ w'.cell? (ad.add (j * 2)) = some (.string (tth l j).key) ∧ w'.cell? ⟨(ad.add (j * 2)).block, (ad.add (j * 2)).off + 1, none⟩ = some (.int .i64 (tth l j).no) ∧ w'.cell? ⟨r, 0, none⟩ = some (.slice Ar lr.length cr)) V ∧ V.frozen? ⟨q, 0, none⟩ = false := fun V u hrw => by
    have hbq : V.heap[q]? = some (.cells #[.slice Aq lq.length cq, .slice Kq pq.length ckq] 105 (0, 0)) := (hrw.1.block q (Array.getElem?_eq_some_iff.1 tri2.out.hq).1 (fun e0 => by have := tri2.out.nd q; rw [ob_some e0.symm, one_self] at this; omega)).trans tri2.out.hq
    have hbp : V.heap[p]? = some (.cells #[(.slice (some ad) l.length cl), (.slice (some kad) ps.length kc)] 105 (0, 0)) := (hrw.1.block p (Array.getElem?_eq_some_iff.1 tri2.out.hp).1 (fun e0 => by have := tri2.out.nd p; rw [ob_some e0.symm, one_self] at this; omega)).trans tri2.out.hp
    have hbr : V.heap[r]? = some (.cells #[.slice Ar lr.length cr, .slice Kr pr.length ckr] 105 (0, 0)) := (hrw.1.block r (Array.getElem?_eq_some_iff.1 tri2.out.hr).1 (fun e0 => by have := tri2.out.nd r; rw [ob_some e0.symm, one_self] at this; omega)).trans tri2.out.hr
    have hE := hE1.out V (own_ne tri2.out.o1 hrw.1 (fun k e e2 => by have := tri2.out.nd k; rw [ob_some e, ob_some e2] at this; omega))
    exact ⟨⟨node_c0 hbq, node_c0 hbp, hE.1, hE.2, node_c0 hbr⟩, Lib.frozen_of_heap hbq 0⟩
  have hrw := hrw1.trans hrw2
  have tri3 : ∀ u, u = v' → Tri f w (W3.setCell ⟨q, 0, none⟩ u) p q r (.slice (some ad) l.length cl) (.slice (some kad) ps.length kc) u (.slice Kq pq.length ckq) (.slice Ar lr.length cr) (.slice Kr pr.length ckr) l.length ps.length (lq.length + 1 + lr.length) pq.length lr.length pr.length (tents l) (ptrs ps) (tents lq ++ [.string (tth l j).key, .int .i64 (tth l j).no] ++ tents lr) (ptrs pq) (tents lr) (ptrs pr) := fun u e => by rw [e]; exact (tri2.out.rot.rep0 hrw.1 ho' hrw.2).rot.rot
  replace tri3 := hid tri3
  have I2 := (hI W2 _ hrw1).1
  have I3 := (hI W3 _ hrw).1
  have hf2 := (hI W3 _ hrw).2
  have hr2 := I3.1
  obtain ⟨Av, cv, rfl, -⟩ := own_form ho'
  obtain ⟨Au, cu, rfl, -⟩ := own_form ho1
  replace happ := hid happ
  replace happ2 := hid happ2
  clear ho' ho1 hrw hrw1 hrw2 hr5 hI tri2 hva I0
  refine hK _ _ ⟨fun _ => I1, ?_⟩
  clear hK K
  try simp only [Act.put, List.getElem_toArray, List.getElem_cons_zero, List.getElem_cons_succ, List.setIfInBounds_toArray, List.set_cons_zero, List.set_cons_succ]
  refine J_one 13 rfl (by kernel_rfl) (fun K hK => ?_)
  refine step_run rfl _ (ex_append _ _ _ _ rfl _ _ (by simp [Act.eval, Act.put]) (by simp [Act.eval, Act.put]) _ happ.out) ?_
  refine hK _ _ ⟨fun _ => I2, ?_⟩
  clear hK K
  try simp only [Act.put, List.getElem_toArray, List.getElem_cons_zero, List.getElem_cons_succ, List.setIfInBounds_toArray, List.set_cons_zero, List.set_cons_succ]
  refine J_one 18 rfl (by kernel_rfl) (fun K hK => ?_)
  refine step_run rfl _ (ex_append _ _ _ _ rfl _ _ (by simp [Act.eval, Act.put]) (by simp [Act.eval, Act.put]) _ happ2.out) ?_
  refine hK _ _ ⟨fun _ => I3, ?_⟩
  clear hK K
  try simp only [Act.put, List.getElem_toArray, List.getElem_cons_zero, List.getElem_cons_succ, List.setIfInBounds_toArray, List.set_cons_zero, List.set_cons_succ]
  refine J_one 19 rfl (by kernel_rfl) (fun K hK => ?_)
  go_simp
  refine hK _ _ ⟨fun _ => I3, ?_⟩
  clear hK K
  try simp only [Act.put, List.setIfInBounds_toArray, List.set_cons_zero, List.set_cons_succ]
  refine J_one 20 rfl (by kernel_rfl) (fun K hK => ?_)
  go_simp
  refine hK _ _ ⟨fun _ => I3, ?_⟩
  clear hK K
  try simp only [Act.put, List.setIfInBounds_toArray, List.set_cons_zero, List.set_cons_succ]
  refine J_one 21 rfl (by kernel_rfl) (fun K hK => ?_)
  go_simp
  refine hK _ _ ⟨fun h => absurd rfl h, ?_⟩
  clear hK K
  refine J_done (by kernel_rfl) (OnlyOn.normal ?_)
  replace tri3 := hid (tri3.out _ rfl)
  rw [show (tents lq ++ [.string (tth l j).key, .int .i64 (tth l j).no] ++ tents lr) = tents (lq ++ tth l j :: lr) by rw [tents_append]; simp [tents, tcells]] at tri3
  clear I3 I2 I1 hr2 hf2 happ happ2
  generalize hlen : lq.length + 1 + lr.length = nq2 at *
  replace hlen := hid hlen
  generalize W3.setCell ⟨q, 0, none⟩ (.slice Av nq2 cv) = W3 at *
  go_upto_region 2 with fail
  have tri4 := hid (tri3.out.ext (Ext.refl W3).drew_right)
  have I0 : (fun w' : World => w'.cell? ⟨q, 1, none⟩ = some (.slice Kq pq.length ckq) ∧ w'.cell? ⟨r, 1, none⟩ = some (.slice Kr pr.length ckr)) W3.drew := ⟨node_c1 tri4.out.hq, node_c1 tri4.out.hr⟩
  refine region_J (fun w' : World => w'.cell? ⟨q, 1, none⟩ = some (.slice Kq pq.length ckq) ∧ w'.cell? ⟨r, 1, none⟩ = some (.slice Kr pr.length ckr)) 12 (by kernel_rfl) ?_
  clear tri3
  generalize W3.drew = W at *
  refine J_take 0 (v := ?vb0) rfl (by kernel_rfl) (by kernel_rfl) (by kernel_rfl) (by kernel_rfl) (fun _ _ _ h => h) (Or.inl ⟨by rfl, ?yb0⟩) I0 ?rb0
  case yb0 => (intro w hSw; obtain ⟨_, _⟩ := hSw; (go_simp; with_reducible rfl))
  simp only [Act.put, List.getElem_toArray, List.getElem_cons_zero, List.getElem_cons_succ, List.setIfInBounds_toArray, List.set_cons_zero, List.set_cons_succ]
  refine J_take 1 (v := ?vb1) rfl (by kernel_rfl) (by kernel_rfl) (by kernel_rfl) (by kernel_rfl) (fun _ _ _ h => h) (Or.inl ⟨by rfl, ?yb1⟩) I0 ?rb1
  case yb1 => (intro w hSw; obtain ⟨_, _⟩ := hSw; (go_simp; with_reducible rfl))
  simp only [Act.put, List.getElem_toArray, List.getElem_cons_zero, List.getElem_cons_succ, List.setIfInBounds_toArray, List.set_cons_zero, List.set_cons_succ]
  refine J_take 2 (v := ?vb2) rfl (by kernel_rfl) (by kernel_rfl) (by kernel_rfl) (by kernel_rfl) (fun _ _ _ h => h) (Or.inl ⟨by rfl, ?yb2⟩) I0 ?rb2
  case yb2 => (intro w hSw; obtain ⟨_, _⟩ := hSw; (go_simp; with_reducible rfl))
  simp only [Act.put, List.getElem_toArray, List.getElem_cons_zero, List.getElem_cons_succ, List.setIfInBounds_toArray, List.set_cons_zero, List.set_cons_succ]
  refine J_take 3 (v := ?vb3) rfl (by kernel_rfl) (by kernel_rfl) (by kernel_rfl) (by kernel_rfl) (fun _ _ _ h => h) (Or.inl ⟨by rfl, ?yb3⟩) I0 ?rb3
  case yb3 => (intro w hSw; obtain ⟨_, _⟩ := hSw; (go_simp; with_reducible rfl))
  simp only [Act.put, List.getElem_toArray, List.getElem_cons_zero, List.getElem_cons_succ, List.setIfInBounds_toArray, List.set_cons_zero, List.set_cons_succ]
  refine J_take 4 (v := ?vb4) rfl (by kernel_rfl) (by kernel_rfl) (by kernel_rfl) (by kernel_rfl) (fun _ _ _ h => h) (Or.inl ⟨by rfl, ?yb4⟩) I0 ?rb4
  case yb4 => (intro w hSw; obtain ⟨_, _⟩ := hSw; (go_simp; with_reducible rfl))
  simp only [Act.put, List.getElem_toArray, List.getElem_cons_zero, List.getElem_cons_succ, List.setIfInBounds_toArray, List.set_cons_zero, List.set_cons_succ]
  refine J_take 5 (v := ?vb5) rfl (by kernel_rfl) (by kernel_rfl) (by kernel_rfl) (by kernel_rfl) (fun _ _ _ h => h) (Or.inl ⟨by rfl, ?yb5⟩) I0 ?rb5
  case yb5 => (intro w hSw; obtain ⟨_, _⟩ := hSw; (go_simp; with_reducible rfl))
  simp only [Act.put, List.getElem_toArray, List.getElem_cons_zero, List.getElem_cons_succ, List.setIfInBounds_toArray, List.set_cons_zero, List.set_cons_succ]
  refine J_take 6 (v := ?vb6) rfl (by kernel_rfl) (by kernel_rfl) (by kernel_rfl) (by kernel_rfl) (fun _ _ _ h => h) (Or.inl ⟨by rfl, ?yb6⟩) I0 ?rb6
  case yb6 => (intro w hSw; obtain ⟨_, _⟩ := hSw; (go_simp; with_reducible rfl))
  simp only [Act.put, List.getElem_toArray, List.getElem_cons_zero, List.getElem_cons_succ, List.setIfInBounds_toArray, List.set_cons_zero, List.set_cons_succ]
  refine J_take 7 (v := ?vb7) rfl (by kernel_rfl) (by kernel_rfl) (by kernel_rfl) (by kernel_rfl) (fun _ _ _ h => h) (Or.inl ⟨by rfl, ?yb7⟩) I0 ?rb7
  case yb7 => (intro w hSw; obtain ⟨_, _⟩ := hSw; (go_simp; with_reducible rfl))
  simp only [Act.put, List.getElem_toArray, List.getElem_cons_zero, List.getElem_cons_succ, List.setIfInBounds_toArray, List.set_cons_zero, List.set_cons_succ]
  refine J_take 8 (v := ?vb8) rfl (by kernel_rfl) (by kernel_rfl) (by kernel_rfl) (by kernel_rfl) (fun _ _ _ h => h) (Or.inl ⟨by rfl, ?yb8⟩) I0 ?rb8
  case yb8 => (intro w hSw; obtain ⟨_, _⟩ := hSw; (go_simp; with_reducible rfl))
  simp only [Act.put, List.getElem_toArray, List.getElem_cons_zero, List.getElem_cons_succ, List.setIfInBounds_toArray, List.set_cons_zero, List.set_cons_succ]
  refine J_one 9 rfl (by kernel_rfl) (fun K hK => ?_)
  obtain ⟨v', W2, happ, ho', hrw⟩ := appK W 103 _ pq.length (ptrs pq) tri4.out.o4 Kr pr.length ckr (ptrs pr) (Rd.of_own tri4.out.o6) (ptrs_one _) (by omega)
  have tri5 : ∀ u, u = v' → Tri f w (W2.setCell ⟨q, 1, none⟩ u) p q r (.slice (some ad) l.length cl) (.slice (some kad) ps.length kc) (.slice Av nq2 cv) u (.slice Ar lr.length cr) (.slice Kr pr.length ckr) l.length ps.length nq2 (pq.length + pr.length) lr.length pr.length (tents l) (ptrs ps) (tents (lq ++ tth l j :: lr)) (ptrs (pq ++ pr)) (tents lr) (ptrs pr) := fun u e => by
    rw [e, ptrs_append]
    exact (tri4.out.rot.rep1 hrw.1 ho' hrw.2).rot.rot
  replace tri5 := hid tri5
  have hbq : W2.heap[q]? = some (.cells #[.slice Av nq2 cv, .slice Kq pq.length ckq] 105 (0, 0)) := (hrw.1.block q (Array.getElem?_eq_some_iff.1 tri4.out.hq).1 (fun e0 => by have := tri4.out.nd q; rw [ob_some e0.symm, one_self] at this; omega)).trans tri4.out.hq
  have hbr : W2.heap[r]? = some (.cells #[.slice Ar lr.length cr, .slice Kr pr.length ckr] 105 (0, 0)) := (hrw.1.block r (Array.getElem?_eq_some_iff.1 tri4.out.hr).1 (fun e0 => by have := tri4.out.nd r; rw [ob_some e0.symm, one_self] at this; omega)).trans tri4.out.hr
  have hr2 := node_c1 hbq
  have hf2 := Lib.frozen_of_heap hbq 1
  have I2 : (fun w' : World => w'.cell? ⟨q, 1, none⟩ = some (.slice Kq pq.length ckq) ∧ w'.cell? ⟨r, 1, none⟩ = some (.slice Kr pr.length ckr)) W2 := ⟨hr2, node_c1 hbr⟩
  obtain ⟨Aw, cw, rfl, -⟩ := own_form ho'
  replace happ := hid happ
  clear ho' hrw tri4 I0 hbr hbq
  refine step_run rfl _ (ex_append _ _ _ _ rfl _ _ (by simp [Act.eval, Act.put]) (by simp [Act.eval, Act.put]) _ happ.out) ?_
  refine hK _ _ ⟨fun _ => I2, ?_⟩
  clear hK K
  try simp only [Act.put, List.getElem_toArray, List.getElem_cons_zero, List.getElem_cons_succ, List.setIfInBounds_toArray, List.set_cons_zero, List.set_cons_succ]
  refine J_one 10 rfl (by kernel_rfl) (fun K hK => ?_)
  go_simp
  refine hK _ _ ⟨fun _ => I2, ?_⟩
  clear hK K
  try simp only [Act.put, List.setIfInBounds_toArray, List.set_cons_zero, List.set_cons_succ]
  refine J_one 11 rfl (by kernel_rfl) (fun K hK => ?_)
  go_simp
  refine hK _ _ ⟨fun _ => I2, ?_⟩
  clear hK K
  try simp only [Act.put, List.setIfInBounds_toArray, List.set_cons_zero, List.set_cons_succ]
  refine J_one 12 rfl (by kernel_rfl) (fun K hK => ?_)
  go_simp
  refine hK _ _ ⟨fun h => absurd rfl h, ?_⟩
  clear hK K
  refine J_done (by kernel_rfl) (OnlyOn.normal ?_)
  replace tri5 := hid (tri5.out _ rfl)
  clear I2 hr2 hf2 happ
  generalize hlen2 : pq.length + pr.length = nk2 at *
  replace hlen2 := hid hlen2
  generalize W2.setCell ⟨q, 1, none⟩ (.slice Aw nk2 cw) = W3 at *
  have x3 := node_c0 tri5.out.hp
  have lpX := (Array.getElem?_eq_some_iff.1 tri5.out.hp).1
  have hD := del_N l.length j _ (tents l) W3 hj (by omega) tri5.out.o1 (tents_one _)
  rw [← hi.out] at hD
  replace hD := hid hD
  go_wp2_with fail
  clear x3
  refine hD.out.mono ?_
  rintro e W7 ⟨v', rfl, ho', hrw⟩
  have tri6 : ∀ u, u = v' → Tri f w (W7.setCell ⟨p, 0, none⟩ u) p q r u (.slice (some kad) ps.length kc) (.slice Av nq2 cv) (.slice Aw nk2 cw) (.slice Ar lr.length cr) (.slice Kr pr.length ckr) (l.length - 1) ps.length nq2 nk2 lr.length pr.length (tents (l.take j ++ l.drop i)) (ptrs ps) (tents (lq ++ tth l j :: lr)) (ptrs (pq ++ pr)) (tents lr) (ptrs pr) := fun u e => by
    rw [e]
    have := tri5.out.rep0 hrw.1 ho' hrw.2
    rw [tents_take, tents_drop, ← tents_append] at this
    exact this
  replace tri6 := hid tri6
  have hbp : W7.heap[p]? = some (.cells #[(.slice (some ad) l.length cl), (.slice (some kad) ps.length kc)] 105 (0, 0)) := (hrw.1.block p (Array.getElem?_eq_some_iff.1 tri5.out.hp).1 (fun e0 => by have := tri5.out.nd p; rw [ob_some e0.symm, one_self] at this; omega)).trans tri5.out.hp
  have x3 := node_c0 hbp
  have x5 := Lib.frozen_of_heap hbp 0
  obtain ⟨Ay, cy, rfl, -⟩ := own_form ho'
  have x6 : (W7.setCell ⟨p, 0, none⟩ (.slice Ay (l.length - 1) cy)).cell? ⟨p, 1, none⟩ = some (.slice (some kad) ps.length kc) := set_keep (node_c1 hbp) (off_ne (by decide))
  have lp7 := (Array.getElem?_eq_some_iff.1 hbp).1
  replace tri6 := hid (tri6.out _ rfl)
  have hD2 := del_K ps.length i _ (ptrs ps) _ hip (by omega) tri6.out.o2 (ptrs_one _)
  rw [← ht.out] at hD2
  replace hD2 := hid hD2
  clear ho' hrw hbp tri5 hD
  go_wp2_with fail
  clear x3 x5 x6
  refine hD2.out.mono ?_
  rintro e W8 ⟨v', rfl, ho', hrw⟩
  have tri7 : ∀ u, u = v' → Tri f w (W8.setCell ⟨p, 1, none⟩ u) p q r (.slice Ay (l.length - 1) cy) u (.slice Av nq2 cv) (.slice Aw nk2 cw) (.slice Ar lr.length cr) (.slice Kr pr.length ckr) (l.length - 1) (ps.length - 1) nq2 nk2 lr.length pr.length (tents (l.take j ++ l.drop i)) (ptrs (ps.take i ++ ps.drop t)) (tents (lq ++ tth l j :: lr)) (ptrs (pq ++ pr)) (tents lr) (ptrs pr) := fun u e => by
    rw [e]
    have := tri6.out.rep1 hrw.1 ho' hrw.2
    rw [Nat.mul_one, Nat.mul_one, ptrs_take, ptrs_drop, ← ptrs_append] at this
    exact this
  replace tri7 := hid tri7
  have hbp : W8.heap[p]? = some (.cells #[.slice Ay (l.length - 1) cy, (.slice (some kad) ps.length kc)] 105 (0, 0)) := (hrw.1.block p (Array.getElem?_eq_some_iff.1 tri6.out.hp).1 (fun e0 => by have := tri6.out.nd p; rw [ob_some e0.symm, one_self] at this; omega)).trans tri6.out.hp
  have x3 := node_c1 hbp
  have x5 := Lib.frozen_of_heap hbp 1
  obtain ⟨Az, cz, rfl, -⟩ := own_form ho'
  clear ho' hrw hbp tri6 hD2
  go_wp2_with fail
  clear x3 x5
  replace tri7 := hid (tri7.out _ rfl)
  go_end0
  have e1 : l'.length = l.length - 1 := by rw [el.out, List.length_append, List.length_take, List.length_drop]; have := hi.out; omega
  have e2 : lq'.length = nq2 := by rw [eq.out, List.length_append, List.length_cons]; have := hlen.out; omega
  have e3 : ps'.length = ps.length - 1 := by rw [ep.out, List.length_append, List.length_take, List.length_drop]; have := ht.out; omega
  have e4 : pq'.length = nk2 := by rw [epq.out, List.length_append]; exact hlen2.out
  rw [e1, e2, e3, e4, el.out, eq.out, ep.out, epq.out]
  exact ⟨rfl, _, _, _, _, _, _, tri7.out⟩
end Go.Proofs.Ytpijfiaecicpfaa
