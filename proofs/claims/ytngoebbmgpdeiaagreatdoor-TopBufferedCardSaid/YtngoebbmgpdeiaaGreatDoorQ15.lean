/-
  A bag, a desk and a log that have just been made stand side by side. No function of the program in sight; A log commits; A log is made; A log whose transaction is left; A log: whether a record fits; what is changed in a transaction is not written; a transaction begins; Regions that draw their order: a read that the last store waits for by way of others.
-/
import Derived.Test.YtngoebbmgpdeiaaGreatDoorQ9
import Derived.Test.YtngoebbmgpdeiaaGreatDoorQ6
import Derived.Test.YtngoebbmgpdeiaaGreatDoorQ14
import Derived.Test.YtngoebbmgpdeiaaGreatDoorQ13
import Derived.Test.YtngoebbmgpdeiaaGreatDoorQ8
import Derived.Test.YtngoebbmgpdeiaaGreatDoorQ11
set_option maxRecDepth 100000
set_option maxHeartbeats 40000000
set_option linter.unusedVariables false
set_option linter.unusedSimpArgs false
namespace Go.Proofs.YtngoebbmgpdeiaaGreatDoor
open Go.RowKit Go.Shelf Go.MuLone
section
variable {w w' : World} {lo b : Nat} {s p : Int} {fs : List Fd} {r0 rs : List Rc} {L : Lm}
theorem LogI.rf' (h : LogI w lo b s p fs r0 rs L) : RdF w L.t.A fs.length L.t.c fs := by have := h.ow.rf; rwa [h.ow.2.2.2.2.1] at this
theorem LogI.rr' (h : LogI w lo b s p fs r0 rs L) : RdR w L.t.B rs.length L.t.d rs := by have := h.ow.rr; rwa [h.ow.2.2.2.1] at this
theorem LogI.lev {A : Option Addr} {c : Nat} {A1 B1 : Option Addr} {n1 c1 m1 d1 : Nat} (h : LogI w lo b s p fs r0 rs L) (hb : Bk w' b (logC s p { L with lA := A, ln := 1, lc := c }) 108) (hr : w'.ownsRow lo 25 3 (.slice A 1 c) 1 [.int .i64 p, .slice A1 n1 c1, .slice B1 m1 d1])
    (hn : ∀ k, (Value.slice A 1 c).ownBlock = some k → w.heap.size ≤ k) (hm : Mv w w' (fun k => k = b)) : LogI w' lo b s p fs r0 rs { L with lA := A, ln := 1, lc := c, R := fun k => L.R k ∨ (Value.slice A 1 c).ownBlock = some k } := by
  have hR := fun k (q : L.R k) => hm.at (h.bd k q).2 (fun e => h.rb (e ▸ q))
  refine ⟨hb, h.ow.keep (fun k q => hm.at (h.ow.lt q).2 (fun e => h.nb (e ▸ q))), h.od.keep (fun k q => hR k (h.rd k q)), own_same h.dr (fun k q => hR k (h.rr k q)), .inr ⟨rfl, _, _, _, _, _, _, hr⟩, own_same h.fr (fun k q => hR k (h.rf k q)), fun k q => .inl (h.rd k q), fun k q => .inl (h.rr k q), fun k q => .inr q, fun k q => .inl (h.rf k q), h.nb, fun q => ?_, fun k q e => ?_, h.lb, fun k q => ?_⟩
  · rcases q with q | q
    · exact h.rb q
    · have := hn b q; have := h.bk.lt; omega
  · rcases q with q | q
    · exact h.rt k q e
    · have := hn k q; have := (h.ow.lt e).2; omega
  · rcases q with q | q
    · exact ⟨(h.bd k q).1, Nat.lt_of_lt_of_le (h.bd k q).2 hm.size⟩
    · exact hr.lt k q
end
def OwZ (w : World) (lo : Nat) (S : Option Addr) (ks : List Int) (cs : Nat) : Prop := w.ownsRow lo 3 1 (.slice S ks.length cs) ks.length (zs ks)
section
variable {lo b : Nat} {s p : Int} {fs : List Fd} {r0 rs : List Rc} {L : Lm}
theorem fits_any (x : Rc) (C : Option Addr) (nv cv : Nat) (w : World) (H : LogI w lo b s p fs r0 rs L) (hv : RdV w C nv cv x.v) : Calls Tryz.prog 89 #[.pointer (some ⟨b, 0, none⟩), .agg #[.bool x.gone, .slice C nv cv]] w (Give (.int .i64 (vtE p fs [x])) w) := by
  obtain ⟨w1, g, e1, h1, s1, kg, x1⟩ := newB w [.bool x.gone, .slice C nv cv] 69
  have hx := hid x1
  have H1 := hid (H.ext x1)
  have kg := hid kg
  have hv1 := hid (hv.ext x1)
  clear H hv x1 s1
  go_enter Tryz.func89, Tryz.ntmps89
  go_upto_region 1 with fail
  simp only [e1.out, h1.out]
  clear e1 h1
  have xa := (Ext.refl w1).drew_right
  refine region_J (fun w' => Ext w1 w') 15 (by kernel_rfl) ?_
  generalize w1.drew = da at xa ⊢
  refine JR 0 (v := ?va1) rfl (by kernel_rfl) rfl ?ya1 xa ?ra1
  case ya1 => (intro w hw; (go_simp; with_reducible rfl))
  simp only [Act.put, lyA, lyB, lyC, lyD, lyE, lyF]
  refine JR 1 (v := ?va2) rfl (by kernel_rfl) rfl ?ya2 xa ?ra2
  case ya2 => (intro w hw; (go_simp; with_reducible rfl))
  simp only [Act.put, lyA, lyB, lyC, lyD, lyE, lyF]
  refine JR 2 (v := ?va3) rfl (by kernel_rfl) rfl ?ya3 xa ?ra3
  case ya3 => (intro w hw; (go_simp; with_reducible rfl))
  simp only [Act.put, lyA, lyB, lyC, lyD, lyE, lyF]
  refine JR 3 (v := ?va4) rfl (by kernel_rfl) rfl ?ya4 xa ?ra4
  case ya4 => (intro w hw; (go_simp; with_reducible rfl))
  simp only [Act.put, lyA, lyB, lyC, lyD, lyE, lyF]
  refine JR 4 (v := ?va5) rfl (by kernel_rfl) rfl ?ya5 xa ?ra5
  case ya5 => (intro w hw; obtain ⟨a0, a2, a3, a4, a5, a6, a7, a8, a9, a10⟩ := (H1.out.ext hw).c; obtain ⟨q0, q1⟩ := (kg.out.ext hw).c2; (go_simp; with_reducible rfl))
  simp only [Act.put, lyA, lyB, lyC, lyD, lyE, lyF]
  refine JR 5 (v := ?va6) rfl (by kernel_rfl) rfl ?ya6 xa ?ra6
  case ya6 => (intro w hw; (go_simp; with_reducible rfl))
  simp only [Act.put, lyA, lyB, lyC, lyD, lyE, lyF]
  refine JR 6 (v := ?va7) rfl (by kernel_rfl) rfl ?ya7 xa ?ra7
  case ya7 => (intro w hw; (go_simp; with_reducible rfl))
  simp only [Act.put, lyA, lyB, lyC, lyD, lyE, lyF]
  refine JR 7 (v := ?va8) rfl (by kernel_rfl) rfl ?ya8 xa ?ra8
  case ya8 => (intro w hw; (go_simp; with_reducible rfl))
  simp only [Act.put, lyA, lyB, lyC, lyD, lyE, lyF]
  refine JR 8 (v := ?va9) rfl (by kernel_rfl) rfl ?ya9 xa ?ra9
  case ya9 => (intro w hw; (go_simp; with_reducible rfl))
  simp only [Act.put, lyA, lyB, lyC, lyD, lyE, lyF]
  refine JR 9 (v := ?va10) rfl (by kernel_rfl) rfl ?ya10 xa ?ra10
  case ya10 => (intro w hw; obtain ⟨a0, a2, a3, a4, a5, a6, a7, a8, a9, a10⟩ := (H1.out.ext hw).c; obtain ⟨q0, q1⟩ := (kg.out.ext hw).c2; (go_simp; with_reducible rfl))
  simp only [Act.put, lyA, lyB, lyC, lyD, lyE, lyF]
  refine JR 10 (v := ?va11) rfl (by kernel_rfl) rfl ?ya11 xa ?ra11
  case ya11 => (intro w hw; obtain ⟨a0, a2, a3, a4, a5, a6, a7, a8, a9, a10⟩ := (H1.out.ext hw).c; obtain ⟨q0, q1⟩ := (kg.out.ext hw).c2; (go_simp; with_reducible rfl))
  simp only [Act.put, lyA, lyB, lyC, lyD, lyE, lyF]
  refine J_one 11 rfl (by kernel_rfl) (fun K hK => ?_)
  go_simp
  have hRa12 := one_R (g := x.gone) (w := da) (hv1.out.ext xa)
  have hxa12 := Ext.new da (.cells #[.bool x.gone, .slice C nv cv] 69)
  generalize da.alloc (.cells #[.bool x.gone, .slice C nv cv] 69) = wa12 at *
  generalize da.heap.size = ba12 at *
  have hqv := hid (Validate_any p L.t.A fs.length L.t.c (some ⟨ba12, 0, none⟩) 1 1 fs [x] wa12 ((H1.out.rf'.ext xa).ext hxa12) hRa12)
  unfold tb at hqv
  refine hK _ _ ⟨fun _ => ((xa).trans hxa12), ?_⟩
  clear hK K
  try simp only [Act.put, lyA, lyB, lyC, lyD, lyE, lyF]
  have xa12 := ((xa).trans hxa12)
  refine JR 12 (v := ?va13) rfl (by kernel_rfl) rfl ?ya13 xa12 ?ra13
  case ya13 => (intro w hw; (go_simp; with_reducible rfl))
  simp only [Act.put, lyA, lyB, lyC, lyD, lyE, lyF]
  refine J_one 13 rfl (by kernel_rfl) (fun K hK => ?_)
  go_simp
  refine hqv.out.mono ?_
  rintro e9 wa14 ⟨rfl, hxa14⟩
  refine hK _ _ ⟨fun _ => ((xa12).trans hxa14), ?_⟩
  clear hK K
  try simp only [Act.put, lyA, lyB, lyC, lyD, lyE, lyF]
  have xa14 := ((xa12).trans hxa14)
  refine JR 14 (v := ?va15) rfl (by kernel_rfl) rfl ?ya15 xa14 ?ra15
  case ya15 => (intro w hw; (go_simp; with_reducible rfl))
  simp only [Act.put, lyA, lyB, lyC, lyD, lyE, lyF]
  refine J_done (by kernel_rfl) (OnlyOn.normal ?_)
  have hres := hid (hx.out.trans xa14)
  clear hqv H1
  go_wp2
  go_ret
  exact ⟨rfl, hres.out⟩
theorem commit_any (w : World) (H : LogI w lo b s p fs r0 rs L) (hE0 : okT p fs r0) (hE : okT p fs rs) (hl : L.ln = 1) : Calls Tryz.prog 53 #[.pointer (some ⟨b, 0, none⟩)] w fun e w' => e = .returned (.tuple #[]) ∧ Ext w w' := by
  have H := hid H
  obtain ⟨gd, ed, -, -, -, -⟩ := row25 H.out.dr
  have hd := hid (fun w' (hx : Ext w w') => Differ_any p L.d.A L.d.n L.d.c L.d.B L.d.m L.d.d L.t.A fs.length L.t.c L.t.B rs.length L.t.d fs r0 rs w' (H.out.ext hx).od.rf (H.out.ext hx).od.rr (H.out.ext hx).rf' (H.out.ext hx).rr' hE0 hE)
  unfold tb at hd
  have hE := hid hE
  have hE0 := hid hE0
  have i00 := IntWalk.i64_in 0 (by omega)
  go_enter Tryz.func53, Tryz.ntmps53
  go_upto_region 0 with fail
  have xa := (Ext.refl w).drew_right
  refine region_J (fun w' => Ext w w') 14 (by kernel_rfl) ?_
  generalize w.drew = da at xa ⊢
  refine JR 0 (v := ?va1) rfl (by kernel_rfl) rfl ?ya1 xa ?ra1
  case ya1 => (intro w hw; (go_simp; with_reducible rfl))
  simp only [Act.put, lyA, lyB, lyC, lyD, lyE, lyF]
  refine JR 1 (v := ?va2) rfl (by kernel_rfl) rfl ?ya2 xa ?ra2
  case ya2 => (intro w hw; (go_simp; with_reducible rfl))
  simp only [Act.put, lyA, lyB, lyC, lyD, lyE, lyF]
  refine JR 2 (v := ?va3) rfl (by kernel_rfl) rfl ?ya3 xa ?ra3
  case ya3 => (intro w hw; (go_simp; with_reducible rfl))
  simp only [Act.put, lyA, lyB, lyC, lyD, lyE, lyF]
  refine JR 3 (v := ?va4) rfl (by kernel_rfl) rfl ?ya4 xa ?ra4
  case ya4 => (intro w hw; obtain ⟨a0, a2, a3, a4, a5, a6, a7, a8, a9, a10⟩ := (H.out.ext hw).c; rw [ed] at a6; obtain ⟨gd', ed', -, d0, d1, d2⟩ := row25 (H.out.ext hw).dr; rw [ed] at ed'; injection ed' with ed'; injection ed' with ed'; subst ed'; (go_simp; with_reducible rfl))
  simp only [Act.put, lyA, lyB, lyC, lyD, lyE, lyF]
  refine JR 4 (v := ?va5) rfl (by kernel_rfl) rfl ?ya5 xa ?ra5
  case ya5 => (intro w hw; (go_simp; with_reducible rfl))
  simp only [Act.put, lyA, lyB, lyC, lyD, lyE, lyF]
  refine JR 5 (v := ?va6) rfl (by kernel_rfl) rfl ?ya6 xa ?ra6
  case ya6 => (intro w hw; (go_simp; with_reducible rfl))
  simp only [Act.put, lyA, lyB, lyC, lyD, lyE, lyF]
  refine JR 6 (v := ?va7) rfl (by kernel_rfl) rfl ?ya7 xa ?ra7
  case ya7 => (intro w hw; (go_simp; with_reducible rfl))
  simp only [Act.put, lyA, lyB, lyC, lyD, lyE, lyF]
  refine JR 7 (v := ?va8) rfl (by kernel_rfl) rfl ?ya8 xa ?ra8
  case ya8 => (intro w hw; obtain ⟨a0, a2, a3, a4, a5, a6, a7, a8, a9, a10⟩ := (H.out.ext hw).c; rw [ed] at a6; obtain ⟨gd', ed', -, d0, d1, d2⟩ := row25 (H.out.ext hw).dr; rw [ed] at ed'; injection ed' with ed'; injection ed' with ed'; subst ed'; (go_simp; with_reducible rfl))
  simp only [Act.put, lyA, lyB, lyC, lyD, lyE, lyF]
  refine JR 8 (v := ?va9) rfl (by kernel_rfl) rfl ?ya9 xa ?ra9
  case ya9 => (intro w hw; (go_simp; with_reducible rfl))
  simp only [Act.put, lyA, lyB, lyC, lyD, lyE, lyF]
  refine JR 9 (v := ?va10) rfl (by kernel_rfl) rfl ?ya10 xa ?ra10
  case ya10 => (intro w hw; (go_simp; with_reducible rfl))
  simp only [Act.put, lyA, lyB, lyC, lyD, lyE, lyF]
  refine JR 10 (v := ?va11) rfl (by kernel_rfl) rfl ?ya11 xa ?ra11
  case ya11 => (intro w hw; (go_simp; with_reducible rfl))
  simp only [Act.put, lyA, lyB, lyC, lyD, lyE, lyF]
  refine JR 11 (v := ?va12) rfl (by kernel_rfl) rfl ?ya12 xa ?ra12
  case ya12 => (intro w hw; obtain ⟨a0, a2, a3, a4, a5, a6, a7, a8, a9, a10⟩ := (H.out.ext hw).c; rw [ed] at a6; obtain ⟨gd', ed', -, d0, d1, d2⟩ := row25 (H.out.ext hw).dr; rw [ed] at ed'; injection ed' with ed'; injection ed' with ed'; subst ed'; (go_simp; with_reducible rfl))
  simp only [Act.put, lyA, lyB, lyC, lyD, lyE, lyF]
  refine J_one 12 rfl (by kernel_rfl) (fun K hK => ?_)
  go_simp
  obtain ⟨wa13, ba13, ea13, ga13, ha13, ca13, hxa13, la13⟩ := alloc_at da [.int .i64 0, .slice none 0 0, .slice none 0 0] 25
  simp only [ea13, ga13]
  have za13 : w.heap.size ≤ ba13 := by rw [← ga13]; exact (xa).size
  have ya13 : da.heap.size ≤ ba13 := by rw [← ga13]; exact Nat.le_refl _
  clear ea13 ga13 ca13
  refine hK _ _ ⟨fun _ => ((xa).trans hxa13), ?_⟩
  clear hK K
  try simp only [Act.put, lyA, lyB, lyC, lyD, lyE, lyF]
  have xa13 := ((xa).trans hxa13)
  refine J_one 13 rfl (by kernel_rfl) (fun K hK => ?_)
  refine step_store0 rfl 25 _ _ rfl ba13 [.int .i64 p, .slice L.d.A L.d.n L.d.c, .slice L.d.B L.d.m L.d.d] rfl rfl ha13 (by kernel_rfl) (by first | rfl | simp [Value.oneCell']) ?_
  obtain ⟨wa14, ea14, ha14, ca14, hxa14, -, hka14⟩ := store_at (u := w) [.int .i64 p, .slice L.d.A L.d.n L.d.c, .slice L.d.B L.d.m L.d.d] ha13 (xa13) za13
  rw [ea14]
  clear ea14
  refine hK _ _ ⟨fun _ => hxa14, ?_⟩
  clear hK K
  try simp only [Act.put, lyA, lyB, lyC, lyD, lyE, lyF]
  refine J_done (by kernel_rfl) (OnlyOn.normal ?_)
  have x1 := hid (hxa14)
  have kc := hid (HB.bk (xs := [.int .i64 p, .slice L.d.A L.d.n L.d.c, .slice L.d.B L.d.m L.d.d]) ha14 ca14)
  have kz := hid za13
  generalize wa14 = w1 at *
  generalize ba13 = gc at *
  go_upto_region 1 with fail
  have xb := (Ext.refl w1).drew_right
  refine region_J (fun w' => Ext w1 w') 11 (by kernel_rfl) ?_
  generalize w1.drew = db at xb ⊢
  refine JR 0 (v := ?vb1) rfl (by kernel_rfl) rfl ?yb1 xb ?rb1
  case yb1 => (intro w hw; obtain ⟨a0, a2, a3, a4, a5, a6, a7, a8, a9, a10⟩ := (H.out.ext (x1.out.trans hw)).c; obtain ⟨q0, q1, q2⟩ := (kc.out.ext hw).c3; (go_simp; with_reducible rfl))
  simp only [Act.put, lyA, lyB, lyC, lyD, lyE, lyF]
  refine JR 1 (v := ?vb2) rfl (by kernel_rfl) rfl ?yb2 xb ?rb2
  case yb2 => (intro w hw; (go_simp; with_reducible rfl))
  simp only [Act.put, lyA, lyB, lyC, lyD, lyE, lyF]
  refine JR 2 (v := ?vb3) rfl (by kernel_rfl) rfl ?yb3 xb ?rb3
  case yb3 => (intro w hw; (go_simp; with_reducible rfl))
  simp only [Act.put, lyA, lyB, lyC, lyD, lyE, lyF]
  refine JR 3 (v := ?vb4) rfl (by kernel_rfl) rfl ?yb4 xb ?rb4
  case yb4 => (intro w hw; (go_simp; with_reducible rfl))
  simp only [Act.put, lyA, lyB, lyC, lyD, lyE, lyF]
  refine JR 4 (v := ?vb5) rfl (by kernel_rfl) rfl ?yb5 xb ?rb5
  case yb5 => (intro w hw; obtain ⟨a0, a2, a3, a4, a5, a6, a7, a8, a9, a10⟩ := (H.out.ext (x1.out.trans hw)).c; obtain ⟨q0, q1, q2⟩ := (kc.out.ext hw).c3; (go_simp; with_reducible rfl))
  simp only [Act.put, lyA, lyB, lyC, lyD, lyE, lyF]
  refine J_one 5 rfl (by kernel_rfl) (fun K hK => ?_)
  go_simp
  refine (hd.out _ (x1.out.trans xb)).mono ?_
  rintro e9 wb6 ⟨S, ks, cs, rfl, hks0, hks1, hks2, hxb6⟩
  have hks0 := hid hks0
  have hks1 := hid hks1
  have hks2 := hid hks2
  have hbase := hid ((x1.out.trans xb).size)
  refine hK _ _ ⟨fun _ => ((xb).trans hxb6), ?_⟩
  clear hK K
  try simp only [Act.put, lyA, lyB, lyC, lyD, lyE, lyF]
  have xb6 := ((xb).trans hxb6)
  refine JR 6 (v := ?vb7) rfl (by kernel_rfl) rfl ?yb7 xb6 ?rb7
  case yb7 => (intro w hw; (go_simp; with_reducible rfl))
  simp only [Act.put, lyA, lyB, lyC, lyD, lyE, lyF]
  refine JR 7 (v := ?vb8) rfl (by kernel_rfl) rfl ?yb8 xb6 ?rb8
  case yb8 => (intro w hw; (go_simp; with_reducible rfl))
  simp only [Act.put, lyA, lyB, lyC, lyD, lyE, lyF]
  refine JR 8 (v := ?vb9) rfl (by kernel_rfl) rfl ?yb9 xb6 ?rb9
  case yb9 => (intro w hw; (go_simp; with_reducible rfl))
  simp only [Act.put, lyA, lyB, lyC, lyD, lyE, lyF]
  refine JR 9 (v := ?vb10) rfl (by kernel_rfl) rfl ?yb10 xb6 ?rb10
  case yb10 => (intro w hw; (go_simp; with_reducible rfl))
  simp only [Act.put, lyA, lyB, lyC, lyD, lyE, lyF]
  refine JR 10 (v := ?vb11) rfl (by kernel_rfl) rfl ?yb11 xb6 ?rb11
  case yb11 => (intro w hw; (go_simp; with_reducible rfl))
  simp only [Act.put, lyA, lyB, lyC, lyD, lyE, lyF]
  refine J_done (by kernel_rfl) (OnlyOn.normal ?_)
  have x3 := hid (x1.out.trans xb6)
  have hks0 := hid (show OwZ wb6 w.heap.size S ks cs from own_baseK hks0.out hbase.out)
  generalize wb6 = w3 at *
  clear hd kc kz
  obtain ⟨a0, a2, a3, a4, a5, a6, a7, a8, a9, a10⟩ := (H.out.ext x3.out).c
  rw [hl] at a5
  clear hks2 hks1 hks0
  go_wp2
  exact bodyPost_ret (v := .tuple #[]) (by simp [results, Tryz.results53]) rfl ⟨rfl, x3.out⟩
theorem Begin_any (w : World) (H : LogI w lo b 0 p fs r0 rs L) (hE : okT p fs rs) (hl0 : L.ln = 0) : Calls Tryz.prog 10 #[.pointer (some ⟨b, 0, none⟩)] w fun e w' => e = .returned (.int .i64 0) ∧ ∃ L', LogI w' lo b 0 p fs r0 rs L' ∧ L'.ln = 1 ∧ Mv w w' (LogF b L) ∧ ∀ k, LogF b L' k → LogF b L k ∨ w.heap.size ≤ k := by
  have hl := hE.len
  have hW := hid hE.wid
  have hq := hid (enterL_any b w (H.bk.at rfl) (H.bk.free 0))
  have H1 := hid (H.turn 1)
  have m1 := hid ((Mv.refl (w := w) (F := fun k => k = b)).set (.inl rfl) 0 (.int .i32 1))
  have hlA : L.lA = none ∧ L.lc = 0 := by
    rcases H.lr with e | ⟨e, _⟩
    · exact ⟨e.1, e.2.2⟩
    · omega
  have hbw := hid H.bk.lt
  have hlb := hid H.lb
  clear H hE
  go_enter_defers Tryz.func10, Tryz.ntmps10
  go_wp2_with fail
  refine hq.out.mono ?_
  rintro e w2 ⟨rfl, hx2⟩
  have H2 := hid (H1.out.ext hx2)
  have m2 := hid (m1.out.ext hx2)
  clear hq hx2 H1 m1
  obtain ⟨a0, a2, a3, a4, a5, a6, a7, a8, a9, a10⟩ := H2.out.c
  rw [hl0, hlA.1, hlA.2] at a5
  go_upto_region 7 with fail
  clear a0 a2 a3 a4 a5 a6 a7 a8 a9 a10
  have hcp := hid (fun w' (hx : Ext w2 w') => Copied_any p L.t.A fs.length L.t.c L.t.B rs.length L.t.d fs.length fs rs w' (H2.out.ext hx).rf' (H2.out.ext hx).rr' (by omega) (by omega) hl.1 (by omega) hW.out)
  unfold tb at hcp
  have xc := (Ext.refl w2).drew_right
  refine region_J (fun w' => Ext w2 w') 14 (by kernel_rfl) ?_
  generalize w2.drew = dc at xc ⊢
  refine JW 0 (v := ?vc1) rfl (by kernel_rfl) rfl ?yc1 xc ?rc1
  case yc1 => (intro w hw; (go_simp; with_reducible rfl))
  simp only [Act.put, lyA, lyB, lyC, lyD, lyE, lyF]
  refine JW 1 (v := ?vc2) rfl (by kernel_rfl) rfl ?yc2 xc ?rc2
  case yc2 => (intro w hw; (go_simp; with_reducible rfl))
  simp only [Act.put, lyA, lyB, lyC, lyD, lyE, lyF]
  refine JW 2 (v := ?vc3) rfl (by kernel_rfl) rfl ?yc3 xc ?rc3
  case yc3 => (intro w hw; (go_simp; with_reducible rfl))
  simp only [Act.put, lyA, lyB, lyC, lyD, lyE, lyF]
  refine JW 3 (v := ?vc4) rfl (by kernel_rfl) rfl ?yc4 xc ?rc4
  case yc4 => (intro w hw; (go_simp; with_reducible rfl))
  simp only [Act.put, lyA, lyB, lyC, lyD, lyE, lyF]
  refine JW 4 (v := ?vc5) rfl (by kernel_rfl) rfl ?yc5 xc ?rc5
  case yc5 => (intro w hw; obtain ⟨a0, a2, a3, a4, a5, a6, a7, a8, a9, a10⟩ := (H2.out.ext hw).c; rw [hl0, hlA.1, hlA.2] at a5; (go_simp; with_reducible rfl))
  simp only [Act.put, lyA, lyB, lyC, lyD, lyE, lyF]
  refine JW 5 (v := ?vc6) rfl (by kernel_rfl) rfl ?yc6 xc ?rc6
  case yc6 => (intro w hw; (go_simp; with_reducible rfl))
  simp only [Act.put, lyA, lyB, lyC, lyD, lyE, lyF]
  refine JW 6 (v := ?vc7) rfl (by kernel_rfl) rfl ?yc7 xc ?rc7
  case yc7 => (intro w hw; (go_simp; with_reducible rfl))
  simp only [Act.put, lyA, lyB, lyC, lyD, lyE, lyF]
  refine JW 7 (v := ?vc8) rfl (by kernel_rfl) rfl ?yc8 xc ?rc8
  case yc8 => (intro w hw; (go_simp; with_reducible rfl))
  simp only [Act.put, lyA, lyB, lyC, lyD, lyE, lyF]
  refine JW 8 (v := ?vc9) rfl (by kernel_rfl) rfl ?yc9 xc ?rc9
  case yc9 => (intro w hw; obtain ⟨a0, a2, a3, a4, a5, a6, a7, a8, a9, a10⟩ := (H2.out.ext hw).c; rw [hl0, hlA.1, hlA.2] at a5; (go_simp; with_reducible rfl))
  simp only [Act.put, lyA, lyB, lyC, lyD, lyE, lyF]
  refine J_one 9 rfl (by kernel_rfl) (fun K hK => ?_)
  go_simp
  refine (hcp.out _ xc).mono ?_
  rintro e9 wc10 ⟨A1, d1, B1, d2, rfl, -, hxc10⟩
  refine hK _ _ ⟨fun _ => ((xc).trans hxc10), ?_⟩
  clear hK K
  try simp only [Act.put, lyA, lyB, lyC, lyD, lyE, lyF]
  have xc10 := ((xc).trans hxc10)
  refine J_one 10 rfl (by kernel_rfl) (fun K hK => ?_)
  go_simp
  have sc11 := one_rd wc10 [.int .i64 p, .slice A1 fs.length d1, .slice B1 rs.length d2] 25 3 rfl
  have hxc11 := Ext.new wc10 (.cells #[.int .i64 p, .slice A1 fs.length d1, .slice B1 rs.length d2] 25)
  change Rd (wc10.alloc (.cells #[.int .i64 p, .slice A1 fs.length d1, .slice B1 rs.length d2] 25)) _ _ _ _ _ at sc11
  generalize wc10.alloc (.cells #[.int .i64 p, .slice A1 fs.length d1, .slice B1 rs.length d2] 25) = wc11 at *
  generalize wc10.heap.size = bc11 at *
  refine hK _ _ ⟨fun _ => ((xc10).trans hxc11), ?_⟩
  clear hK K
  try simp only [Act.put, lyA, lyB, lyC, lyD, lyE, lyF]
  have xc11 := ((xc10).trans hxc11)
  refine J_one 11 rfl (by kernel_rfl) (fun K hK => ?_)
  obtain ⟨Ac12, cc12, wc12, happc12, ownc12, hgc12, hgbc12⟩ := app105 wc11 w2.heap.size 105 (.slice none 0 0) 0 _ (World.ownsRow_nil _ _ _ _) _ 1 1 _ sc11 (by intro u hu; simp at hu; rcases hu with rfl | rfl | rfl <;> rfl) ((xc11).size) (by omega)
  have hxc12 : Ext wc11 wc12 := ⟨hgc12.os, hgc12.tape, hgc12.output, hgc12.size, fun q hq => hgc12.block q hq (fun e => by cases e)⟩
  simp only [Nat.zero_add, List.nil_append] at happc12 ownc12
  have ownc12 := hid ownc12
  replace happc12 := hid happc12
  clear sc11 hgc12 hgbc12
  refine step_run rfl _ (ex_append _ _ _ _ rfl _ _ (by simp [Act.eval, Act.put]) (by simp [Act.eval, Act.put]) _ happc12.out) ?_
  refine hK _ _ ⟨fun _ => ((xc11).trans hxc12), ?_⟩
  clear hK K
  try simp only [Act.put, lyA, lyB, lyC, lyD, lyE, lyF]
  have xc12 := ((xc11).trans hxc12)
  refine J_one 12 rfl (by kernel_rfl) (fun K hK => ?_)
  go_simp
  refine hK _ _ ⟨fun _ => xc12, ?_⟩
  clear hK K
  try simp only [Act.put, lyA, lyB, lyC, lyD, lyE, lyF]
  refine JW 13 (v := ?vc14) rfl (by kernel_rfl) rfl ?yc14 xc12 ?rc14
  case yc14 => (intro w hw; (go_simp; with_reducible rfl))
  simp only [Act.put, lyA, lyB, lyC, lyD, lyE, lyF]
  refine J_one 14 rfl (by kernel_rfl) (fun K hK => ?_)
  have x9 := hid (xc12)
  have k6 := (H2.out.ext x9.out).bk
  have z5 : wc12.cell? ⟨b, 5, none⟩ = some (.slice L.lA L.ln L.lc) := k6.at rfl
  have fz := k6.free 5
  go_simp
  refine hK _ _ ⟨fun h => absurd rfl h, ?_⟩
  clear hK K
  try simp only [Act.put, lyA, lyB, lyC, lyD, lyE, lyF]
  have k7 := hid (k6.set 5 (.slice Ac12 1 cc12))
  have hne := hid (fun k (hk : (Value.slice Ac12 1 cc12).ownBlock = some k) => (ownc12.out.lt k hk).1)
  have m7 := hid ((Mv.of (F := fun k => k = b) x9.out).set (g := b) (.inl rfl) 5 (.slice Ac12 1 cc12))
  have hb2 := hid H2.out.bk.lt
  have r7 := hid (own_baseK (own_same ownc12.out (w' := wc12.setCell ⟨b, 5, none⟩ (.slice Ac12 1 cc12)) (fun k hk => (setCell_at wc12 b 5 _).2 k (fun e => by have := hne.out k hk; have := hb2.out; omega))) (show lo ≤ w2.heap.size by have := hb2.out; have := hlb.out; omega))
  have hres0 := H2.out.lev k7.out r7.out hne.out m7.out
  have hres1 := hid (hres0.turn 0)
  have c0 := hid (hres0.bk.at (i := 0) rfl)
  have g0 := hid (hres0.bk.free 0)
  have m9 := hid ((((m2.out.mono (fun k e => (.inl e : LogF b L k))).trans m7.out (fun k e => .inl (.inl e))).set (g := b) (.inl (.inl rfl)) 0 (.int .i32 0)))
  have hF9 := hid (fun k (hk : LogF b { L with lA := Ac12, ln := 1, lc := cc12, R := fun k => L.R k ∨ (Value.slice Ac12 1 cc12).ownBlock = some k } k) => (show LogF b L k ∨ w.heap.size ≤ k from by
    rcases hk with e | e | e | e
    · exact .inl (.inl e)
    · exact .inl (.inr (.inl e))
    · exact .inl (.inr (.inr e))
    · exact .inr (Nat.le_trans m2.out.size (hne.out k e))))
  clear k6 z5 fz k7 m7 r7 hres0 H2 m2 hne ownc12 hcp
  refine J_done (by kernel_rfl) (OnlyOn.normal ?_)
  go_wp2
  refine leaves_cons (f := 57) (args := #[.pointer (some ⟨b, 0, none⟩)]) (by simp) (by simp [go_sem]) ?_
  refine (unlock_deferred muLib ⟨b, 0, none⟩ .returning _ c0.out g0.out).mono ?_
  rintro e u' w'' ⟨rfl, rfl, rfl⟩
  exact ⟨_, results_tmp rfl _ _ _, rfl, _, hres1.out, rfl, m9.out, hF9.out⟩
end
open Go.RowKit Go.Shelf Go.MuLone
structure LogJ (w : World) (lo b : Nat) (s p : Int) (fs : List Fd) (r0 rs : List Rc) (L : Lm) : Prop where
  bk : Bk w b (logC s p L) 108
  ow : OwTt w lo fs.length fs rs L.t
  od : OwTt w lo fs.length fs r0 L.d
  dr : w.ownsRow lo 25 3 (.slice L.dA 1 L.dc) 1 [.int .i64 p, .slice L.d.A L.d.n L.d.c, .slice L.d.B L.d.m L.d.d]
  fr : w.ownsRow lo 94 1 (.slice L.fA 2 L.fc) 2 [.slice L.bA L.bn L.bc, .slice none 0 0]
  rd : ∀ k, L.d.F k → L.R k
  rr : ∀ k, (Value.slice L.dA 1 L.dc).ownBlock = some k → L.R k
  rf : ∀ k, (Value.slice L.fA 2 L.fc).ownBlock = some k → L.R k
  nb : ¬ L.t.F b
  rb : ¬ L.R b
  rt : ∀ k, L.R k → ¬ L.t.F k
  lb : lo ≤ b
  bd : ∀ k, L.R k → lo ≤ k ∧ k < w.heap.size
section
variable {w w' w1 : World} {lo b : Nat} {s s' p : Int} {fs : List Fd} {r0 rs rs' : List Rc} {L L' : Lm} {u : Tt}
theorem LogJ.keep (h : LogJ w lo b s p fs r0 rs L) (hk : ∀ k, LogF b L k → w'.heap[k]? = w.heap[k]?) (hs : w.heap.size ≤ w'.heap.size) : LogJ w' lo b s p fs r0 rs L := by
  have hR := fun k (q : L.R k) => hk k (.inr (.inr q))
  exact ⟨h.bk.keep (hk b (.inl rfl)), h.ow.keep (fun k q => hk k (.inr (.inl q))), h.od.keep (fun k q => hR k (h.rd k q)), own_same h.dr (fun k q => hR k (h.rr k q)), own_same h.fr (fun k q => hR k (h.rf k q)), h.rd, h.rr, h.rf, h.nb, h.rb, h.rt, h.lb, fun k q => ⟨(h.bd k q).1, Nat.lt_of_lt_of_le (h.bd k q).2 hs⟩⟩
theorem LogJ.lt (h : LogJ w lo b s p fs r0 rs L) {k : Nat} (hk : LogF b L k) : lo ≤ k ∧ k < w.heap.size := by
  rcases hk with rfl | hk | hk
  · exact ⟨h.lb, h.bk.lt⟩
  · exact h.ow.lt hk
  · exact h.bd k hk
theorem LogJ.ext (h : LogJ w lo b s p fs r0 rs L) (hx : Ext w w') : LogJ w' lo b s p fs r0 rs L := h.keep (fun k q => hx.block (h.lt q).2) hx.size
theorem LogJ.rf' (h : LogJ w lo b s p fs r0 rs L) : RdF w L.t.A fs.length L.t.c fs := by have := h.ow.rf; rwa [h.ow.2.2.2.2.1] at this
theorem LogJ.rr' (h : LogJ w lo b s p fs r0 rs L) : RdR w L.t.B rs.length L.t.d rs := by have := h.ow.rr; rwa [h.ow.2.2.2.1] at this
theorem LogJ.c (h : LogJ w lo b s p fs r0 rs L) : w.cell? ⟨b, 0, none⟩ = some (.int .i32 s) ∧ w.cell? ⟨b, 2, none⟩ = some (.int .i64 p) ∧ w.cell? ⟨b, 3, none⟩ = some (.slice L.t.A fs.length L.t.c) ∧ w.cell? ⟨b, 4, none⟩ = some (.slice L.t.B rs.length L.t.d) ∧
    w.cell? ⟨b, 5, none⟩ = some (.slice L.lA L.ln L.lc) ∧ w.cell? ⟨b, 6, none⟩ = some (.slice L.dA 1 L.dc) ∧ w.cell? ⟨b, 7, none⟩ = some (.slice L.fA 2 L.fc) ∧ w.cell? ⟨b, 8, none⟩ = some (.slice L.fA 2 L.fc) ∧ w.cell? ⟨b, 9, none⟩ = some (.slice none 0 0) ∧ w.cell? ⟨b, 10, none⟩ = some (.slice none 0 0) :=
  ⟨h.bk.at rfl, h.bk.at rfl, by rw [← h.ow.2.2.2.2.1]; exact h.bk.at rfl, by rw [← h.ow.2.2.2.1]; exact h.bk.at rfl, h.bk.at rfl, h.bk.at rfl, h.bk.at rfl, h.bk.at rfl, h.bk.at rfl, h.bk.at rfl⟩
theorem LogI.left (h : LogI w lo b s p fs r0 rs L) (hb : Bk w' b (logC s' p { L with ln := 0 }) 108) (hm : Mv w w' (fun k => k = b)) : LogJ w' lo b s' p fs r0 rs { L with ln := 0 } := by
  have hR := fun k (q : L.R k) => hm.at (h.bd k q).2 (fun e => h.rb (e ▸ q))
  exact ⟨hb, h.ow.keep (fun k q => hm.at (h.ow.lt q).2 (fun e => h.nb (e ▸ q))), h.od.keep (fun k q => hR k (h.rd k q)), own_same h.dr (fun k q => hR k (h.rr k q)), own_same h.fr (fun k q => hR k (h.rf k q)), h.rd, h.rr, h.rf, h.nb, h.rb, h.rt, h.lb, fun k q => ⟨(h.bd k q).1, Nat.lt_of_lt_of_le (h.bd k q).2 hm.size⟩⟩
end
section
variable {lo b : Nat} {s p : Int} {fs : List Fd} {r0 rs : List Rc} {L : Lm}
theorem leave_any (w : World) (H : LogI w lo b s p fs r0 rs L) (hl : L.ln = 1) : Calls Tryz.prog 52 #[.pointer (some ⟨b, 0, none⟩)] w fun e w' => (∃ A n c B m d, e = .returned (.tuple #[.agg #[.int .i64 p, .slice A n c, .slice B m d], .int .i64 0])) ∧ LogJ w' lo b s p fs r0 rs { L with ln := 0 } ∧ Mv w w' (fun k => k = b) := by
  obtain ⟨A1, n1, c1, B1, m1, d1, e2⟩ : ∃ A n c B m d, w.ownsRow lo 25 3 (.slice L.lA 1 L.lc) 1 [.int .i64 p, .slice A n c, .slice B m d] := by
    rcases H.lr with e | ⟨-, A, n, c, B, m, d, e2⟩
    · omega
    · exact ⟨A, n, c, B, m, d, e2⟩
  obtain ⟨gl, el, hgl, f0, f1, f2⟩ := row25 e2
  have hlc : 1 ≤ L.lc := (Rd.of_own e2).2.1
  obtain ⟨a0, a2, a3, a4, a5, a6, a7, a8, a9, a10⟩ := H.c
  clear a0 a2 a3 a4 a6 a7 a8 a9 a10
  rw [el, hl] at a5
  have hbl := hid H.bk.lt
  have kb := hid H.bk
  obtain ⟨w1, g1, e1, h1, s1, k1, x1⟩ := newB w [.int .i64 0, .slice none 0 0, .slice none 0 0] 25
  have hg1 := hid (show w.heap.size = g1 from h1.out)
  replace k1 := hid k1
  replace x1 := hid x1
  have b5 := x1.out.cell a5
  have y0 := x1.out.cell f0
  have y1 := x1.out.cell f1
  have y2 := x1.out.cell f2
  clear a5 f0 f1 f2
  obtain ⟨w2, g2, e3, h3, s3, k2, x2⟩ := newB w1 [.int .i64 p, .slice A1 n1 c1, .slice B1 m1 d1] 25
  have hg2 := hid (show w1.heap.size = g2 from h3.out)
  have hs2 := hid (show w1.heap.size = g1 + 1 from s1.out)
  replace k2 := hid k2
  replace x2 := hid x2
  have i0 : ¬ L.lc = 0 := by omega
  have i1 : ¬ (0 : Nat) = L.lc := by omega
  go_enter Tryz.func52, Tryz.ntmps52
  go_upto_region 1 with fail
  try simp only [e1.out, h1.out]
  clear e1 h1 s1
  go_upto_region 5 with fail
  try simp only [e3.out, h3.out]
  clear e3 h3 s3 y0 y1 y2 b5
  have kb2 := hid (kb.out.ext (x1.out.trans x2.out))
  have z5 : w2.cell? ⟨b, 5, none⟩ = some (.slice (some ⟨gl, 0, none⟩) 1 L.lc) := by have := kb2.out.at (i := 5) rfl; rwa [el, hl] at this
  have fz : w2.frozen? ⟨b, 5, none⟩ = false := kb2.out.free 5
  go_upto_region 6 with fail
  clear z5 fz
  have hk := hid ((setCell_at w2 b 5 (.slice (some ⟨gl, 0, none⟩) 0 L.lc)).2)
  have ho := hid (setCell_at w2 b 5 (.slice (some ⟨gl, 0, none⟩) 0 L.lc)).1
  have kb3 := hid (show Bk (w2.setCell ⟨b, 5, none⟩ (.slice (some ⟨gl, 0, none⟩) 0 L.lc)) b (logC s p { L with ln := 0 }) 108 from by have := kb2.out.set 5 (.slice (some ⟨gl, 0, none⟩) 0 L.lc); rw [← el] at this ⊢; exact this)
  have m3 := hid ((Mv.of (F := fun k => k = b) (x1.out.trans x2.out)).set (g := b) (.inl rfl) 5 (.slice (some ⟨gl, 0, none⟩) 0 L.lc))
  have k13 := hid ((k1.out.ext x2.out).keep (hk.out g1 (by have := hg1.out; have := hbl.out; omega)))
  have k23 := hid (k2.out.keep (hk.out g2 (by have := hg1.out; have := hbl.out; have := hg2.out; have := hs2.out; omega)))
  generalize w2.setCell ⟨b, 5, none⟩ (.slice (some ⟨gl, 0, none⟩) 0 L.lc) = w3 at *
  obtain ⟨q0, q1, q2⟩ := k13.out.c3
  obtain ⟨r0', r1', r2'⟩ := k23.out.c3
  have fr0 := k13.out.free 0
  have m4 := hid (((((m3.out.set (g := g1) (.inr (by have := hg1.out; omega)) 0 (.int .i64 p)).set (g := g1) (.inr (by have := hg1.out; omega)) 1 (.slice A1 n1 c1)).set (g := g1) (.inr (by have := hg1.out; omega)) 2 (.slice B1 m1 d1))))
  have kb4 := hid (kb3.out.keep (w' := ((w3.setCell ⟨g1, 0, none⟩ (.int .i64 p)).setCell ⟨g1, 1, none⟩ (.slice A1 n1 c1)).setCell ⟨g1, 2, none⟩ (.slice B1 m1 d1)) (by
    have hn : b ≠ g1 := by have := hg1.out; have := hbl.out; omega
    rw [(setCell_at _ g1 2 _).2 b hn, (setCell_at _ g1 1 _).2 b hn, (setCell_at _ g1 0 _).2 b hn]))
  have hres := hid (H.left kb4.out m4.out)
  have fr1 := k13.out.free 1
  have fr2 := k13.out.free 2
  have kf := hid (show Bk (((w3.setCell ⟨g1, 0, none⟩ (.int .i64 p)).setCell ⟨g1, 1, none⟩ (.slice A1 n1 c1)).setCell ⟨g1, 2, none⟩ (.slice B1 m1 d1)) g1 [.int .i64 p, .slice A1 n1 c1, .slice B1 m1 d1] 25 from ((k13.out.set 0 _).set 1 _).set 2 _)
  clear kb hk ho kb3 k13 k23 m3 kb2 k1 k2 x1 x2
  go_wp2
  clear q0 q1 q2 r0' r1' r2' fr0 fr1 fr2
  generalize ((w3.setCell ⟨g1, 0, none⟩ (.int .i64 p)).setCell ⟨g1, 1, none⟩ (.slice A1 n1 c1)).setCell ⟨g1, 2, none⟩ (.slice B1 m1 d1) = w9 at *
  obtain ⟨q0, q1, q2⟩ := kf.out.c3
  exact bodyPost_ret (v := .tuple #[.agg #[.int .i64 p, .slice A1 n1 c1, .slice B1 m1 d1], .int .i64 0]) (by simp [results, Tryz.results52, go_sem, q0, q1, q2]) rfl ⟨⟨_, _, _, _, _, _, rfl⟩, hres.out, m4.out⟩
end
open Go.RowKit Go.Shelf
section
variable {P : Program} {ops : Array Oper} {Q : Exit → Act → World → Prop} {md : Region.Mode} {S T : World → Prop} {last : Nat}
def pathB (md : Region.Mode) (ops : Array Oper) (listed : Array Bool) (i : Nat) : List Nat → Nat → Bool
  | [], last => waits md ops last i
  | m :: ms, last => waits md ops m i && ((listed.getD m true == false) && pathB md ops listed m ms last)
theorem waits_un {i k : Nat} {listed : Array Bool} (h : waits md ops k i = true) (h0 : listed.getD i true = false) : k ∉ Region.ready md ops listed := by
  intro hl
  obtain ⟨_, ol, hol, hall⟩ := mem_ready.1 hl
  unfold waits at h
  rw [hol] at h
  obtain ⟨e, he, hb⟩ := Array.any_eq_true'.1 h
  simp only [Bool.and_eq_true, beq_iff_eq] at hb
  have h1 := hall e he hb.1
  rw [hb.2] at h1
  rcases Nat.lt_or_ge i listed.size with h' | h'
  · simp [h'] at h0 h1; rw [h0] at h1; cases h1
  · simp [Array.getElem?_eq_none h'] at h1
theorem path_no {listed : Array Bool} : ∀ (ms : List Nat) (i : Nat), listed.getD i true = false → pathB md ops listed i ms last = true → last ∉ Region.ready md ops listed ∧ ∀ m ∈ ms, m ∉ Region.ready md ops listed
  | [], i, h0, h => ⟨waits_un h h0, fun m hm => by cases hm⟩
  | m :: ms, i, h0, h => by
    unfold pathB at h
    simp only [Bool.and_eq_true, beq_iff_eq] at h
    have ih := path_no ms m h.2.1 h.2.2
    refine ⟨ih.1, fun k hk => ?_⟩
    rcases List.mem_cons.1 hk with rfl | hk
    · exact waits_un h.1 h0
    · exact ih.2 k hk
theorem path_keep {listed : Array Bool} {j : Nat} : ∀ (ms : List Nat) (i : Nat), pathB md ops listed i ms last = true → (∀ m ∈ ms, m ≠ j) → pathB md ops (listed.setIfInBounds j true) i ms last = true
  | [], i, h, _ => h
  | m :: ms, i, h, hn => by
    unfold pathB at h ⊢
    simp only [Bool.and_eq_true, beq_iff_eq] at h ⊢
    exact ⟨h.1, by rw [getD_set_ne true (hn m (by simp)).symm]; exact h.2.1, path_keep ms m h.2.2 (fun k hk => hn k (by simp [hk]))⟩
theorem wpAnyP_first {i : Nat} {oi : Oper} {v : Value} (hi : ops[i]? = some oi) (hsel : ∀ (j : Nat) (o : Oper) cs b, ops[j]? = some o → o.op ≠ .select cs b)
    (hQ : ∀ c a w, Q (.panic c) (a.put oi.dst v) w → Q (.panic c) a w) (hil : i ≠ last) :
    ∀ (fuel : Nat) (listed : Array Bool) (a : Act) (w : World),
      (∀ j oj, ops[j]? = some oj → j ≠ i → listed.getD j true = false → (∀ e ∈ oj.after, Region.binds md e = true → e.on ≠ i) → oi.apart ops oj = true) →
      i ∈ Region.ready md ops listed → YieldsIf P ops T oi v a → T w → (listed.getD last true = false → S w) → ((∀ w, T w) ∨ (∃ ms, pathB md ops listed i ms last = true ∧ listed.getD last true = false ∧ ∀ w, S w → T w)) →
      wpAnyK P md ops Q S last fuel (listed.setIfInBounds i true) (a.put oi.dst v) w → wpAnyK P md ops Q S last (fuel + 1) listed a w := by
  intro fuel
  induction fuel with
  | zero =>
    intro listed a w _ hr hy hT hS _ H
    refine ⟨fun h => (by rw [h] at hr; cases hr), fun j hj => ?_⟩
    by_cases hji : j = i
    · subst hji; exact hy.wpOp hi hT ⟨fun _ => hS, H⟩
    · have := ready_mono hj hji
      rw [H.1] at this
      cases this
  | succ fuel ih =>
    intro listed a w hfree hr hy hT hS hw H
    refine ⟨fun h => (by rw [h] at hr; cases hr), fun j hj => ?_⟩
    by_cases hji : j = i
    · subst hji; exact hy.wpOp hi hT ⟨fun _ => hS, H⟩
    · have h1 := H.2 j (ready_mono hj hji)
      obtain ⟨hjun, oj, hoj, hall⟩ := mem_ready.1 hj
      have hnot : ∀ e ∈ oj.after, Region.binds md e = true → e.on ≠ i := fun e he hb heq => by
        have h1 := hall e he hb
        have h0 := (mem_ready.1 hr).1
        rw [heq] at h1
        rcases Nat.lt_or_ge i listed.size with h' | h'
        · simp [h'] at h0 h1; rw [h0] at h1; cases h1
        · simp [Array.getElem?_eq_none h'] at h1
      have h2 := wpOp_putIf hoj (hfree j oj hoj hji hjun hnot) (fun cs b => hsel i oi cs b hi) (fun cs b => hsel j oj cs b hoj) hQ hy h1
      have hfree' : ∀ k ok, ops[k]? = some ok → k ≠ i → (listed.setIfInBounds j true).getD k true = false →
          (∀ e ∈ ok.after, Region.binds md e = true → e.on ≠ i) → oi.apart ops ok = true := fun k ok hk hki hun hno => by
        refine hfree k ok hk hki ?_ hno
        by_cases hjk : j = k
        · subst hjk; exact hjun
        · rw [getD_set_ne true hjk] at hun; exact hun
      have hlast : (listed.setIfInBounds i true).getD last true = listed.getD last true := getD_set_ne true hil
      refine wpOp_mono (fun a' w' h3 => ?_) h2
      obtain ⟨h4, h5, h6⟩ := h3
      have hS' : j ≠ last → listed.getD last true = false → S w' := fun n1 n2 => h5 n1 (hlast.trans n2)
      have hlj : (listed.setIfInBounds j true).getD last true = false → j ≠ last ∧ listed.getD last true = false := fun h => by
        by_cases hjl : j = last
        · subst hjl
          rcases Nat.lt_or_ge j listed.size with h' | h'
          · simp [h'] at h
          · simp [Array.getElem?_eq_none h'] at h
        · exact ⟨hjl, by rw [getD_set_ne true hjl] at h; exact h⟩
      refine ⟨hS', ih (listed.setIfInBounds j true) a' w' hfree' (ready_mono hr (Ne.symm hji)) h4 ?_ (fun h => hS' (hlj h).1 (hlj h).2) ?_ (by rw [Array.setIfInBounds_comm _ _ hji]; exact h6)⟩
      · rcases hw with hw | ⟨ms, w1, w2, w3⟩
        · exact hw w'
        · exact w3 w' (hS' (fun e => (path_no ms i (mem_ready.1 hr).1 w1).1 (e ▸ hj)) w2)
      · rcases hw with hw | ⟨ms, w1, w2, w3⟩
        · exact .inl hw
        · have hp := path_no ms i (mem_ready.1 hr).1 w1
          have hjl : j ≠ last := fun e => hp.1 (e ▸ hj)
          exact .inr ⟨ms, path_keep ms i w1 (fun m hm e => hp.2 m hm (e ▸ hj)), by rw [getD_set_ne true hjl]; exact w2, w3⟩
def kop (md : Region.Mode) (ops : Array Oper) (listed : Array Bool) (i last : Nat) (ms : List Nat) : Bool := Region.noSelect ops && (Region.free md ops listed i && ((Region.ready md ops listed).contains i && (pathB md ops listed i ms last && (i != last && (listed.getD last true == false)))))
theorem KP (i : Nat) (ms : List Nat) {oi : Oper} {v : Value} {fuel : Nat} {listed : Array Bool} {a : Act} {w : World} (hi : ops[i]? = some oi) (hc : kop md ops listed i last ms = true) (hw : Region.wanted oi (yielded ops a.tmps) = true)
    (hv : ∀ w, S w → (execOp a.eval oi).run P w = .ok (.value v) w) (hS : S w)
    (h : wpAnyK P md ops (OnlyOn Q) S last fuel (listed.setIfInBounds i true) (a.put oi.dst v) w) : wpAnyK P md ops (OnlyOn Q) S last (fuel + 1) listed a w := by
  unfold kop at hc
  simp only [Bool.and_eq_true] at hc
  obtain ⟨h1, h2, h3, h4, h5, h6⟩ := hc
  exact wpAnyP_first hi (Region.noSelect_spec h1) (fun _ _ _ h => h) (by simpa using h5) fuel listed a w (Region.free_spec hi h2) (by simpa using h3) (.inl ⟨hw, hv⟩) hS (fun _ => hS) (.inr ⟨ms, h4, by simpa using h6, fun _ h => h⟩) h
end
open Go.RowKit Go.Shelf Go.MuLone
def LogDn (w : World) (b : Nat) (s p : Int) (fs : List Fd) (rs : List Rc) (G : Nat → Prop) (n : Nat) : Prop :=
  ∃ lo A c t x3 x4 x5 x7 x8 x9 x10 es, Bk w b [.int .i32 s, .int .u32 0, .int .i64 p, x3, x4, x5, .slice A n c, x7, x8, x9, x10] 108 ∧ (n = 1 ∨ n = 2) ∧ w.ownsRow lo 25 3 (.slice A n c) n (es ++ [.int .i64 p, .slice t.A fs.length t.c, .slice t.B rs.length t.d]) ∧ es.length = 3 * (n - 1) ∧ OwTt w lo fs.length fs rs t ∧
    ¬ t.F b ∧ G b ∧ (∀ k, t.F k → G k) ∧ (∀ k, (Value.slice A n c).ownBlock = some k → k ≠ b ∧ G k)
def LogD (w : World) (b : Nat) (s p : Int) (fs : List Fd) (rs : List Rc) (G : Nat → Prop) : Prop := ∃ n, LogDn w b s p fs rs G n
section
variable {w w' : World} {b n : Nat} {s p : Int} {fs : List Fd} {rs : List Rc} {G : Nat → Prop}
theorem LogDn.keep (h : LogDn w b s p fs rs G n) (hk : ∀ k, G k → w'.heap[k]? = w.heap[k]?) : LogDn w' b s p fs rs G n := by
  obtain ⟨lo, A, c, t, x3, x4, x5, x7, x8, x9, x10, es, h1, h2, h3, h4, h5, h6, h7, h8, h9⟩ := h
  exact ⟨lo, A, c, t, x3, x4, x5, x7, x8, x9, x10, es, h1.keep (hk b h7), h2, own_same h3 (fun k q => hk k (h9 k q).2), h4, h5.keep (fun k q => hk k (h8 k q)), h6, h7, h8, h9⟩
theorem LogDn.ext (h : LogDn w b s p fs rs G n) (hx : Ext w w') : LogDn w' b s p fs rs G n := by
  obtain ⟨lo, A, c, t, x3, x4, x5, x7, x8, x9, x10, es, h1, h2, h3, h4, h5, h6, h7, h8, h9⟩ := h
  exact ⟨lo, A, c, t, x3, x4, x5, x7, x8, x9, x10, es, h1.ext hx, h2, hx.own h3, h4, h5.ext hx, h6, h7, h8, h9⟩
theorem LogDn.lt (h : LogDn w b s p fs rs G n) : b < w.heap.size := by
  obtain ⟨lo, A, c, t, x3, x4, x5, x7, x8, x9, x10, es, h1, -⟩ := h
  exact h1.lt
theorem LogDn.c0 (h : LogDn w b s p fs rs G n) : w.cell? ⟨b, 0, none⟩ = some (.int .i32 s) ∧ w.frozen? ⟨b, 0, none⟩ = false := by
  obtain ⟨lo, A, c, t, x3, x4, x5, x7, x8, x9, x10, es, h1, -⟩ := h
  exact ⟨h1.at rfl, h1.free 0⟩
theorem LogDn.turn (h : LogDn w b s p fs rs G n) (s' : Int) : LogDn (w.setCell ⟨b, 0, none⟩ (.int .i32 s')) b s' p fs rs G n := by
  have hk : ∀ k, k ≠ b → (w.setCell ⟨b, 0, none⟩ (.int .i32 s')).heap[k]? = w.heap[k]? := (setCell_at w b 0 _).2
  obtain ⟨lo, A, c, t, x3, x4, x5, x7, x8, x9, x10, es, h1, h2, h3, h4, h5, h6, h7, h8, h9⟩ := h
  exact ⟨lo, A, c, t, x3, x4, x5, x7, x8, x9, x10, es, h1.set 0 _, h2, own_same h3 (fun k q => hk k (h9 k q).1), h4, h5.keep (fun k q => hk k (fun e => h6 (e ▸ q))), h6, h7, h8, h9⟩
theorem LogDn.mono {G' : Nat → Prop} (h : LogDn w b s p fs rs G n) (hg : ∀ k, G k → G' k) : LogDn w b s p fs rs G' n := by
  obtain ⟨lo, A, c, t, x3, x4, x5, x7, x8, x9, x10, es, h1, h2, h3, h4, h5, h6, h7, h8, h9⟩ := h
  exact ⟨lo, A, c, t, x3, x4, x5, x7, x8, x9, x10, es, h1, h2, h3, h4, h5, h6, hg b h7, fun k q => hg k (h8 k q), fun k q => ⟨(h9 k q).1, hg k (h9 k q).2⟩⟩
theorem LogD_mono {G' : Nat → Prop} (h : LogD w b s p fs rs G) (hg : ∀ k, G k → G' k) : LogD w b s p fs rs G' := h.imp fun n h => h.mono hg
end
section
variable {lo b : Nat} {s p : Int} {fs : List Fd} {r0 rs : List Rc} {L : Lm}
theorem LogJ.d {w : World} (h : LogJ w lo b s p fs r0 rs L) (e : r0 = rs) : LogD w b s p fs rs (fun k => LogF b L k ∨ w.heap.size ≤ k) := by
  subst e
  have e1 := h.od.2.2.2.1
  have e2 := h.od.2.2.2.2.1
  refine ⟨1, lo, L.dA, L.dc, L.d, _, _, _, _, _, _, _, [], h.bk, .inl rfl, by rw [← e1, ← e2]; exact h.dr, rfl, h.od, fun q => h.rb (h.rd b q), .inl (.inl rfl), fun k q => .inl (.inr (.inr (h.rd k q))), fun k q => ⟨fun e => h.rb (e ▸ h.rr k q), .inl (.inr (.inr (h.rr k q)))⟩⟩
theorem commit2_any (w : World) (H : LogJ w lo b s p fs r0 rs L) (hE0 : okT p fs r0) (hE : okT p fs rs) (hl : L.ln = 0) : Calls Tryz.prog 53 #[.pointer (some ⟨b, 0, none⟩)] w fun e w' => e = .returned (.tuple #[]) ∧ LogD w' b s p fs rs (fun k => LogF b L k ∨ w.heap.size ≤ k) ∧ Mv w w' (LogF b L) := by
  have H := hid H
  obtain ⟨gd, ed, -, -, -, -⟩ := row25 H.out.dr
  have hd := hid (fun w' (hx : Ext w w') => Differ_any p L.d.A L.d.n L.d.c L.d.B L.d.m L.d.d L.t.A fs.length L.t.c L.t.B rs.length L.t.d fs r0 rs w' (H.out.ext hx).od.rf (H.out.ext hx).od.rr (H.out.ext hx).rf' (H.out.ext hx).rr' hE0 hE)
  unfold tb at hd
  have hE := hid hE
  have hE0 := hid hE0
  have i00 := IntWalk.i64_in 0 (by omega)
  go_enter Tryz.func53, Tryz.ntmps53
  go_upto_region 0 with fail
  have xa := (Ext.refl w).drew_right
  refine region_J (fun w' => Ext w w') 14 (by kernel_rfl) ?_
  generalize w.drew = da at xa ⊢
  refine JR 0 (v := ?va1) rfl (by kernel_rfl) rfl ?ya1 xa ?ra1
  case ya1 => (intro w hw; (go_simp; with_reducible rfl))
  simp only [Act.put, lyA, lyB, lyC, lyD, lyE, lyF]
  refine JR 1 (v := ?va2) rfl (by kernel_rfl) rfl ?ya2 xa ?ra2
  case ya2 => (intro w hw; (go_simp; with_reducible rfl))
  simp only [Act.put, lyA, lyB, lyC, lyD, lyE, lyF]
  refine JR 2 (v := ?va3) rfl (by kernel_rfl) rfl ?ya3 xa ?ra3
  case ya3 => (intro w hw; (go_simp; with_reducible rfl))
  simp only [Act.put, lyA, lyB, lyC, lyD, lyE, lyF]
  refine JR 3 (v := ?va4) rfl (by kernel_rfl) rfl ?ya4 xa ?ra4
  case ya4 => (intro w hw; obtain ⟨a0, a2, a3, a4, a5, a6, a7, a8, a9, a10⟩ := (H.out.ext hw).c; rw [ed] at a6; obtain ⟨gd', ed', -, d0, d1, d2⟩ := row25 (H.out.ext hw).dr; rw [ed] at ed'; injection ed' with ed'; injection ed' with ed'; subst ed'; (go_simp; with_reducible rfl))
  simp only [Act.put, lyA, lyB, lyC, lyD, lyE, lyF]
  refine JR 4 (v := ?va5) rfl (by kernel_rfl) rfl ?ya5 xa ?ra5
  case ya5 => (intro w hw; (go_simp; with_reducible rfl))
  simp only [Act.put, lyA, lyB, lyC, lyD, lyE, lyF]
  refine JR 5 (v := ?va6) rfl (by kernel_rfl) rfl ?ya6 xa ?ra6
  case ya6 => (intro w hw; (go_simp; with_reducible rfl))
  simp only [Act.put, lyA, lyB, lyC, lyD, lyE, lyF]
  refine JR 6 (v := ?va7) rfl (by kernel_rfl) rfl ?ya7 xa ?ra7
  case ya7 => (intro w hw; (go_simp; with_reducible rfl))
  simp only [Act.put, lyA, lyB, lyC, lyD, lyE, lyF]
  refine JR 7 (v := ?va8) rfl (by kernel_rfl) rfl ?ya8 xa ?ra8
  case ya8 => (intro w hw; obtain ⟨a0, a2, a3, a4, a5, a6, a7, a8, a9, a10⟩ := (H.out.ext hw).c; rw [ed] at a6; obtain ⟨gd', ed', -, d0, d1, d2⟩ := row25 (H.out.ext hw).dr; rw [ed] at ed'; injection ed' with ed'; injection ed' with ed'; subst ed'; (go_simp; with_reducible rfl))
  simp only [Act.put, lyA, lyB, lyC, lyD, lyE, lyF]
  refine JR 8 (v := ?va9) rfl (by kernel_rfl) rfl ?ya9 xa ?ra9
  case ya9 => (intro w hw; (go_simp; with_reducible rfl))
  simp only [Act.put, lyA, lyB, lyC, lyD, lyE, lyF]
  refine JR 9 (v := ?va10) rfl (by kernel_rfl) rfl ?ya10 xa ?ra10
  case ya10 => (intro w hw; (go_simp; with_reducible rfl))
  simp only [Act.put, lyA, lyB, lyC, lyD, lyE, lyF]
  refine JR 10 (v := ?va11) rfl (by kernel_rfl) rfl ?ya11 xa ?ra11
  case ya11 => (intro w hw; (go_simp; with_reducible rfl))
  simp only [Act.put, lyA, lyB, lyC, lyD, lyE, lyF]
  refine JR 11 (v := ?va12) rfl (by kernel_rfl) rfl ?ya12 xa ?ra12
  case ya12 => (intro w hw; obtain ⟨a0, a2, a3, a4, a5, a6, a7, a8, a9, a10⟩ := (H.out.ext hw).c; rw [ed] at a6; obtain ⟨gd', ed', -, d0, d1, d2⟩ := row25 (H.out.ext hw).dr; rw [ed] at ed'; injection ed' with ed'; injection ed' with ed'; subst ed'; (go_simp; with_reducible rfl))
  simp only [Act.put, lyA, lyB, lyC, lyD, lyE, lyF]
  refine J_one 12 rfl (by kernel_rfl) (fun K hK => ?_)
  go_simp
  obtain ⟨wa13, ba13, ea13, ga13, ha13, ca13, hxa13, la13⟩ := alloc_at da [.int .i64 0, .slice none 0 0, .slice none 0 0] 25
  simp only [ea13, ga13]
  have za13 : w.heap.size ≤ ba13 := by rw [← ga13]; exact (xa).size
  have ya13 : da.heap.size ≤ ba13 := by rw [← ga13]; exact Nat.le_refl _
  clear ea13 ga13 ca13
  refine hK _ _ ⟨fun _ => ((xa).trans hxa13), ?_⟩
  clear hK K
  try simp only [Act.put, lyA, lyB, lyC, lyD, lyE, lyF]
  have xa13 := ((xa).trans hxa13)
  refine J_one 13 rfl (by kernel_rfl) (fun K hK => ?_)
  refine step_store0 rfl 25 _ _ rfl ba13 [.int .i64 p, .slice L.d.A L.d.n L.d.c, .slice L.d.B L.d.m L.d.d] rfl rfl ha13 (by kernel_rfl) (by first | rfl | simp [Value.oneCell']) ?_
  obtain ⟨wa14, ea14, ha14, ca14, hxa14, -, hka14⟩ := store_at (u := w) [.int .i64 p, .slice L.d.A L.d.n L.d.c, .slice L.d.B L.d.m L.d.d] ha13 (xa13) za13
  rw [ea14]
  clear ea14
  refine hK _ _ ⟨fun _ => hxa14, ?_⟩
  clear hK K
  try simp only [Act.put, lyA, lyB, lyC, lyD, lyE, lyF]
  refine J_done (by kernel_rfl) (OnlyOn.normal ?_)
  have x1 := hid (hxa14)
  have kc := hid (HB.bk (xs := [.int .i64 p, .slice L.d.A L.d.n L.d.c, .slice L.d.B L.d.m L.d.d]) ha14 ca14)
  have kz := hid za13
  generalize wa14 = w1 at *
  generalize ba13 = gc at *
  go_upto_region 1 with fail
  have xb := (Ext.refl w1).drew_right
  refine region_J (fun w' => Ext w1 w') 11 (by kernel_rfl) ?_
  generalize w1.drew = db at xb ⊢
  refine JR 0 (v := ?vb1) rfl (by kernel_rfl) rfl ?yb1 xb ?rb1
  case yb1 => (intro w hw; obtain ⟨a0, a2, a3, a4, a5, a6, a7, a8, a9, a10⟩ := (H.out.ext (x1.out.trans hw)).c; obtain ⟨q0, q1, q2⟩ := (kc.out.ext hw).c3; (go_simp; with_reducible rfl))
  simp only [Act.put, lyA, lyB, lyC, lyD, lyE, lyF]
  refine JR 1 (v := ?vb2) rfl (by kernel_rfl) rfl ?yb2 xb ?rb2
  case yb2 => (intro w hw; (go_simp; with_reducible rfl))
  simp only [Act.put, lyA, lyB, lyC, lyD, lyE, lyF]
  refine JR 2 (v := ?vb3) rfl (by kernel_rfl) rfl ?yb3 xb ?rb3
  case yb3 => (intro w hw; (go_simp; with_reducible rfl))
  simp only [Act.put, lyA, lyB, lyC, lyD, lyE, lyF]
  refine JR 3 (v := ?vb4) rfl (by kernel_rfl) rfl ?yb4 xb ?rb4
  case yb4 => (intro w hw; (go_simp; with_reducible rfl))
  simp only [Act.put, lyA, lyB, lyC, lyD, lyE, lyF]
  refine JR 4 (v := ?vb5) rfl (by kernel_rfl) rfl ?yb5 xb ?rb5
  case yb5 => (intro w hw; obtain ⟨a0, a2, a3, a4, a5, a6, a7, a8, a9, a10⟩ := (H.out.ext (x1.out.trans hw)).c; obtain ⟨q0, q1, q2⟩ := (kc.out.ext hw).c3; (go_simp; with_reducible rfl))
  simp only [Act.put, lyA, lyB, lyC, lyD, lyE, lyF]
  refine J_one 5 rfl (by kernel_rfl) (fun K hK => ?_)
  go_simp
  refine (hd.out _ (x1.out.trans xb)).mono ?_
  rintro e9 wb6 ⟨S, ks, cs, rfl, hks0, hks1, hks2, hxb6⟩
  have hks0 := hid hks0
  have hks1 := hid hks1
  have hks2 := hid hks2
  have hbase := hid ((x1.out.trans xb).size)
  refine hK _ _ ⟨fun _ => ((xb).trans hxb6), ?_⟩
  clear hK K
  try simp only [Act.put, lyA, lyB, lyC, lyD, lyE, lyF]
  have xb6 := ((xb).trans hxb6)
  refine JR 6 (v := ?vb7) rfl (by kernel_rfl) rfl ?yb7 xb6 ?rb7
  case yb7 => (intro w hw; (go_simp; with_reducible rfl))
  simp only [Act.put, lyA, lyB, lyC, lyD, lyE, lyF]
  refine JR 7 (v := ?vb8) rfl (by kernel_rfl) rfl ?yb8 xb6 ?rb8
  case yb8 => (intro w hw; (go_simp; with_reducible rfl))
  simp only [Act.put, lyA, lyB, lyC, lyD, lyE, lyF]
  refine JR 8 (v := ?vb9) rfl (by kernel_rfl) rfl ?yb9 xb6 ?rb9
  case yb9 => (intro w hw; (go_simp; with_reducible rfl))
  simp only [Act.put, lyA, lyB, lyC, lyD, lyE, lyF]
  refine JR 9 (v := ?vb10) rfl (by kernel_rfl) rfl ?yb10 xb6 ?rb10
  case yb10 => (intro w hw; (go_simp; with_reducible rfl))
  simp only [Act.put, lyA, lyB, lyC, lyD, lyE, lyF]
  refine JR 10 (v := ?vb11) rfl (by kernel_rfl) rfl ?yb11 xb6 ?rb11
  case yb11 => (intro w hw; (go_simp; with_reducible rfl))
  simp only [Act.put, lyA, lyB, lyC, lyD, lyE, lyF]
  refine J_done (by kernel_rfl) (OnlyOn.normal ?_)
  have x3 := hid (x1.out.trans xb6)
  have hks0 := hid (show OwZ wb6 w.heap.size S ks cs from own_baseK hks0.out hbase.out)
  generalize wb6 = w3 at *
  clear hd kc kz
  obtain ⟨a0, a2, a3, a4, a5, a6, a7, a8, a9, a10⟩ := (H.out.ext x3.out).c
  rw [hl] at a5
  by_cases hk0 : ks = []
  · subst hk0
    have hres := hid ((H.out.ext x3.out).d (hks2.out rfl))
    clear hks2 hks1 hks0
    go_wp2
    refine bodyPost_ret (v := .tuple #[]) (by simp [results, Tryz.results53]) rfl ⟨rfl, LogD_mono hres.out (fun k e => e.imp id (fun q => Nat.le_trans x3.out.size q)), Mv.of x3.out⟩
  · have hkl : ¬ ks.length = 0 := fun e => hk0 (List.eq_nil_of_length_eq_zero e)
    have hkp : 0 < ks.length := by omega
    obtain ⟨gf, ef, -, -⟩ := own_blk H.out.fr (by omega)
    have fcell := hid (fun (w' : World) (hw : Ext w3 w') => (show w'.cell? ⟨gf, 0, none⟩ = some (.slice L.bA L.bn L.bc) ∧ w'.cell? ⟨gf, 1, none⟩ = some (.slice none 0 0) from by
      have hr := Rd.of_own (H.out.ext (x3.out.trans hw)).fr
      rw [ef] at hr
      obtain ⟨ad, e, hc⟩ := hr.2.2.2 (by omega)
      injection e with e
      subst e
      have c0 := hc 0 (.slice L.bA L.bn L.bc) rfl
      have c1 := hc 1 (.slice none 0 0) rfl
      rw [lit_add0] at c0 c1
      exact ⟨c0, c1⟩))
    have hch := hid (fun w' (hx : Ext w3 w') => Change_any p L.t.A fs.length L.t.c L.t.B rs.length L.t.d fs rs S ks cs w' (H.out.ext (x3.out.trans hx)).rf' (H.out.ext (x3.out.trans hx)).rr' hE.out (Rd.of_own (hx.own hks0.out)) hks1.out)
    unfold tb at hch
    clear hks2
    go_upto_region 3 with fail
    clear a0 a2 a3 a4 a5 a6 a7 a8 a9 a10 hkl hkp
    have xc := (Ext.refl w3).drew_right
    refine region_K (fun w' => Ext w3 w') 16 (by kernel_rfl) ?_
    generalize w3.drew = dc at xc ⊢
    refine KF 0 (v := ?vc1) rfl (by kernel_rfl) rfl ?yc1 (.inr xc) ?rc1
    case yc1 => (intro w; (go_simp; with_reducible rfl))
    simp only [Act.put, lyA, lyB, lyC, lyD, lyE, lyF]
    refine KF 1 (v := ?vc2) rfl (by kernel_rfl) rfl ?yc2 (.inr xc) ?rc2
    case yc2 => (intro w; (go_simp; with_reducible rfl))
    simp only [Act.put, lyA, lyB, lyC, lyD, lyE, lyF]
    refine KF 2 (v := ?vc3) rfl (by kernel_rfl) rfl ?yc3 (.inr xc) ?rc3
    case yc3 => (intro w; (go_simp; with_reducible rfl))
    simp only [Act.put, lyA, lyB, lyC, lyD, lyE, lyF]
    refine KF 3 (v := ?vc4) rfl (by kernel_rfl) rfl ?yc4 (.inr xc) ?rc4
    case yc4 => (intro w; (go_simp; with_reducible rfl))
    simp only [Act.put, lyA, lyB, lyC, lyD, lyE, lyF]
    refine KP 4 [5, 6, 7, 15] (v := ?vc5) rfl (by kernel_rfl) rfl ?yc5 xc ?rc5
    case yc5 => (intro w hw; obtain ⟨a0, a2, a3, a4, a5, a6, a7, a8, a9, a10⟩ := (H.out.ext (x3.out.trans hw)).c; rw [ef] at a8; obtain ⟨f0, f1⟩ := fcell.out _ hw; (go_simp; with_reducible rfl))
    simp only [Act.put, lyA, lyB, lyC, lyD, lyE, lyF]
    refine KF 5 (v := ?vc6) rfl (by kernel_rfl) rfl ?yc6 (.inr xc) ?rc6
    case yc6 => (intro w; (go_simp; with_reducible rfl))
    simp only [Act.put, lyA, lyB, lyC, lyD, lyE, lyF]
    refine KP 6 [7, 15] (v := ?vc7) rfl (by kernel_rfl) rfl ?yc7 xc ?rc7
    case yc7 => (intro w hw; obtain ⟨a0, a2, a3, a4, a5, a6, a7, a8, a9, a10⟩ := (H.out.ext (x3.out.trans hw)).c; rw [ef] at a8; obtain ⟨f0, f1⟩ := fcell.out _ hw; (go_simp; with_reducible rfl))
    simp only [Act.put, lyA, lyB, lyC, lyD, lyE, lyF]
    refine KF 7 (v := ?vc8) rfl (by kernel_rfl) rfl ?yc8 (.inr xc) ?rc8
    case yc8 => (intro w; (go_simp; with_reducible rfl))
    simp only [Act.put, lyA, lyB, lyC, lyD, lyE, lyF]
    refine KF 8 (v := ?vc9) rfl (by kernel_rfl) rfl ?yc9 (.inr xc) ?rc9
    case yc9 => (intro w; (go_simp; with_reducible rfl))
    simp only [Act.put, lyA, lyB, lyC, lyD, lyE, lyF]
    refine KF 9 (v := ?vc10) rfl (by kernel_rfl) rfl ?yc10 (.inr xc) ?rc10
    case yc10 => (intro w; (go_simp; with_reducible rfl))
    simp only [Act.put, lyA, lyB, lyC, lyD, lyE, lyF]
    refine KF 10 (v := ?vc11) rfl (by kernel_rfl) rfl ?yc11 (.inr xc) ?rc11
    case yc11 => (intro w; (go_simp; with_reducible rfl))
    simp only [Act.put, lyA, lyB, lyC, lyD, lyE, lyF]
    refine KP 11 [13, 14, 15] (v := ?vc12) rfl (by kernel_rfl) rfl ?yc12 xc ?rc12
    case yc12 => (intro w hw; obtain ⟨a0, a2, a3, a4, a5, a6, a7, a8, a9, a10⟩ := (H.out.ext (x3.out.trans hw)).c; rw [ef] at a8; obtain ⟨f0, f1⟩ := fcell.out _ hw; (go_simp; with_reducible rfl))
    simp only [Act.put, lyA, lyB, lyC, lyD, lyE, lyF]
    refine KF 12 (v := ?vc13) rfl (by kernel_rfl) rfl ?yc13 (.inr xc) ?rc13
    case yc13 => (intro w; (go_simp; with_reducible rfl))
    simp only [Act.put, lyA, lyB, lyC, lyD, lyE, lyF]
    refine K_one 13 rfl (by kernel_rfl) (fun K hK => ?_)
    go_simp
    refine (hch.out _ xc).mono ?_
    rintro e9 wc14 ⟨S1, q1, cs1, rfl, ⟨l1, hY1⟩, hq1, hxc14⟩
    have hq1 := hid hq1
    refine hK _ _ ⟨fun _ _ => ((xc).trans hxc14), ?_⟩
    clear hK K
    try simp only [Act.put, lyA, lyB, lyC, lyD, lyE, lyF]
    have xc14 := ((xc).trans hxc14)
    refine K_one 14 rfl (by kernel_rfl) (fun K hK => ?_)
    go_simp
    refine (Record_any 99 S1 q1 cs1 l1 _ hY1.rd (by have := hq1.out; omega) hq1.out.2).mono ?_
    rintro e9 wc15 ⟨S2, q2, cs2, rfl, ⟨l2, hY2⟩, hq2, hxc15⟩
    have hbas := hid (xc14).size
    have hq2 := hid hq2
    refine hK _ _ ⟨fun _ _ => ((xc14).trans hxc15), ?_⟩
    clear hK K
    try simp only [Act.put, lyA, lyB, lyC, lyD, lyE, lyF]
    have xc15 := ((xc14).trans hxc15)
    refine KF 15 (v := ?vc16) rfl (by kernel_rfl) rfl ?yc16 (.inr xc15) ?rc16
    case yc16 => (intro w; (go_simp; with_reducible rfl))
    simp only [Act.put, lyA, lyB, lyC, lyD, lyE, lyF]
    refine K_end 16 rfl (by kernel_rfl) (by kernel_rfl) (fun K hK => ?_)
    have x4 := hid (xc15)
    have hbb := hid H.out.bk.lt
    have hwr := logWrite_any b (.int .i32 s) (.int .u32 0) (.int .i64 p) (.slice L.t.A L.t.n L.t.c) (.slice L.t.B L.t.m L.t.d) (.slice L.lA L.ln L.lc) (.slice L.dA 1 L.dc) (.slice L.fA 2 L.fc) (.slice none 0 0) S2 q2 cs2 l2 L.fA L.fc L.bA L.bn L.bc wc15 (H.out.ext (x3.out.trans x4.out)).bk hY2.rd hq2.out.1 hq2.out.2 (Rd.of_own (H.out.ext (x3.out.trans x4.out)).fr)
      (fun g hg e => by obtain ⟨ad, e1, -, e2⟩ := hg; subst e1; have := (hY2.lt (g := ad.block) rfl).1; have := hbas.out; have := x3.out.size; have := hbb.out; omega)
      (fun g hg e => by obtain ⟨ad, e1, -, e2⟩ := hg; exact H.out.rb (e ▸ H.out.rf g (by rw [e1]; exact congrArg some e2)))
    go_simp
    rw [ef] at hwr
    refine hwr.mono ?_
    rintro e9 w5 ⟨rfl, G, d, V, v, k5, m5⟩
    refine hK _ _ ?_
    clear hwr
    have k5 := hid k5
    have m6 := hid ((Mv.of (F := fun k => k = b) (x3.out.trans x4.out)).trans m5 (fun k e => .inl e))
    clear hK K
    try simp only [Act.put, lyA, lyB, lyC, lyD, lyE, lyF]
    refine K_done (by kernel_rfl) (OnlyOn.normal ?_)
    have hbw := hid H.out.bk.lt
    have en := H.out.ow.2.2.2.2.1
    have em := H.out.ow.2.2.2.1
    have k5 := hid (show Bk w5 b [.int .i32 s, .int .u32 0, .int .i64 p, .slice L.t.A fs.length L.t.c, .slice L.t.B rs.length L.t.d, .slice L.lA L.ln L.lc, .slice L.dA 1 L.dc, .slice L.fA 2 L.fc, .slice G 2 d, .slice V 1 v, .slice none 0 0] 108 from by rw [← en, ← em, ef]; exact k5.out)
    have ow5 := H.out.ow.keep (w' := w5) (fun k q => m6.out.at (H.out.ow.lt q).2 (fun e => H.out.nb (e ▸ q)))
    have dr5 := hid (own_same H.out.dr (w' := w5) (fun k q => m6.out.at (H.out.bd k (H.out.rr k q)).2 (fun e => H.out.rb (e ▸ H.out.rr k q))))
    have rf5 : RdF w5 L.t.A fs.length L.t.c fs := by have := ow5.rf; rwa [en] at this
    have rr5 : RdR w5 L.t.B rs.length L.t.d rs := by have := ow5.rr; rwa [em] at this
    have hlen := hE.out.len
    have hW := hid hE.out.wid
    have hcp := hid (fun w' (hx : Ext w5 w') => Copied_any p L.t.A fs.length L.t.c L.t.B rs.length L.t.d fs.length fs rs w' (rf5.ext hx) (rr5.ext hx) (by omega) (by omega) hlen.1 (by omega) hW.out)
    unfold tb at hcp
    clear hlen rf5 rr5 ow5 en em hch fcell
    go_upto_region 4 with fail
    have xd := (Ext.refl w5).drew_right
    refine region_K (fun w' => Ext w5 w') 11 (by kernel_rfl) ?_
    generalize w5.drew = dd at xd ⊢
    refine KF 0 (v := ?vd1) rfl (by kernel_rfl) rfl ?yd1 (.inr xd) ?rd1
    case yd1 => (intro w; (go_simp; with_reducible rfl))
    simp only [Act.put, lyA, lyB, lyC, lyD, lyE, lyF]
    refine KF 1 (v := ?vd2) rfl (by kernel_rfl) rfl ?yd2 (.inr xd) ?rd2
    case yd2 => (intro w; (go_simp; with_reducible rfl))
    simp only [Act.put, lyA, lyB, lyC, lyD, lyE, lyF]
    refine KF 2 (v := ?vd3) rfl (by kernel_rfl) rfl ?yd3 (.inr xd) ?rd3
    case yd3 => (intro w; (go_simp; with_reducible rfl))
    simp only [Act.put, lyA, lyB, lyC, lyD, lyE, lyF]
    refine KF 3 (v := ?vd4) rfl (by kernel_rfl) rfl ?yd4 (.inr xd) ?rd4
    case yd4 => (intro w; (go_simp; with_reducible rfl))
    simp only [Act.put, lyA, lyB, lyC, lyD, lyE, lyF]
    refine KT 4 (v := ?vd5) rfl (by kernel_rfl) rfl ?yd5 xd ?rd5
    case yd5 => (intro w hw; have j2 := (k5.out.ext hw).at (i := 2) rfl; have j3 := (k5.out.ext hw).at (i := 3) rfl; have j4 := (k5.out.ext hw).at (i := 4) rfl; have j6 := (k5.out.ext hw).at (i := 6) rfl; (go_simp; with_reducible rfl))
    simp only [Act.put, lyA, lyB, lyC, lyD, lyE, lyF]
    refine KF 5 (v := ?vd6) rfl (by kernel_rfl) rfl ?yd6 (.inr xd) ?rd6
    case yd6 => (intro w; (go_simp; with_reducible rfl))
    simp only [Act.put, lyA, lyB, lyC, lyD, lyE, lyF]
    refine KF 6 (v := ?vd7) rfl (by kernel_rfl) rfl ?yd7 (.inr xd) ?rd7
    case yd7 => (intro w; (go_simp; with_reducible rfl))
    simp only [Act.put, lyA, lyB, lyC, lyD, lyE, lyF]
    refine KF 7 (v := ?vd8) rfl (by kernel_rfl) rfl ?yd8 (.inr xd) ?rd8
    case yd8 => (intro w; (go_simp; with_reducible rfl))
    simp only [Act.put, lyA, lyB, lyC, lyD, lyE, lyF]
    refine KP 8 [9, 10] (v := ?vd9) rfl (by kernel_rfl) rfl ?yd9 xd ?rd9
    case yd9 => (intro w hw; have j2 := (k5.out.ext hw).at (i := 2) rfl; have j3 := (k5.out.ext hw).at (i := 3) rfl; have j4 := (k5.out.ext hw).at (i := 4) rfl; have j6 := (k5.out.ext hw).at (i := 6) rfl; (go_simp; with_reducible rfl))
    simp only [Act.put, lyA, lyB, lyC, lyD, lyE, lyF]
    refine K_one 9 rfl (by kernel_rfl) (fun K hK => ?_)
    go_simp
    have hb9 := hid (Nat.le_trans m6.out.size (xd).size)
    refine (hcp.out _ xd).mono ?_
    rintro e9 wd10 ⟨A1, d1, B1, d2, rfl, hOT, hxd10⟩
    obtain ⟨rr1, hOT⟩ := hOT.tt
    have hOT := hid hOT
    have x5c := hid ((xd).trans hxd10)
    refine hK _ _ ⟨fun _ _ => ((xd).trans hxd10), ?_⟩
    clear hK K
    try simp only [Act.put, lyA, lyB, lyC, lyD, lyE, lyF]
    have xd10 := ((xd).trans hxd10)
    refine K_one 10 rfl (by kernel_rfl) (fun K hK => ?_)
    go_simp
    have sd11 := one_rd wd10 [.int .i64 p, .slice A1 fs.length d1, .slice B1 rs.length d2] 25 3 rfl
    have hxd11 := Ext.new wd10 (.cells #[.int .i64 p, .slice A1 fs.length d1, .slice B1 rs.length d2] 25)
    change Rd (wd10.alloc (.cells #[.int .i64 p, .slice A1 fs.length d1, .slice B1 rs.length d2] 25)) _ _ _ _ _ at sd11
    generalize wd10.alloc (.cells #[.int .i64 p, .slice A1 fs.length d1, .slice B1 rs.length d2] 25) = wd11 at *
    generalize wd10.heap.size = bd11 at *
    have hOT := hid (hOT.out.ext hxd11)
    refine hK _ _ ⟨fun _ _ => ((xd10).trans hxd11), ?_⟩
    clear hK K
    try simp only [Act.put, lyA, lyB, lyC, lyD, lyE, lyF]
    have xd11 := ((xd10).trans hxd11)
    refine K_end 11 rfl (by kernel_rfl) (by kernel_rfl) (fun K hK => ?_)
    have x9 := hid (xd11)
    have hls := hid (Nat.le_trans (Nat.le_of_lt (Nat.lt_of_le_of_lt H.out.lb hbw.out)) (Nat.le_trans m6.out.size x9.out.size))
    obtain ⟨A2, c2, w7, happ, own7, hg7, hgb7⟩ := app105 wd11 lo 105 (.slice L.dA 1 L.dc) 1 _ (x9.out.own dr5.out) _ 1 1 _ sd11 (by intro u hu; simp at hu; rcases hu with rfl | rfl | rfl <;> rfl) hls.out (by omega)
    simp only [Nat.reduceAdd] at happ own7 hgb7
    rw [ed] at happ
    replace happ := hid happ
    have own7 := hid own7
    have hg7 := hid hg7
    have hgb7 := hid hgb7
    refine step_run rfl _ (ex_append _ _ _ _ rfl _ _ (by simp [Act.eval, Act.put]) (by simp [Act.eval, Act.put]) _ happ.out) ?_
    refine hK _ _ ?_
    clear hK K
    try simp only [Act.put, lyA, lyB, lyC, lyD, lyE, lyF]
    refine KF 12 (v := ?vd13) rfl (by kernel_rfl) rfl ?yd13 (.inl (by kernel_rfl)) ?rd13
    case yd13 => (intro w; (go_simp; with_reducible rfl))
    simp only [Act.put, lyA, lyB, lyC, lyD, lyE, lyF]
    refine KF 13 (v := ?vd14) rfl (by kernel_rfl) rfl ?yd14 (.inl (by kernel_rfl)) ?rd14
    case yd14 => (intro w; (go_simp; with_reducible rfl))
    simp only [Act.put, lyA, lyB, lyC, lyD, lyE, lyF]
    refine K_end 14 rfl (by kernel_rfl) (by kernel_rfl) (fun K hK => ?_)
    have hdl := hid (fun k (q : (Value.slice L.dA 1 L.dc).ownBlock = some k) => (show k ≠ b ∧ k < w.heap.size from ⟨fun e => H.out.rb (e ▸ H.out.rr k q), (H.out.bd k (H.out.rr k q)).2⟩))
    have k7 := hid ((k5.out.ext x9.out).keep (hg7.out.block b (k5.out.ext x9.out).lt (fun e => (hdl.out b e.symm).1 rfl)))
    have z6 := k7.out.at (i := 6) rfl
    have fz := k7.out.free 6
    go_simp
    refine hK _ _ ?_
    clear hK K
    try simp only [Act.put, lyA, lyB, lyC, lyD, lyE, lyF]
    refine K_done (by kernel_rfl) (OnlyOn.normal ?_)
    have k8 := hid (show Bk (w7.setCell ⟨b, 6, none⟩ (.slice A2 2 c2)) b [.int .i32 s, .int .u32 0, .int .i64 p, .slice L.t.A fs.length L.t.c, .slice L.t.B rs.length L.t.d, .slice L.lA L.ln L.lc, .slice A2 2 c2, .slice L.fA 2 L.fc, .slice G 2 d, .slice V 1 v, .slice none 0 0] 108 from k7.out.set 6 _)
    have hk8 := hid (setCell_at w7 b 6 (.slice A2 2 c2)).2
    have hA2 := hid (fun k (q : (Value.slice A2 2 c2).ownBlock = some k) => (show k ≠ b ∧ (LogF b L k ∨ w.heap.size ≤ k) from by
      rcases hgb7.out with e | e
      · rw [e] at q
        exact ⟨(hdl.out k q).1, .inl (.inr (.inr (H.out.rr k q)))⟩
      · have := e k q
        have := hbw.out
        have := m6.out.size
        have := x9.out.size
        exact ⟨by omega, .inr (by omega)⟩))
    have own8 := hid (own_same own7.out (fun k q => hk8.out k (hA2.out k q).1))
    have hF8 := hid (fun k (q : (⟨A1, fs.length, d1, B1, rs.length, d2, rr1⟩ : Tt).F k) => Nat.le_trans hb9.out (hOT.out.lt q).1)
    have ot8 := hid (((hOT.out.lo' (lo' := lo) (Nat.le_trans (Nat.le_of_lt (Nat.lt_of_le_of_lt H.out.lb hbw.out)) hb9.out))).keep (w' := w7.setCell ⟨b, 6, none⟩ (.slice A2 2 c2)) (fun k q => (hk8.out k (fun e => by have := hF8.out k q; have := hbw.out; omega)).trans (hg7.out.block k (hOT.out.lt q).2 (fun e => by have := (hdl.out k e.symm).2; have := hF8.out k q; omega))))
    have m8 := hid (((((m6.out.mono (fun k e => (.inl e : LogF b L k))).ext x9.out).grown hg7.out (fun k q => .inl (.inr (.inr (H.out.rr k q)))))).set (g := b) (.inl (.inl rfl)) 6 (.slice A2 2 c2))
    clear k5 x9 happ own7 hg7 hgb7 hOT hcp z6 fz k7 hk8 m6 dr5 x5c
    generalize w7.setCell ⟨b, 6, none⟩ (.slice A2 2 c2) = w8 at *
    go_upto_region 5 with fail
    have xe := (Ext.refl w8).drew_right
    refine region_J (fun w' => Ext w8 w') 14 (by kernel_rfl) ?_
    generalize w8.drew = de at xe ⊢
    refine JW 0 (v := ?ve1) rfl (by kernel_rfl) rfl ?ye1 xe ?re1
    case ye1 => (intro w hw; (go_simp; with_reducible rfl))
    simp only [Act.put, lyA, lyB, lyC, lyD, lyE, lyF]
    refine JW 1 (v := ?ve2) rfl (by kernel_rfl) rfl ?ye2 xe ?re2
    case ye2 => (intro w hw; (go_simp; with_reducible rfl))
    simp only [Act.put, lyA, lyB, lyC, lyD, lyE, lyF]
    refine JW 2 (v := ?ve3) rfl (by kernel_rfl) rfl ?ye3 xe ?re3
    case ye3 => (intro w hw; (go_simp; with_reducible rfl))
    simp only [Act.put, lyA, lyB, lyC, lyD, lyE, lyF]
    refine JW 3 (v := ?ve4) rfl (by kernel_rfl) rfl ?ye4 xe ?re4
    case ye4 => (intro w hw; (go_simp; with_reducible rfl))
    simp only [Act.put, lyA, lyB, lyC, lyD, lyE, lyF]
    refine JW 4 (v := ?ve5) rfl (by kernel_rfl) rfl ?ye5 xe ?re5
    case ye5 => (intro w hw; have j9 := (k8.out.ext hw).at (i := 9) rfl; have j10 := (k8.out.ext hw).at (i := 10) rfl; (go_simp; with_reducible rfl))
    simp only [Act.put, lyA, lyB, lyC, lyD, lyE, lyF]
    refine JW 5 (v := ?ve6) rfl (by kernel_rfl) rfl ?ye6 xe ?re6
    case ye6 => (intro w hw; (go_simp; with_reducible rfl))
    simp only [Act.put, lyA, lyB, lyC, lyD, lyE, lyF]
    refine JW 6 (v := ?ve7) rfl (by kernel_rfl) rfl ?ye7 xe ?re7
    case ye7 => (intro w hw; (go_simp; with_reducible rfl))
    simp only [Act.put, lyA, lyB, lyC, lyD, lyE, lyF]
    refine JW 7 (v := ?ve8) rfl (by kernel_rfl) rfl ?ye8 xe ?re8
    case ye8 => (intro w hw; (go_simp; with_reducible rfl))
    simp only [Act.put, lyA, lyB, lyC, lyD, lyE, lyF]
    refine JW 8 (v := ?ve9) rfl (by kernel_rfl) rfl ?ye9 xe ?re9
    case ye9 => (intro w hw; have j9 := (k8.out.ext hw).at (i := 9) rfl; have j10 := (k8.out.ext hw).at (i := 10) rfl; (go_simp; with_reducible rfl))
    simp only [Act.put, lyA, lyB, lyC, lyD, lyE, lyF]
    refine JW 9 (v := ?ve10) rfl (by kernel_rfl) rfl ?ye10 xe ?re10
    case ye10 => (intro w hw; (go_simp; with_reducible rfl))
    simp only [Act.put, lyA, lyB, lyC, lyD, lyE, lyF]
    refine J_one 10 rfl (by kernel_rfl) (fun K hK => ?_)
    go_simp
    have se11 := one_rd de [.int .i64 1] 3 1 rfl
    have hxe11 := Ext.new de (.cells #[.int .i64 1] 3)
    change Rd (de.alloc (.cells #[.int .i64 1] 3)) _ _ _ _ _ at se11
    generalize de.alloc (.cells #[.int .i64 1] 3) = we11 at *
    generalize de.heap.size = be11 at *
    refine hK _ _ ⟨fun _ => ((xe).trans hxe11), ?_⟩
    clear hK K
    try simp only [Act.put, lyA, lyB, lyC, lyD, lyE, lyF]
    have xe11 := ((xe).trans hxe11)
    refine J_one 11 rfl (by kernel_rfl) (fun K hK => ?_)
    obtain ⟨Ae12, ce12, we12, happe12, owne12, hge12, hgbe12⟩ := app51 we11 w8.heap.size 51 (.slice none 0 0) 0 _ (World.ownsRow_nil _ _ _ _) _ 1 1 _ se11 (by intro u hu; simp at hu; rcases hu with rfl; rfl) ((xe11).size) (by omega)
    have hxe12 : Ext we11 we12 := ⟨hge12.os, hge12.tape, hge12.output, hge12.size, fun q hq => hge12.block q hq (fun e => by cases e)⟩
    simp only [Nat.zero_add, List.nil_append] at happe12
    replace happe12 := hid happe12
    clear se11 hge12 hgbe12 owne12
    refine step_run rfl _ (ex_append _ _ _ _ rfl _ _ (by simp [Act.eval, Act.put]) (by simp [Act.eval, Act.put]) _ happe12.out) ?_
    refine hK _ _ ⟨fun _ => ((xe11).trans hxe12), ?_⟩
    clear hK K
    try simp only [Act.put, lyA, lyB, lyC, lyD, lyE, lyF]
    have xe12 := ((xe11).trans hxe12)
    refine J_one 12 rfl (by kernel_rfl) (fun K hK => ?_)
    go_simp
    refine hK _ _ ⟨fun _ => xe12, ?_⟩
    clear hK K
    try simp only [Act.put, lyA, lyB, lyC, lyD, lyE, lyF]
    refine JW 13 (v := ?ve14) rfl (by kernel_rfl) rfl ?ye14 xe12 ?re14
    case ye14 => (intro w hw; (go_simp; with_reducible rfl))
    simp only [Act.put, lyA, lyB, lyC, lyD, lyE, lyF]
    refine J_one 14 rfl (by kernel_rfl) (fun K hK => ?_)
    have x9 := hid (xe12)
    have k9 := k8.out.ext x9.out
    have z10 := k9.at (i := 10) rfl
    have fz := k9.free 10
    go_simp
    refine hK _ _ ⟨fun h => absurd rfl h, ?_⟩
    clear hK K
    try simp only [Act.put, lyA, lyB, lyC, lyD, lyE, lyF]
    have k10 := hid (k9.set 10 (.slice Ae12 1 ce12))
    have hk := (setCell_at we12 b 10 (.slice Ae12 1 ce12)).2
    have own9 := hid (own_same (x9.out.own own8.out) (w' := we12.setCell ⟨b, 10, none⟩ (.slice Ae12 1 ce12)) (fun k q => hk k (hA2.out k q).1))
    have ot9 := hid ((ot8.out.ext x9.out).keep (w' := we12.setCell ⟨b, 10, none⟩ (.slice Ae12 1 ce12)) (fun k q => hk k (fun e => by have := hF8.out k q; have := hbw.out; omega)))
    have m9 := hid ((m8.out.ext x9.out).set (g := b) (.inl (.inl rfl)) 10 (.slice Ae12 1 ce12))
    clear hk k9 z10 fz k8 x9 own8 ot8 m8
    refine J_done (by kernel_rfl) (OnlyOn.normal ?_)
    go_wp2
    refine bodyPost_end (v := .tuple #[]) (by simp [results, Tryz.results53]) rfl ?_
    exact ⟨rfl, ⟨2, lo, A2, c2, ⟨A1, fs.length, d1, B1, rs.length, d2, rr1⟩, _, _, _, _, _, _, _, [.int .i64 p, .slice L.d.A L.d.n L.d.c, .slice L.d.B L.d.m L.d.d], k10.out, .inr rfl, own9.out, rfl, ot9.out, fun q => by have := hF8.out b q; have := hbw.out; omega, .inl (.inl rfl), fun k q => .inr (hF8.out k q), hA2.out⟩, m9.out⟩
end
open Go.RowKit Go.Shelf Go.MuLone
theorem OwV.lo' {w : World} {lo lo' m : Nat} {r : Rr} {x : Rc} (h : OwV w lo m r x) (hl : lo' ≤ lo) : OwV w lo' m r x := by
  obtain ⟨h1, h2, h3, b, h4, h5⟩ := h
  exact ⟨h1, h2, h3, b, h4, own_baseK h5 hl⟩
section
variable {w w' : World} {lo l2 b d s : Nat} {st p : Int} {fs : List Fd} {r0 rs vb ra : List Rc} {mode at_ : Int} {t : Tt} {M : Dm} {L : Lm}
theorem BagI.lo' (h : BagI w lo b st p fs rs t) (hl : l2 ≤ lo) : BagI w l2 b st p fs rs t := by
  obtain ⟨h1, h2, h3, h4⟩ := h
  exact ⟨h1, h2.lo' hl, Nat.le_trans hl h3, h4⟩
theorem DeskI.lo' (h : DeskI w lo b st p fs rs vb ra mode at_ M) (hl : l2 ≤ lo) : DeskI w l2 b st p fs rs vb ra mode at_ M :=
  ⟨h.bk, h.ow.lo' hl, h.cm, h.lm, h.ap.lo' hl, h.pl, fun e he => by obtain ⟨i, h1, h2, h3, h4⟩ := h.cv e he; exact ⟨i, h1, h2, h3.lo' hl, h4.lo' hl⟩, h.un, h.len, h.td, h.tt, h.tc, h.tl, h.ta, h.tv, fun k q => ⟨Nat.le_trans hl (h.bd k q).1, (h.bd k q).2⟩⟩
theorem LvR.lo' (h : LvR w lo p L) (hl : l2 ≤ lo) : LvR w l2 p L := by
  rcases h with h | ⟨h1, A, n, c, B, m, d, h2⟩
  · exact .inl h
  · exact .inr ⟨h1, A, n, c, B, m, d, own_baseK h2 hl⟩
theorem LogI.lo' (h : LogI w lo b st p fs r0 rs L) (hl : l2 ≤ lo) : LogI w l2 b st p fs r0 rs L :=
  ⟨h.bk, h.ow.lo' hl, h.od.lo' hl, own_baseK h.dr hl, h.lr.lo' hl, own_baseK h.fr hl, h.rd, h.rr, h.rl, h.rf, h.nb, h.rb, h.rt, Nat.le_trans hl h.lb, fun k q => ⟨Nat.le_trans hl (h.bd k q).1, (h.bd k q).2⟩⟩
end
theorem Trio.made {w1 w2 w3 w4 w5 w6 : World} {b d s : Nat} {p : Int} {fs : List Fd} {rs : List Rc} {mode : Int} {t : Tt} {M : Dm} {L L' : Lm}
    (hb : BagI w2 w1.heap.size b 0 p fs rs t) (x2 : Ext w1 w2) (x3 : Ext w2 w3) (x4 : Ext w3 w4) (hl : LogI w4 w3.heap.size s 0 p fs rs rs L)
    (hd3 : DeskI w3 w2.heap.size d 0 p fs rs rs [] 0 0 M) (hd : DeskI w5 w2.heap.size d 0 p fs rs rs [] mode 0 M) (hc : M.ch = []) (m5 : Mv w4 w5 (DeskF M)) (hl6 : LogI w6 w3.heap.size s 0 p fs rs rs L') (ho : L'.ln = 1) (m6 : Mv w5 w6 (LogF s L)) (hF : ∀ k, LogF s L' k → LogF s L k ∨ w5.heap.size ≤ k) :
    Trio w6 w1.heap.size b d s p fs rs rs rs rs rs.length mode 0 t M L' ∧ Ext w1 w6 := by
  have s2 := x2.size
  have s3 := x3.size
  have s4 := x4.size
  have s5 := m5.size
  have s6 := m6.size
  have fb : ∀ k, bF b t k → w1.heap.size ≤ k ∧ k < w2.heap.size := fun k hk => hb.lt hk
  have fd : ∀ k, DeskF M k → w2.heap.size ≤ k ∧ k < w3.heap.size := fun k hk => hd3.bd k hk
  have fl : ∀ k, LogF s L k → w3.heap.size ≤ k ∧ k < w4.heap.size := fun k hk => hl.lt hk
  have fl' : ∀ k, LogF s L' k → w3.heap.size ≤ k := fun k hk => (hl6.lt hk).1
  have hb6 := (hb.ext x3).ext x4
  have hb7 := hb6.keep (w' := w5) (fun k hk => m5.at (by have := fb k hk; omega) (fun e => by have := fb k hk; have := fd k e; omega))
  have hb8 := hb7.keep (w' := w6) (fun k hk => m6.at (by have := fb k hk; omega) (fun e => by have := fb k hk; have := fl k e; omega))
  have hd6 := hd.keep (w' := w6) (fun k hk => m6.at (by have := fd k hk; omega) (fun e => by have := fd k hk; have := fl k e; omega)) s6
  refine ⟨⟨hb8, ⟨rs, rs, [], hd6.lo' s2, by simp, Nat.le_refl _, by simp, fun _ => ⟨hc, rfl⟩⟩, hl6.lo' (by omega), ho, fun k h1 h2 => ?_, fun k h1 h2 => ?_, fun k h1 h2 => ?_⟩, ?_⟩
  · have := fb k h1; have := fd k h2; omega
  · have := fb k h1; have := fl' k h2; omega
  · have := fd k h1; have := fl' k h2; omega
  · exact Mv.base m6 (Mv.base m5 (x2.trans (x3.trans x4)) (fun k hk => by have := fd k hk; omega)) (fun k hk => by have := fl k hk; omega)
open Go.RowKit Go.Shelf Go.MuLone
theorem row_three {w : World} {g lo : Nat} {a b c : Value} (h : Bk w g [a, b, c] 25) (hlo : lo ≤ g) : w.ownsRow lo 25 3 (.slice (some ⟨g, 0, none⟩) 1 1) 1 [a, b, c] :=
  ⟨rfl, .inr ⟨g, 1, #[a, b, c], rfl, hlo, h, Nat.le_refl _, by unfold maxLen; omega, rfl, rfl⟩⟩
theorem row_two {w : World} {g lo : Nat} {a b : Value} (h : Bk w g [a, b] 94) (hlo : lo ≤ g) : w.ownsRow lo 94 1 (.slice (some ⟨g, 0, none⟩) 2 2) 2 [a, b] :=
  ⟨rfl, .inr ⟨g, 2, #[a, b], rfl, hlo, h, Nat.le_refl _, by unfold maxLen; omega, rfl, rfl⟩⟩
theorem made_any (p : Int) (A : Option Addr) (n c : Nat) (B : Option Addr) (m d lo : Nat) (fs : List Fd) (rs : List Rc) (F : Option Addr) (fc : Nat) (bA : Option Addr) (bn bc : Nat) (w : World) (hf : RdF w A n c fs) (hr : RdR w B m d rs) (hE : okT p fs rs)
    (hF : w.ownsRow lo 94 1 (.slice F 2 fc) 2 [.slice bA bn bc, .slice none 0 0]) (hlo : lo ≤ w.heap.size) :
    Calls Tryz.prog 33 #[tb p A n c B m d, .slice F 2 fc] w fun e w' => ∃ b L, e = .returned (.pointer (some ⟨b, 0, none⟩)) ∧ LogI w' lo b 0 p fs rs rs L ∧ L.ln = 0 ∧ Ext w w' := by
  have hn := hf.len
  have hm := hr.len
  have hl := hE.len
  obtain ⟨w1, g, e1, h1, s1, kg, x1⟩ := newB w [.int .i64 p, .slice A n c, .slice B m d] 25
  have hcp := hid (fun w' (hx : Ext w1 w') => Copied_any p A n c B m d fs.length fs rs w' ((hf.ext x1).ext hx) ((hr.ext x1).ext hx) (by omega) (by omega) hl.1 (by omega) hE.wid)
  have hgw := hid (show w.heap.size ≤ w1.heap.size from x1.size)
  have hF1 := hid (x1.own hF)
  have hFlt := hid (fun k (q : (Value.slice F 2 fc).ownBlock = some k) => (show lo ≤ k ∧ k < w.heap.size from World.ownsRow.lt hF k q))
  have hlo := hid hlo
  replace kg := hid kg
  replace x1 := hid x1
  clear hf hr hF hE
  unfold tb at hcp ⊢
  go_enter Tryz.func33, Tryz.ntmps33
  go_upto_region 1 with fail
  simp only [e1.out, h1.out]
  clear e1 h1 s1
  have xa := (Ext.refl w1).drew_right
  refine region_J (fun w' => Ext w1 w') 10 (by kernel_rfl) ?_
  generalize w1.drew = da at xa ⊢
  refine JR 0 (v := ?va1) rfl (by kernel_rfl) rfl ?ya1 xa ?ra1
  case ya1 => (intro w hw; obtain ⟨a0, a1, a2⟩ := (kg.out.ext hw).c3; (go_simp; with_reducible rfl))
  simp only [Act.put, lyA, lyB, lyC, lyD, lyE, lyF]
  refine JR 2 (v := ?va2) rfl (by kernel_rfl) rfl ?ya2 xa ?ra2
  case ya2 => (intro w hw; obtain ⟨a0, a1, a2⟩ := (kg.out.ext hw).c3; (go_simp; with_reducible rfl))
  simp only [Act.put, lyA, lyB, lyC, lyD, lyE, lyF]
  refine JR 5 (v := ?va3) rfl (by kernel_rfl) rfl ?ya3 xa ?ra3
  case ya3 => (intro w hw; (go_simp; with_reducible rfl))
  simp only [Act.put, lyA, lyB, lyC, lyD, lyE, lyF]
  refine JR 6 (v := ?va4) rfl (by kernel_rfl) rfl ?ya4 xa ?ra4
  case ya4 => (intro w hw; (go_simp; with_reducible rfl))
  simp only [Act.put, lyA, lyB, lyC, lyD, lyE, lyF]
  refine J_one 1 rfl (by kernel_rfl) (fun K hK => ?_)
  go_simp
  refine (hcp.out _ xa).mono ?_
  rintro e9 wa5 ⟨Aa5, da5, Ba5, qa5, rfl, hOa5, hxa5⟩
  obtain ⟨rra5, hTa5⟩ := hOa5.tt
  have loa5 := hid (show w1.heap.size ≤ (da).heap.size from (xa).size)
  have lta5 := hid (fun k (q : (⟨Aa5, n, da5, Ba5, m, qa5, rra5⟩ : Tt).F k) => (show (da).heap.size ≤ k ∧ k < wa5.heap.size from hTa5.lt q))
  refine hK _ _ ⟨fun _ => ((xa).trans hxa5), ?_⟩
  clear hK K
  try simp only [Act.put, lyA, lyB, lyC, lyD, lyE, lyF]
  have xa5 := ((xa).trans hxa5)
  refine J_one 3 rfl (by kernel_rfl) (fun K hK => ?_)
  go_simp
  refine (hcp.out _ xa5).mono ?_
  rintro e9 wa6 ⟨Aa6, da6, Ba6, qa6, rfl, hOa6, hxa6⟩
  obtain ⟨rra6, hTa6⟩ := hOa6.tt
  have loa6 := hid (show w1.heap.size ≤ (wa5).heap.size from (xa5).size)
  have lta6 := hid (fun k (q : (⟨Aa6, n, da6, Ba6, m, qa6, rra6⟩ : Tt).F k) => (show (wa5).heap.size ≤ k ∧ k < wa6.heap.size from hTa6.lt q))
  refine hK _ _ ⟨fun _ => ((xa5).trans hxa6), ?_⟩
  clear hK K
  try simp only [Act.put, lyA, lyB, lyC, lyD, lyE, lyF]
  replace hTa5 := hTa5.ext hxa6
  have xa6 := ((xa5).trans hxa6)
  refine J_one 4 rfl (by kernel_rfl) (fun K hK => ?_)
  go_simp
  obtain ⟨wa7, ba7, ewa7, eba7, sza7, kba7, hxa7⟩ := newB wa6 [.int .i64 p, .slice Aa6 n da6, .slice Ba6 m qa6] 25
  try simp only [ewa7.out, eba7.out]
  have eba7 := hid eba7.out
  have sza7 := hid sza7.out
  clear ewa7
  refine hK _ _ ⟨fun _ => ((xa6).trans hxa7), ?_⟩
  clear hK K
  try simp only [Act.put, lyA, lyB, lyC, lyD, lyE, lyF]
  replace hTa5 := hTa5.ext hxa7
  replace hTa6 := hTa6.ext hxa7
  have xa7 := ((xa6).trans hxa7)
  refine JR 7 (v := ?va8) rfl (by kernel_rfl) rfl ?ya8 xa7 ?ra8
  case ya8 => (intro w hw; (go_simp; with_reducible rfl))
  simp only [Act.put, lyA, lyB, lyC, lyD, lyE, lyF]
  refine J_one 8 rfl (by kernel_rfl) (fun K hK => ?_)
  go_simp
  obtain ⟨wa9, ba9, ewa9, eba9, sza9, kba9, hxa9⟩ := newB wa7 [.int .i32 0, .int .u32 0, .int .i64 p, .slice Aa5 n da5, .slice Ba5 m qa5, .slice none 0 0, .slice (some ⟨ba7, 0, none⟩) 1 1, .slice F 2 fc, .slice F 2 fc, .slice none 0 0, .slice none 0 0] 108
  try simp only [ewa9.out, eba9.out]
  have eba9 := hid eba9.out
  have sza9 := hid sza9.out
  clear ewa9
  refine hK _ _ ⟨fun _ => ((xa7).trans hxa9), ?_⟩
  clear hK K
  try simp only [Act.put, lyA, lyB, lyC, lyD, lyE, lyF]
  replace hTa5 := hTa5.ext hxa9
  replace hTa6 := hTa6.ext hxa9
  replace kba7 := kba7.ext hxa9
  have xa9 := ((xa7).trans hxa9)
  refine JR 9 (v := ?va10) rfl (by kernel_rfl) rfl ?ya10 xa9 ?ra10
  case ya10 => (intro w hw; (go_simp; with_reducible rfl))
  simp only [Act.put, lyA, lyB, lyC, lyD, lyE, lyF]
  refine J_done (by kernel_rfl) (OnlyOn.normal ?_)
  have hX := hid (xa9)
  clear hcp
  have hS : Hid (w.heap.size ≤ w1.heap.size) := hgw
  go_wp2
  go_ret
  refine ⟨ba9, ⟨⟨Aa5, n, da5, Ba5, m, qa5, rra5⟩, ⟨Aa6, n, da6, Ba6, m, qa6, rra6⟩, some ⟨ba7, 0, none⟩, 1, none, 0, 0, F, fc, bA, bn, bc, fun j => (⟨Aa6, n, da6, Ba6, m, qa6, rra6⟩ : Tt).F j ∨ j = ba7 ∨ (Value.slice F 2 fc).ownBlock = some j⟩, rfl, ?_, rfl, x1.out.trans hX.out⟩
  have q1 := hgw.out
  have q2 := hlo.out
  have q3 := loa5.out
  have q4 := loa6.out
  have q5 := eba7.out
  have q6 := eba9.out
  have q7 := sza9.out
  have q8 := sza7.out
  have t1 := lta5.out
  have t2 := lta6.out
  have t3 := hFlt.out
  have z1 := hxa5.size
  have z2 := hxa6.size
  have z3 := hxa7.size
  refine ⟨kba9, hTa5.lo' (by omega), hTa6.lo' (by omega), row_three kba7 (by omega), .inl ⟨rfl, rfl, rfl⟩, hX.out.own hF1.out, fun j q => .inl q, fun j q => ?_, fun j q => ?_, fun j q => .inr (.inr q), fun q => ?_, fun q => ?_, fun j q q' => ?_, by omega, fun j q => ?_⟩
  · injection q with q; exact .inr (.inl q.symm)
  · cases q
  · have := t1 _ q; omega
  · rcases q with q | q | q
    · have := t2 _ q; omega
    · omega
    · have := t3 _ q; omega
  · have := t1 _ q'
    rcases q with q | q | q
    · have := t2 _ q; omega
    · omega
    · have := t3 _ q; omega
  · rcases q with q | q | q
    · have := t2 _ q; omega
    · omega
    · have := t3 _ q; omega
theorem logNew_bad (p : Int) (A : Option Addr) (n c : Nat) (B : Option Addr) (m d : Nat) (fs : List Fd) (rs : List Rc) (w : World) (hf : RdF w A n c fs) (hr : RdR w B m d rs) (hE : ¬ okT p fs rs) :
    Calls Tryz.prog 8 #[tb p A n c B m d] w fun e w' => e = .returned (.tuple #[.pointer none, .int .i64 (vtE p fs rs)]) ∧ Ext w w' := by
  obtain ⟨w1, g, e1, h1, s1, kg, x1⟩ := newB w [.int .i64 p, .slice A n c, .slice B m d] 25
  have hV := hid (Bytes_bad p A n c B m d fs rs w1 (hf.ext x1) (hr.ext x1) hE)
  unfold okT at hE
  replace kg := hid kg
  replace x1 := hid x1
  clear hf hr
  generalize vtE p fs rs = er at *
  unfold tb at hV ⊢
  go_enter Tryz.func8, Tryz.ntmps8
  go_upto_region 1 with fail
  simp only [e1.out, h1.out]
  clear e1 h1 s1
  obtain ⟨a0, a1, a2⟩ := kg.out.c3
  go_wp2_with fail
  refine hV.out.mono ?_
  rintro e w2 ⟨rfl, hx2⟩
  have hxf := hid (x1.out.trans hx2)
  clear hV a0 a1 a2 x1 kg hx2
  go_wp2
  exact bodyPost_ret (v := .tuple #[.pointer none, .int .i64 er]) (by simp [results, Tryz.results8, go_sem]) rfl ⟨rfl, hxf.out⟩
theorem logNew_any (p : Int) (A : Option Addr) (n c : Nat) (B : Option Addr) (m d : Nat) (fs : List Fd) (rs : List Rc) (w : World) (hf : RdF w A n c fs) (hr : RdR w B m d rs) (hE : okT p fs rs) :
    Calls Tryz.prog 8 #[tb p A n c B m d] w fun e w' => ∃ b L, e = .returned (.tuple #[.pointer (some ⟨b, 0, none⟩), .int .i64 0]) ∧ LogI w' w.heap.size b 0 p fs rs rs L ∧ L.ln = 0 ∧ Ext w w' := by
  obtain ⟨w1, g, e1, h1, s1, kg, x1⟩ := newB w [.int .i64 p, .slice A n c, .slice B m d] 25
  have hV := hid (Bytes_any p A n c B m d fs rs w1 (hf.ext x1) (hr.ext x1) hE)
  have hM := hid (fun (F : Option Addr) (fc : Nat) (bA : Option Addr) (bn bc : Nat) w' (hx : Ext w1 w') => made_any p A n c B m d w.heap.size fs rs F fc bA bn bc w' ((hf.ext x1).ext hx) ((hr.ext x1).ext hx) hE)
  replace kg := hid kg
  have x1s := hid x1.size
  replace x1 := hid x1
  clear hf hr hE
  unfold tb at hV hM ⊢
  go_enter Tryz.func8, Tryz.ntmps8
  go_upto_region 1 with fail
  simp only [e1.out, h1.out]
  clear e1 h1 s1
  obtain ⟨a0, a1, a2⟩ := kg.out.c3
  go_wp2_with fail
  refine hV.out.mono ?_
  rintro e w2 ⟨S, q, cs, rfl, hx2⟩
  have k2 := hid (kg.out.ext hx2)
  have hx2 := hid hx2
  clear hV a0 a1 a2 kg
  obtain ⟨w3, g3, e3, h3, s3, k3, x3⟩ := newB w2 [.slice S q cs, .slice none 0 0] 94
  have hF := hid (row_two (lo := w.heap.size) k3 (by have := h3.out; have := hx2.out.size; have := x1s.out; omega))
  have hM2 := hid (hM.out (some ⟨g3, 0, none⟩) 2 S q cs w3 (hx2.out.trans x3) hF.out (by have := s3.out; have := h3.out; have := hx2.out.size; have := x1s.out; omega))
  obtain ⟨a0, a1, a2⟩ := k2.out.c3
  have hx3 := hid (x1.out.trans (hx2.out.trans x3))
  have e3 := e3.out
  have h3 := h3.out
  clear hM hF k3 x3 s3
  go_wp2_with fail
  try simp only [e3, h3]
  refine hM2.out.mono ?_
  rintro e w4 ⟨b, L, rfl, hL, hln, hx4⟩
  have hL := hid hL
  have hln := hid hln
  have hxf := hid (hx3.out.trans hx4)
  clear hM2 a0 a1 a2 hx4
  go_wp2
  exact bodyPost_ret (v := .tuple #[.pointer (some ⟨b, 0, none⟩), .int .i64 0]) (by simp [results, Tryz.results8, go_sem]) rfl ⟨b, L, rfl, hL.out, hln.out, hxf.out⟩
end Go.Proofs.YtngoebbmgpdeiaaGreatDoor
