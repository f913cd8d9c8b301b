/-
  A log: how it is entered; whether a record is there, and fits; which records of two tables differ; Rows of bytes; numbers as bytes; the sum of bytes; What a value in a field is like, and how long its text is. No function of the program in sight.
-/
import Derived.Test.YtngoebbmgpdeiaaGreatDoorQ8
import Derived.Laws.MakeOwn
import Derived.Lib.AppendStr
import Derived.Test.YtngoebbmgpdeiaaGreatDoorQ6
set_option maxRecDepth 100000
set_option maxHeartbeats 40000000
set_option linter.unusedVariables false
set_option linter.unusedSimpArgs false
namespace Go.Proofs.YtngoebbmgpdeiaaGreatDoor
open Go.RowKit Go.Shelf Go.MuLone
theorem wpList_app {P : Program} {w w' : World} {ops : Array Oper} {rest : List Oper} {o : Oper} {a : Act} {Q : Exit → Act → World → Prop} (hgd : o.guard = none) (s x : Operand) (t tn : TypeId) (ho : o.op = .call { callee := .builtin .append, args := #[s, x], argTypes := #[t, tn] }) (vs vx : Value) (hs : a.eval s = vs) (hx : a.eval x = vx)
    (v' : Value) (hr : (Builtin.append_ #[t, tn] o.type #[vs, vx]).run P w = .ok v' w') (h : wpList P ops Q rest (a.put o.dst v') w') : wpList P ops Q (o :: rest) a w :=
  wpList_plain hgd fun _ hK => by
    unfold Oper.wp
    rw [ex_append s x t tn ho vs vx hs hx v' hr]
    exact hK _ _ h
theorem enterL_any (b : Nat) (w : World) (c0 : w.cell? ⟨b, 0, none⟩ = some (.int .i32 0)) (f0 : w.frozen? ⟨b, 0, none⟩ = false) :
    Calls Tryz.prog 36 #[.pointer (some ⟨b, 0, none⟩)] w fun e w' => e = .returned (.tuple #[.func (.func 57) #[.pointer (some ⟨b, 0, none⟩)] #[], .int .i64 0]) ∧ Ext (w.setCell ⟨b, 0, none⟩ (.int .i32 1)) w' := by
  go_enter Tryz.func36, Tryz.ntmps36
  go_wp2_with (go_at_call 69; refine (lock_free muLib ⟨b, 0, none⟩ _ c0 f0).mono ?_; rintro e w2 ⟨rfl, rfl⟩)
  exact bodyPost_ret (v := .tuple #[.func (.func 57) #[.pointer (some ⟨b, 0, none⟩)] #[], .int .i64 0]) (by simp [results, Tryz.results36, go_sem]) rfl ⟨rfl, Ext.refl _⟩
section
variable {lo b : Nat} {s p : Int} {fs : List Fd} {r0 rs : List Rc} {L : Lm}
theorem isThere_any (k : Int) (w : World) (H : LogI w lo b s p fs r0 rs L) : Calls Tryz.prog 88 #[.pointer (some ⟨b, 0, none⟩), .int .i64 k] w (Give (.bool (decide (1 ≤ k) && decide (k ≤ rs.length))) w) := by
  obtain ⟨a0, a2, a3, a4, a5, a6, a7, a8, a9, a10⟩ := H.c
  clear H
  rcases Bool.eq_false_or_eq_true (decide (1 ≤ k)) with q1 | q1 <;> rcases Bool.eq_false_or_eq_true (decide (k ≤ rs.length)) with q2 | q2
  all_goals rw [q1, q2]
  all_goals go_enter Tryz.func88, Tryz.ntmps88
  all_goals go_wp2
  all_goals go_ret
  all_goals exact ⟨rfl, Ext.refl _⟩
end
def zs (ks : List Int) : List Value := ks.map (fun k => .int .i64 k)
theorem zs_app (a b : List Int) : zs (a ++ b) = zs a ++ zs b := by simp [zs]
theorem differ_step {ra rb : List Rc} {k : Nat} {q : Prop} (h : q → ∀ i, i < k → i < ra.length ∧ i < rb.length ∧ rth ra i = rth rb i) (h1 : k < ra.length) (h2 : k < rb.length) (he : rth ra k = rth rb k) : q → ∀ i, i < k + 1 → i < ra.length ∧ i < rb.length ∧ rth ra i = rth rb i := fun hq i hi => by
  rcases Nat.lt_or_eq_of_le (Nat.lt_succ_iff.1 hi) with h3 | h3
  · exact h hq i h3
  · rw [h3]; exact ⟨h1, h2, he⟩
theorem Rc.ext' {a b : Rc} (h1 : a.gone = b.gone) (h2 : a.v = b.v) : a = b := by cases a; cases b; simp_all
theorem Differ_any (p : Int) (A : Option Addr) (n c : Nat) (B : Option Addr) (m d : Nat) (A' : Option Addr) (n' c' : Nat) (B' : Option Addr) (m' d' : Nat) (fs : List Fd) (ra rb : List Rc) (w : World) (hf : RdF w A n c fs) (hr : RdR w B m d ra) (hf' : RdF w A' n' c' fs) (hr' : RdR w B' m' d' rb) (hE : okT p fs ra) (hE' : okT p fs rb) :
    Calls Tryz.prog 93 #[tb p A n c B m d, tb p A' n' c' B' m' d'] w fun e w' => ∃ (S : Option Addr) (ks : List Int) (cs : Nat), e = .returned (.tuple #[.slice S ks.length cs, .int .i64 0]) ∧ w'.ownsRow w.heap.size 3 1 (.slice S ks.length cs) ks.length (zs ks) ∧ ks.length ≤ 300 ∧ (ks = [] → ra = rb) ∧ Ext w w' := by
  have hl1 := hE.len.2.2
  have hl2 := hE'.len.2.2
  have e1 := hr.len
  have e2 := hr'.len
  have em := Rd.max hf
  have em' := Rd.max hf'
  subst e1
  subst e2
  obtain ⟨w1, gA, e1, h1, s1, kA, x1⟩ := newB w [.int .i64 p, .slice A n c, .slice B ra.length d] 25
  obtain ⟨w2, gB, e2, h2, s2, kB, x2⟩ := newB w1 [.int .i64 p, .slice A' n' c', .slice B' rb.length d'] 25
  have h2 := s1.out.symm.trans h2.out
  have hx := hid (x1.trans x2)
  have kA := hid (kA.ext x2)
  have kB := hid kB
  have hf := hid (hf.ext hx.out)
  have hf' := hid (hf'.ext hx.out)
  have hr := hid (hr.ext hx.out)
  have hr' := hid (hr'.ext hx.out)
  have q1 := hid (fun w' (hx' : Ext w2 w') => Validate_any p A n c B ra.length d fs ra w' (hf.out.ext hx') (hr.out.ext hx'))
  have q2 := hid (fun w' (hx' : Ext w2 w') => Validate_any p A' n' c' B' rb.length d' fs rb w' (hf'.out.ext hx') (hr'.out.ext hx'))
  have q3 := hid (fun w' (hx' : Ext w2 w') => eq126_any A A' n c n' c' fs fs w' (hf.out.ext hx') (hf'.out.ext hx') true (hid ⟨fun _ => rfl, fun _ => rfl⟩))
  unfold okT at hE hE'
  rw [hE] at q1
  rw [hE'] at q2
  clear x1 x2 s1 s2 hE hE'
  unfold tb at q1 q2 ⊢
  go_enter Tryz.func93, Tryz.ntmps93
  go_upto_region 1 with fail
  simp only [e1.out, e2.out, h1.out, h2]
  clear e1 e2 h1 h2
  obtain ⟨a0, a1, a2⟩ := kA.out.c3
  obtain ⟨b0, b1, b2⟩ := kB.out.c3
  go_wp2_with fail
  refine (q1.out w2 (Ext.refl _)).mono ?_
  rintro e w3 ⟨rfl, hx3⟩
  clear q1 a0 a1 a2 b0 b1 b2
  obtain ⟨b0, b1, b2⟩ := (kB.out.ext hx3).c3
  have hx3 := hid hx3
  go_wp2_with fail
  refine (q2.out w3 hx3.out).mono ?_
  rintro e w4 ⟨rfl, hx4⟩
  have hx4 := hid (hx3.out.trans hx4)
  clear q2 hx3 b0 b1 b2
  obtain ⟨a0, a1, a2⟩ := (kA.out.ext hx4.out).c3
  obtain ⟨b0, b1, b2⟩ := (kB.out.ext hx4.out).c3
  go_wp2_with fail
  refine (q3.out w4 hx4.out).mono ?_
  rintro e w5 ⟨rfl, hx5⟩
  have hx5 := hid (hx4.out.trans hx5)
  clear q3 hx4 a0 a1 a2 b0 b1 b2
  obtain ⟨a0, a1, a2⟩ := (kA.out.ext hx5.out).c3
  obtain ⟨b0, b1, b2⟩ := (kB.out.ext hx5.out).c3
  go_wp2_with fail
  clear a0 a1 a2 b0 b1 b2
  go_loopw [8, 9, 40] (fun o u v wr => ∃ (k : Nat) (S : Option Addr) (ks : List Int) (cs : Nat), k ≤ max ra.length rb.length ∧ v = .int .i64 k ∧ o = .slice S ks.length cs ∧ Hid (wr.ownsRow w2.heap.size 3 1 (.slice S ks.length cs) ks.length (zs ks)) ∧ Hid (Ext w2 wr) ∧ Hid (ks.length ≤ k) ∧
    Hid (ks = [] → ∀ i, i < k → i < ra.length ∧ i < rb.length ∧ rth ra i = rth rb i)) (fun _ _ v _ => max ra.length rb.length - (intOf v).toNat)
  case atStart => exact ⟨0, none, [], 0, by omega, rfl, rfl, World.ownsRow_nil _ _ _ _, hx5, Nat.le_refl _, fun _ i hi => absurd hi (by omega)⟩
  case round =>
    clear hx5
    obtain ⟨k, S, ks, cs, hk, rfl, rfl, hO, hy, hn, hall⟩ := hrel
    by_cases hlt : k < max ra.length rb.length
    · have i1 := IntWalk.i64_in ((k : Int) + 1) (by omega)
      have hlt2 := hid hlt
      have i0 : (k : Int) < max (ra.length : Int) (rb.length : Int) := by omega
      have hO9 := hid (fun (w' : World) (hx' : Ext wr w') => Ext.own hx' hO.out)
      have hOlo := hid (fun (q : Nat) (hq : (Value.slice S ks.length cs).ownBlock = some q) => (hO.out.lt q hq).1)
      by_cases ha : k < ra.length
      · have i2 : ¬ (ra.length : Int) ≤ (k : Int) := by omega
        have i2' : 0 ≤ (k : Int) ∧ (k : Int) < ra.length := by omega
        by_cases hb : k < rb.length
        · have i3 : ¬ (rb.length : Int) ≤ (k : Int) := by omega
          have i3' : 0 ≤ (k : Int) ∧ (k : Int) < rb.length := by omega
          obtain ⟨ad, C, cm, cd, eB, c0, c1, hv⟩ := (hr.out.ext hy.out).at_ ha
          obtain ⟨ad', C', cm', cd', eB', c0', c1', hv'⟩ := (hr'.out.ext hy.out).at_ hb
          subst eB
          subst eB'
          have hv := hid hv
          have hv' := hid hv'
          have he := hid (Rc.ext' (a := rth ra k) (b := rth rb k))
          generalize hra : rth ra k = xa at *
          generalize hrb : rth rb k = xb at *
          replace hra := hid hra
          replace hrb := hid hrb
          have c0 := hid c0
          have c1 := hid c1
          have c0' := hid c0'
          have c1' := hid c1'
          by_cases hg : xa.gone = xb.gone
          · rw [← hg] at c0'
            have q4 := hid (fun w' (hx' : Ext wr w') (R : Bool) (hR : Hid (R = true ↔ xa.v = xb.v)) => eq127_any C C' cm cd cm' cd' xa.v xb.v w' (hv.out.ext hx') (hv'.out.ext hx') R hR)
            replace hg := hid hg
            by_cases hvv : xa.v = xb.v
            · have q5 := hid (fun w' (hx' : Ext wr w') => q4.out w' hx' true (hid ⟨fun _ => hvv, fun _ => rfl⟩))
              have hee := hid (he.out hg.out hvv)
              clear he q4 hvv
              go_upto_region 13 with fail
              have xa := (Ext.refl wr).drew_right
              refine region_J (fun w' => Ext wr w') 43 (by kernel_rfl) ?_
              generalize wr.drew = da at xa ⊢
              refine JR 0 (v := ?va1) rfl (by kernel_rfl) rfl ?ya1 xa ?ra1
              case ya1 => (intro w hw; (go_simp; with_reducible rfl))
              simp only [Act.put, lyA, lyB, lyC, lyD, lyE, lyF]
              refine JR 1 (v := ?va2) rfl (by kernel_rfl) rfl ?ya2 xa ?ra2
              case ya2 => (intro w hw; (go_simp; with_reducible rfl))
              simp only [Act.put, lyA, lyB, lyC, lyD, lyE, lyF]
              refine JR 2 (v := ?va3) rfl (by kernel_rfl) rfl ?ya3 xa ?ra3
              case ya3 => (intro w hw; obtain ⟨a0, a1, a2⟩ := (kA.out.ext (hy.out.trans hw)).c3; obtain ⟨b0, b1, b2⟩ := (kB.out.ext (hy.out.trans hw)).c3; have y0 := hw.cell c0.out; have y1 := hw.cell c1.out; have z0 := hw.cell c0'.out; have z1 := hw.cell c1'.out; (go_simp; with_reducible rfl))
              simp only [Act.put, lyA, lyB, lyC, lyD, lyE, lyF]
              refine JR 3 (v := ?va4) rfl (by kernel_rfl) rfl ?ya4 xa ?ra4
              case ya4 => (intro w hw; (go_simp; with_reducible rfl))
              simp only [Act.put, lyA, lyB, lyC, lyD, lyE, lyF]
              refine JR 4 (v := ?va5) rfl (by kernel_rfl) rfl ?ya5 xa ?ra5
              case ya5 => (intro w hw; (go_simp; with_reducible rfl))
              simp only [Act.put, lyA, lyB, lyC, lyD, lyE, lyF]
              refine JR 5 (v := ?va6) rfl (by kernel_rfl) rfl ?ya6 xa ?ra6
              case ya6 => (intro w hw; (go_simp; with_reducible rfl))
              simp only [Act.put, lyA, lyB, lyC, lyD, lyE, lyF]
              refine JR 6 (v := ?va7) rfl (by kernel_rfl) rfl ?ya7 xa ?ra7
              case ya7 => (intro w hw; (go_simp; with_reducible rfl))
              simp only [Act.put, lyA, lyB, lyC, lyD, lyE, lyF]
              refine JR 7 (v := ?va8) rfl (by kernel_rfl) rfl ?ya8 xa ?ra8
              case ya8 => (intro w hw; (go_simp; with_reducible rfl))
              simp only [Act.put, lyA, lyB, lyC, lyD, lyE, lyF]
              refine JR 8 (v := ?va9) rfl (by kernel_rfl) rfl ?ya9 xa ?ra9
              case ya9 => (intro w hw; obtain ⟨a0, a1, a2⟩ := (kA.out.ext (hy.out.trans hw)).c3; obtain ⟨b0, b1, b2⟩ := (kB.out.ext (hy.out.trans hw)).c3; have y0 := hw.cell c0.out; have y1 := hw.cell c1.out; have z0 := hw.cell c0'.out; have z1 := hw.cell c1'.out; (go_simp; with_reducible rfl))
              simp only [Act.put, lyA, lyB, lyC, lyD, lyE, lyF]
              refine JR 9 (v := ?va10) rfl (by kernel_rfl) rfl ?ya10 xa ?ra10
              case ya10 => (intro w hw; (go_simp; with_reducible rfl))
              simp only [Act.put, lyA, lyB, lyC, lyD, lyE, lyF]
              refine JR 10 (v := ?va11) rfl (by kernel_rfl) rfl ?ya11 xa ?ra11
              case ya11 => (intro w hw; (go_simp; with_reducible rfl))
              simp only [Act.put, lyA, lyB, lyC, lyD, lyE, lyF]
              refine JR 11 (v := ?va12) rfl (by kernel_rfl) rfl ?ya12 xa ?ra12
              case ya12 => (intro w hw; (go_simp; with_reducible rfl))
              simp only [Act.put, lyA, lyB, lyC, lyD, lyE, lyF]
              refine JR 12 (v := ?va13) rfl (by kernel_rfl) rfl ?ya13 xa ?ra13
              case ya13 => (intro w hw; (go_simp; with_reducible rfl))
              simp only [Act.put, lyA, lyB, lyC, lyD, lyE, lyF]
              refine JR 13 (v := ?va14) rfl (by kernel_rfl) rfl ?ya14 xa ?ra14
              case ya14 => (intro w hw; (go_simp; with_reducible rfl))
              simp only [Act.put, lyA, lyB, lyC, lyD, lyE, lyF]
              refine JR 14 (v := ?va15) rfl (by kernel_rfl) rfl ?ya15 xa ?ra15
              case ya15 => (intro w hw; obtain ⟨a0, a1, a2⟩ := (kA.out.ext (hy.out.trans hw)).c3; obtain ⟨b0, b1, b2⟩ := (kB.out.ext (hy.out.trans hw)).c3; have y0 := hw.cell c0.out; have y1 := hw.cell c1.out; have z0 := hw.cell c0'.out; have z1 := hw.cell c1'.out; (go_simp; with_reducible rfl))
              simp only [Act.put, lyA, lyB, lyC, lyD, lyE, lyF]
              refine JR 15 (v := ?va16) rfl (by kernel_rfl) rfl ?ya16 xa ?ra16
              case ya16 => (intro w hw; (go_simp; with_reducible rfl))
              simp only [Act.put, lyA, lyB, lyC, lyD, lyE, lyF]
              refine JR 16 (v := ?va17) rfl (by kernel_rfl) rfl ?ya17 xa ?ra17
              case ya17 => (intro w hw; (go_simp; with_reducible rfl))
              simp only [Act.put, lyA, lyB, lyC, lyD, lyE, lyF]
              refine JR 17 (v := ?va18) rfl (by kernel_rfl) rfl ?ya18 xa ?ra18
              case ya18 => (intro w hw; (go_simp; with_reducible rfl))
              simp only [Act.put, lyA, lyB, lyC, lyD, lyE, lyF]
              refine JR 18 (v := ?va19) rfl (by kernel_rfl) rfl ?ya19 xa ?ra19
              case ya19 => (intro w hw; obtain ⟨a0, a1, a2⟩ := (kA.out.ext (hy.out.trans hw)).c3; obtain ⟨b0, b1, b2⟩ := (kB.out.ext (hy.out.trans hw)).c3; have y0 := hw.cell c0.out; have y1 := hw.cell c1.out; have z0 := hw.cell c0'.out; have z1 := hw.cell c1'.out; (go_simp; with_reducible rfl))
              simp only [Act.put, lyA, lyB, lyC, lyD, lyE, lyF]
              refine JR 19 (v := ?va20) rfl (by kernel_rfl) rfl ?ya20 xa ?ra20
              case ya20 => (intro w hw; (go_simp; with_reducible rfl))
              simp only [Act.put, lyA, lyB, lyC, lyD, lyE, lyF]
              refine JR 20 (v := ?va21) rfl (by kernel_rfl) rfl ?ya21 xa ?ra21
              case ya21 => (intro w hw; obtain ⟨a0, a1, a2⟩ := (kA.out.ext (hy.out.trans hw)).c3; obtain ⟨b0, b1, b2⟩ := (kB.out.ext (hy.out.trans hw)).c3; have y0 := hw.cell c0.out; have y1 := hw.cell c1.out; have z0 := hw.cell c0'.out; have z1 := hw.cell c1'.out; (go_simp; with_reducible rfl))
              simp only [Act.put, lyA, lyB, lyC, lyD, lyE, lyF]
              refine JR 21 (v := ?va22) rfl (by kernel_rfl) rfl ?ya22 xa ?ra22
              case ya22 => (intro w hw; (go_simp; with_reducible rfl))
              simp only [Act.put, lyA, lyB, lyC, lyD, lyE, lyF]
              refine JR 22 (v := ?va23) rfl (by kernel_rfl) rfl ?ya23 xa ?ra23
              case ya23 => (intro w hw; (go_simp; with_reducible rfl))
              simp only [Act.put, lyA, lyB, lyC, lyD, lyE, lyF]
              refine JR 23 (v := ?va24) rfl (by kernel_rfl) rfl ?ya24 xa ?ra24
              case ya24 => (intro w hw; (go_simp; with_reducible rfl))
              simp only [Act.put, lyA, lyB, lyC, lyD, lyE, lyF]
              refine JR 24 (v := ?va25) rfl (by kernel_rfl) rfl ?ya25 xa ?ra25
              case ya25 => (intro w hw; obtain ⟨a0, a1, a2⟩ := (kA.out.ext (hy.out.trans hw)).c3; obtain ⟨b0, b1, b2⟩ := (kB.out.ext (hy.out.trans hw)).c3; have y0 := hw.cell c0.out; have y1 := hw.cell c1.out; have z0 := hw.cell c0'.out; have z1 := hw.cell c1'.out; (go_simp; with_reducible rfl))
              simp only [Act.put, lyA, lyB, lyC, lyD, lyE, lyF]
              refine JR 25 (v := ?va26) rfl (by kernel_rfl) rfl ?ya26 xa ?ra26
              case ya26 => (intro w hw; (go_simp; with_reducible rfl))
              simp only [Act.put, lyA, lyB, lyC, lyD, lyE, lyF]
              refine JR 26 (v := ?va27) rfl (by kernel_rfl) rfl ?ya27 xa ?ra27
              case ya27 => (intro w hw; (go_simp; with_reducible rfl))
              simp only [Act.put, lyA, lyB, lyC, lyD, lyE, lyF]
              refine JR 27 (v := ?va28) rfl (by kernel_rfl) rfl ?ya28 xa ?ra28
              case ya28 => (intro w hw; (go_simp; with_reducible rfl))
              simp only [Act.put, lyA, lyB, lyC, lyD, lyE, lyF]
              refine JR 28 (v := ?va29) rfl (by kernel_rfl) rfl ?ya29 xa ?ra29
              case ya29 => (intro w hw; (go_simp; with_reducible rfl))
              simp only [Act.put, lyA, lyB, lyC, lyD, lyE, lyF]
              refine JR 29 (v := ?va30) rfl (by kernel_rfl) rfl ?ya30 xa ?ra30
              case ya30 => (intro w hw; obtain ⟨a0, a1, a2⟩ := (kA.out.ext (hy.out.trans hw)).c3; obtain ⟨b0, b1, b2⟩ := (kB.out.ext (hy.out.trans hw)).c3; have y0 := hw.cell c0.out; have y1 := hw.cell c1.out; have z0 := hw.cell c0'.out; have z1 := hw.cell c1'.out; (go_simp; with_reducible rfl))
              simp only [Act.put, lyA, lyB, lyC, lyD, lyE, lyF]
              refine JR 30 (v := ?va31) rfl (by kernel_rfl) rfl ?ya31 xa ?ra31
              case ya31 => (intro w hw; (go_simp; with_reducible rfl))
              simp only [Act.put, lyA, lyB, lyC, lyD, lyE, lyF]
              refine JR 31 (v := ?va32) rfl (by kernel_rfl) rfl ?ya32 xa ?ra32
              case ya32 => (intro w hw; (go_simp; with_reducible rfl))
              simp only [Act.put, lyA, lyB, lyC, lyD, lyE, lyF]
              refine JR 32 (v := ?va33) rfl (by kernel_rfl) rfl ?ya33 xa ?ra33
              case ya33 => (intro w hw; (go_simp; with_reducible rfl))
              simp only [Act.put, lyA, lyB, lyC, lyD, lyE, lyF]
              refine JR 33 (v := ?va34) rfl (by kernel_rfl) rfl ?ya34 xa ?ra34
              case ya34 => (intro w hw; obtain ⟨a0, a1, a2⟩ := (kA.out.ext (hy.out.trans hw)).c3; obtain ⟨b0, b1, b2⟩ := (kB.out.ext (hy.out.trans hw)).c3; have y0 := hw.cell c0.out; have y1 := hw.cell c1.out; have z0 := hw.cell c0'.out; have z1 := hw.cell c1'.out; (go_simp; with_reducible rfl))
              simp only [Act.put, lyA, lyB, lyC, lyD, lyE, lyF]
              refine JR 34 (v := ?va35) rfl (by kernel_rfl) rfl ?ya35 xa ?ra35
              case ya35 => (intro w hw; (go_simp; with_reducible rfl))
              simp only [Act.put, lyA, lyB, lyC, lyD, lyE, lyF]
              refine JR 35 (v := ?va36) rfl (by kernel_rfl) rfl ?ya36 xa ?ra36
              case ya36 => (intro w hw; obtain ⟨a0, a1, a2⟩ := (kA.out.ext (hy.out.trans hw)).c3; obtain ⟨b0, b1, b2⟩ := (kB.out.ext (hy.out.trans hw)).c3; have y0 := hw.cell c0.out; have y1 := hw.cell c1.out; have z0 := hw.cell c0'.out; have z1 := hw.cell c1'.out; (go_simp; with_reducible rfl))
              simp only [Act.put, lyA, lyB, lyC, lyD, lyE, lyF]
              refine JR 36 (v := ?va37) rfl (by kernel_rfl) rfl ?ya37 xa ?ra37
              case ya37 => (intro w hw; (go_simp; with_reducible rfl))
              simp only [Act.put, lyA, lyB, lyC, lyD, lyE, lyF]
              refine JR 37 (v := ?va38) rfl (by kernel_rfl) rfl ?ya38 xa ?ra38
              case ya38 => (intro w hw; (go_simp; with_reducible rfl))
              simp only [Act.put, lyA, lyB, lyC, lyD, lyE, lyF]
              refine JR 38 (v := ?va39) rfl (by kernel_rfl) rfl ?ya39 xa ?ra39
              case ya39 => (intro w hw; (go_simp; with_reducible rfl))
              simp only [Act.put, lyA, lyB, lyC, lyD, lyE, lyF]
              refine JR 39 (v := ?va40) rfl (by kernel_rfl) rfl ?ya40 xa ?ra40
              case ya40 => (intro w hw; obtain ⟨a0, a1, a2⟩ := (kA.out.ext (hy.out.trans hw)).c3; obtain ⟨b0, b1, b2⟩ := (kB.out.ext (hy.out.trans hw)).c3; have y0 := hw.cell c0.out; have y1 := hw.cell c1.out; have z0 := hw.cell c0'.out; have z1 := hw.cell c1'.out; (go_simp; with_reducible rfl))
              simp only [Act.put, lyA, lyB, lyC, lyD, lyE, lyF]
              refine J_one 40 rfl (by kernel_rfl) (fun K hK => ?_)
              go_simp
              refine (q5.out _ xa).mono ?_
              rintro e9 wa41 ⟨rfl, hxa41⟩
              refine hK _ _ ⟨fun _ => ((xa).trans hxa41), ?_⟩
              clear hK K
              try simp only [Act.put, lyA, lyB, lyC, lyD, lyE, lyF]
              have xa41 := ((xa).trans hxa41)
              refine JR 41 (v := ?va42) rfl (by kernel_rfl) rfl ?ya42 xa41 ?ra42
              case ya42 => (intro w hw; (go_simp; with_reducible rfl))
              simp only [Act.put, lyA, lyB, lyC, lyD, lyE, lyF]
              refine JR 42 (v := ?va43) rfl (by kernel_rfl) rfl ?ya43 xa41 ?ra43
              case ya43 => (intro w hw; (go_simp; with_reducible rfl))
              simp only [Act.put, lyA, lyB, lyC, lyD, lyE, lyF]
              refine J_done (by kernel_rfl) (OnlyOn.normal ?_)
              have x7 := hid (xa41)
              generalize wa41 = w7 at *
              have hO7 := hid (hO9.out w7 x7.out)
              have hy7 := hid (hy.out.trans x7.out)
              have hall2 := hid (differ_step hall.out ha hb (by rw [hra.out, hrb.out]; exact hee.out))
              clear hO9 hO hall
              go_wp2
              go_roundw
              case rel => exact ⟨k + 1, S, ks, cs, by omega, by go_num, rfl, hO7, hy7, hid (by have := hn.out; omega), hall2⟩
              case measure => simp [intOf]; omega
            · have q5 := hid (fun w' (hx' : Ext wr w') => q4.out w' hx' false (hid ⟨fun e => (by cases e), fun e => absurd e hvv⟩))
              clear he q4 hvv
              go_upto_region 13 with fail
              have xb := (Ext.refl wr).drew_right
              refine region_J (fun w' => Ext wr w') 43 (by kernel_rfl) ?_
              generalize wr.drew = db at xb ⊢
              refine JR 0 (v := ?vb1) rfl (by kernel_rfl) rfl ?yb1 xb ?rb1
              case yb1 => (intro w hw; (go_simp; with_reducible rfl))
              simp only [Act.put, lyA, lyB, lyC, lyD, lyE, lyF]
              refine JR 1 (v := ?vb2) rfl (by kernel_rfl) rfl ?yb2 xb ?rb2
              case yb2 => (intro w hw; (go_simp; with_reducible rfl))
              simp only [Act.put, lyA, lyB, lyC, lyD, lyE, lyF]
              refine JR 2 (v := ?vb3) rfl (by kernel_rfl) rfl ?yb3 xb ?rb3
              case yb3 => (intro w hw; obtain ⟨a0, a1, a2⟩ := (kA.out.ext (hy.out.trans hw)).c3; obtain ⟨b0, b1, b2⟩ := (kB.out.ext (hy.out.trans hw)).c3; have y0 := hw.cell c0.out; have y1 := hw.cell c1.out; have z0 := hw.cell c0'.out; have z1 := hw.cell c1'.out; (go_simp; with_reducible rfl))
              simp only [Act.put, lyA, lyB, lyC, lyD, lyE, lyF]
              refine JR 3 (v := ?vb4) rfl (by kernel_rfl) rfl ?yb4 xb ?rb4
              case yb4 => (intro w hw; (go_simp; with_reducible rfl))
              simp only [Act.put, lyA, lyB, lyC, lyD, lyE, lyF]
              refine JR 4 (v := ?vb5) rfl (by kernel_rfl) rfl ?yb5 xb ?rb5
              case yb5 => (intro w hw; (go_simp; with_reducible rfl))
              simp only [Act.put, lyA, lyB, lyC, lyD, lyE, lyF]
              refine JR 5 (v := ?vb6) rfl (by kernel_rfl) rfl ?yb6 xb ?rb6
              case yb6 => (intro w hw; (go_simp; with_reducible rfl))
              simp only [Act.put, lyA, lyB, lyC, lyD, lyE, lyF]
              refine JR 6 (v := ?vb7) rfl (by kernel_rfl) rfl ?yb7 xb ?rb7
              case yb7 => (intro w hw; (go_simp; with_reducible rfl))
              simp only [Act.put, lyA, lyB, lyC, lyD, lyE, lyF]
              refine JR 7 (v := ?vb8) rfl (by kernel_rfl) rfl ?yb8 xb ?rb8
              case yb8 => (intro w hw; (go_simp; with_reducible rfl))
              simp only [Act.put, lyA, lyB, lyC, lyD, lyE, lyF]
              refine JR 8 (v := ?vb9) rfl (by kernel_rfl) rfl ?yb9 xb ?rb9
              case yb9 => (intro w hw; obtain ⟨a0, a1, a2⟩ := (kA.out.ext (hy.out.trans hw)).c3; obtain ⟨b0, b1, b2⟩ := (kB.out.ext (hy.out.trans hw)).c3; have y0 := hw.cell c0.out; have y1 := hw.cell c1.out; have z0 := hw.cell c0'.out; have z1 := hw.cell c1'.out; (go_simp; with_reducible rfl))
              simp only [Act.put, lyA, lyB, lyC, lyD, lyE, lyF]
              refine JR 9 (v := ?vb10) rfl (by kernel_rfl) rfl ?yb10 xb ?rb10
              case yb10 => (intro w hw; (go_simp; with_reducible rfl))
              simp only [Act.put, lyA, lyB, lyC, lyD, lyE, lyF]
              refine JR 10 (v := ?vb11) rfl (by kernel_rfl) rfl ?yb11 xb ?rb11
              case yb11 => (intro w hw; (go_simp; with_reducible rfl))
              simp only [Act.put, lyA, lyB, lyC, lyD, lyE, lyF]
              refine JR 11 (v := ?vb12) rfl (by kernel_rfl) rfl ?yb12 xb ?rb12
              case yb12 => (intro w hw; (go_simp; with_reducible rfl))
              simp only [Act.put, lyA, lyB, lyC, lyD, lyE, lyF]
              refine JR 12 (v := ?vb13) rfl (by kernel_rfl) rfl ?yb13 xb ?rb13
              case yb13 => (intro w hw; (go_simp; with_reducible rfl))
              simp only [Act.put, lyA, lyB, lyC, lyD, lyE, lyF]
              refine JR 13 (v := ?vb14) rfl (by kernel_rfl) rfl ?yb14 xb ?rb14
              case yb14 => (intro w hw; (go_simp; with_reducible rfl))
              simp only [Act.put, lyA, lyB, lyC, lyD, lyE, lyF]
              refine JR 14 (v := ?vb15) rfl (by kernel_rfl) rfl ?yb15 xb ?rb15
              case yb15 => (intro w hw; obtain ⟨a0, a1, a2⟩ := (kA.out.ext (hy.out.trans hw)).c3; obtain ⟨b0, b1, b2⟩ := (kB.out.ext (hy.out.trans hw)).c3; have y0 := hw.cell c0.out; have y1 := hw.cell c1.out; have z0 := hw.cell c0'.out; have z1 := hw.cell c1'.out; (go_simp; with_reducible rfl))
              simp only [Act.put, lyA, lyB, lyC, lyD, lyE, lyF]
              refine JR 15 (v := ?vb16) rfl (by kernel_rfl) rfl ?yb16 xb ?rb16
              case yb16 => (intro w hw; (go_simp; with_reducible rfl))
              simp only [Act.put, lyA, lyB, lyC, lyD, lyE, lyF]
              refine JR 16 (v := ?vb17) rfl (by kernel_rfl) rfl ?yb17 xb ?rb17
              case yb17 => (intro w hw; (go_simp; with_reducible rfl))
              simp only [Act.put, lyA, lyB, lyC, lyD, lyE, lyF]
              refine JR 17 (v := ?vb18) rfl (by kernel_rfl) rfl ?yb18 xb ?rb18
              case yb18 => (intro w hw; (go_simp; with_reducible rfl))
              simp only [Act.put, lyA, lyB, lyC, lyD, lyE, lyF]
              refine JR 18 (v := ?vb19) rfl (by kernel_rfl) rfl ?yb19 xb ?rb19
              case yb19 => (intro w hw; obtain ⟨a0, a1, a2⟩ := (kA.out.ext (hy.out.trans hw)).c3; obtain ⟨b0, b1, b2⟩ := (kB.out.ext (hy.out.trans hw)).c3; have y0 := hw.cell c0.out; have y1 := hw.cell c1.out; have z0 := hw.cell c0'.out; have z1 := hw.cell c1'.out; (go_simp; with_reducible rfl))
              simp only [Act.put, lyA, lyB, lyC, lyD, lyE, lyF]
              refine JR 19 (v := ?vb20) rfl (by kernel_rfl) rfl ?yb20 xb ?rb20
              case yb20 => (intro w hw; (go_simp; with_reducible rfl))
              simp only [Act.put, lyA, lyB, lyC, lyD, lyE, lyF]
              refine JR 20 (v := ?vb21) rfl (by kernel_rfl) rfl ?yb21 xb ?rb21
              case yb21 => (intro w hw; obtain ⟨a0, a1, a2⟩ := (kA.out.ext (hy.out.trans hw)).c3; obtain ⟨b0, b1, b2⟩ := (kB.out.ext (hy.out.trans hw)).c3; have y0 := hw.cell c0.out; have y1 := hw.cell c1.out; have z0 := hw.cell c0'.out; have z1 := hw.cell c1'.out; (go_simp; with_reducible rfl))
              simp only [Act.put, lyA, lyB, lyC, lyD, lyE, lyF]
              refine JR 21 (v := ?vb22) rfl (by kernel_rfl) rfl ?yb22 xb ?rb22
              case yb22 => (intro w hw; (go_simp; with_reducible rfl))
              simp only [Act.put, lyA, lyB, lyC, lyD, lyE, lyF]
              refine JR 22 (v := ?vb23) rfl (by kernel_rfl) rfl ?yb23 xb ?rb23
              case yb23 => (intro w hw; (go_simp; with_reducible rfl))
              simp only [Act.put, lyA, lyB, lyC, lyD, lyE, lyF]
              refine JR 23 (v := ?vb24) rfl (by kernel_rfl) rfl ?yb24 xb ?rb24
              case yb24 => (intro w hw; (go_simp; with_reducible rfl))
              simp only [Act.put, lyA, lyB, lyC, lyD, lyE, lyF]
              refine JR 24 (v := ?vb25) rfl (by kernel_rfl) rfl ?yb25 xb ?rb25
              case yb25 => (intro w hw; obtain ⟨a0, a1, a2⟩ := (kA.out.ext (hy.out.trans hw)).c3; obtain ⟨b0, b1, b2⟩ := (kB.out.ext (hy.out.trans hw)).c3; have y0 := hw.cell c0.out; have y1 := hw.cell c1.out; have z0 := hw.cell c0'.out; have z1 := hw.cell c1'.out; (go_simp; with_reducible rfl))
              simp only [Act.put, lyA, lyB, lyC, lyD, lyE, lyF]
              refine JR 25 (v := ?vb26) rfl (by kernel_rfl) rfl ?yb26 xb ?rb26
              case yb26 => (intro w hw; (go_simp; with_reducible rfl))
              simp only [Act.put, lyA, lyB, lyC, lyD, lyE, lyF]
              refine JR 26 (v := ?vb27) rfl (by kernel_rfl) rfl ?yb27 xb ?rb27
              case yb27 => (intro w hw; (go_simp; with_reducible rfl))
              simp only [Act.put, lyA, lyB, lyC, lyD, lyE, lyF]
              refine JR 27 (v := ?vb28) rfl (by kernel_rfl) rfl ?yb28 xb ?rb28
              case yb28 => (intro w hw; (go_simp; with_reducible rfl))
              simp only [Act.put, lyA, lyB, lyC, lyD, lyE, lyF]
              refine JR 28 (v := ?vb29) rfl (by kernel_rfl) rfl ?yb29 xb ?rb29
              case yb29 => (intro w hw; (go_simp; with_reducible rfl))
              simp only [Act.put, lyA, lyB, lyC, lyD, lyE, lyF]
              refine JR 29 (v := ?vb30) rfl (by kernel_rfl) rfl ?yb30 xb ?rb30
              case yb30 => (intro w hw; obtain ⟨a0, a1, a2⟩ := (kA.out.ext (hy.out.trans hw)).c3; obtain ⟨b0, b1, b2⟩ := (kB.out.ext (hy.out.trans hw)).c3; have y0 := hw.cell c0.out; have y1 := hw.cell c1.out; have z0 := hw.cell c0'.out; have z1 := hw.cell c1'.out; (go_simp; with_reducible rfl))
              simp only [Act.put, lyA, lyB, lyC, lyD, lyE, lyF]
              refine JR 30 (v := ?vb31) rfl (by kernel_rfl) rfl ?yb31 xb ?rb31
              case yb31 => (intro w hw; (go_simp; with_reducible rfl))
              simp only [Act.put, lyA, lyB, lyC, lyD, lyE, lyF]
              refine JR 31 (v := ?vb32) rfl (by kernel_rfl) rfl ?yb32 xb ?rb32
              case yb32 => (intro w hw; (go_simp; with_reducible rfl))
              simp only [Act.put, lyA, lyB, lyC, lyD, lyE, lyF]
              refine JR 32 (v := ?vb33) rfl (by kernel_rfl) rfl ?yb33 xb ?rb33
              case yb33 => (intro w hw; (go_simp; with_reducible rfl))
              simp only [Act.put, lyA, lyB, lyC, lyD, lyE, lyF]
              refine JR 33 (v := ?vb34) rfl (by kernel_rfl) rfl ?yb34 xb ?rb34
              case yb34 => (intro w hw; obtain ⟨a0, a1, a2⟩ := (kA.out.ext (hy.out.trans hw)).c3; obtain ⟨b0, b1, b2⟩ := (kB.out.ext (hy.out.trans hw)).c3; have y0 := hw.cell c0.out; have y1 := hw.cell c1.out; have z0 := hw.cell c0'.out; have z1 := hw.cell c1'.out; (go_simp; with_reducible rfl))
              simp only [Act.put, lyA, lyB, lyC, lyD, lyE, lyF]
              refine JR 34 (v := ?vb35) rfl (by kernel_rfl) rfl ?yb35 xb ?rb35
              case yb35 => (intro w hw; (go_simp; with_reducible rfl))
              simp only [Act.put, lyA, lyB, lyC, lyD, lyE, lyF]
              refine JR 35 (v := ?vb36) rfl (by kernel_rfl) rfl ?yb36 xb ?rb36
              case yb36 => (intro w hw; obtain ⟨a0, a1, a2⟩ := (kA.out.ext (hy.out.trans hw)).c3; obtain ⟨b0, b1, b2⟩ := (kB.out.ext (hy.out.trans hw)).c3; have y0 := hw.cell c0.out; have y1 := hw.cell c1.out; have z0 := hw.cell c0'.out; have z1 := hw.cell c1'.out; (go_simp; with_reducible rfl))
              simp only [Act.put, lyA, lyB, lyC, lyD, lyE, lyF]
              refine JR 36 (v := ?vb37) rfl (by kernel_rfl) rfl ?yb37 xb ?rb37
              case yb37 => (intro w hw; (go_simp; with_reducible rfl))
              simp only [Act.put, lyA, lyB, lyC, lyD, lyE, lyF]
              refine JR 37 (v := ?vb38) rfl (by kernel_rfl) rfl ?yb38 xb ?rb38
              case yb38 => (intro w hw; (go_simp; with_reducible rfl))
              simp only [Act.put, lyA, lyB, lyC, lyD, lyE, lyF]
              refine JR 38 (v := ?vb39) rfl (by kernel_rfl) rfl ?yb39 xb ?rb39
              case yb39 => (intro w hw; (go_simp; with_reducible rfl))
              simp only [Act.put, lyA, lyB, lyC, lyD, lyE, lyF]
              refine JR 39 (v := ?vb40) rfl (by kernel_rfl) rfl ?yb40 xb ?rb40
              case yb40 => (intro w hw; obtain ⟨a0, a1, a2⟩ := (kA.out.ext (hy.out.trans hw)).c3; obtain ⟨b0, b1, b2⟩ := (kB.out.ext (hy.out.trans hw)).c3; have y0 := hw.cell c0.out; have y1 := hw.cell c1.out; have z0 := hw.cell c0'.out; have z1 := hw.cell c1'.out; (go_simp; with_reducible rfl))
              simp only [Act.put, lyA, lyB, lyC, lyD, lyE, lyF]
              refine J_one 40 rfl (by kernel_rfl) (fun K hK => ?_)
              go_simp
              refine (q5.out _ xb).mono ?_
              rintro e9 wb41 ⟨rfl, hxb41⟩
              refine hK _ _ ⟨fun _ => ((xb).trans hxb41), ?_⟩
              clear hK K
              try simp only [Act.put, lyA, lyB, lyC, lyD, lyE, lyF]
              have xb41 := ((xb).trans hxb41)
              refine JR 41 (v := ?vb42) rfl (by kernel_rfl) rfl ?yb42 xb41 ?rb42
              case yb42 => (intro w hw; (go_simp; with_reducible rfl))
              simp only [Act.put, lyA, lyB, lyC, lyD, lyE, lyF]
              refine JR 42 (v := ?vb43) rfl (by kernel_rfl) rfl ?yb43 xb41 ?rb43
              case yb43 => (intro w hw; (go_simp; with_reducible rfl))
              simp only [Act.put, lyA, lyB, lyC, lyD, lyE, lyF]
              refine J_done (by kernel_rfl) (OnlyOn.normal ?_)
              have x7 := hid (xb41)
              generalize wb41 = w7 at *
              have hO7 := hid (hO9.out w7 x7.out)
              have hy7 := hid (hy.out.trans x7.out)
              clear hO9 hO hall
              have sx := one_rd w7 [Value.int .i64 ((k : Int) + 1)] 3 1 rfl
              have x8 := Ext.new w7 (.cells #[.int .i64 ((k : Int) + 1)] 3)
              change Rd (w7.alloc (.cells #[.int .i64 ((k : Int) + 1)] 3)) _ _ _ _ _ at sx
              obtain ⟨A8, c8, w8, happ, own8, hg8, -⟩ := app51 (w7.alloc (.cells #[.int .i64 ((k : Int) + 1)] 3)) w2.heap.size 51 (.slice S ks.length cs) ks.length _ (Ext.own x8 hO7.out) _ 1 1 _ sx (by intro u hu; simp at hu; subst hu; rfl) ((hy7.out.trans x8).size) (by have := hn.out; omega)
              have hO8 := hid own8
              have hy8 := hid (show Ext w2 w8 from by
                have := hO7.out
                exact ⟨hg8.os.trans (hy7.out.trans x8).os, hg8.tape.trans (hy7.out.trans x8).tape, hg8.output.trans (hy7.out.trans x8).output, Nat.le_trans (hy7.out.trans x8).size hg8.size, fun q hq => (hg8.block q (Nat.lt_of_lt_of_le hq (hy7.out.trans x8).size) (fun e => by have := hOlo.out q e.symm; omega)).trans ((hy7.out.trans x8).block hq)⟩)
              replace happ := hid happ
              clear sx x8 own8 hg8 hO7 hy7
              go_wp2_with (at_builtin; refine wpList_app rfl _ _ 51 51 rfl _ _ rfl rfl _ happ.out ?_)
              go_wp2_with fail
              go_roundw
              case rel => exact ⟨k + 1, A8, ks ++ [(k : Int) + 1], c8, by omega, by go_num, by rw [List.length_append]; rfl, by rw [List.length_append, zs_app]; exact hO8, hy8, by have := hn.out; rw [List.length_append]; simp [Hid]; omega, fun e => absurd e (by simp)⟩
              case measure => simp [intOf]; omega
          · have hg2 : xb.gone = !xa.gone := by revert hg; cases xa.gone <;> cases xb.gone <;> simp
            rw [hg2] at c0'
            clear hg2
            clear he hg
            go_upto_region 13 with fail
            have xc := (Ext.refl wr).drew_right
            refine region_J (fun w' => Ext wr w') 43 (by kernel_rfl) ?_
            generalize wr.drew = dc at xc ⊢
            refine JR 0 (v := ?vc1) rfl (by kernel_rfl) rfl ?yc1 xc ?rc1
            case yc1 => (intro w hw; (go_simp; with_reducible rfl))
            simp only [Act.put, lyA, lyB, lyC, lyD, lyE, lyF]
            refine JR 1 (v := ?vc2) rfl (by kernel_rfl) rfl ?yc2 xc ?rc2
            case yc2 => (intro w hw; (go_simp; with_reducible rfl))
            simp only [Act.put, lyA, lyB, lyC, lyD, lyE, lyF]
            refine JR 2 (v := ?vc3) rfl (by kernel_rfl) rfl ?yc3 xc ?rc3
            case yc3 => (intro w hw; obtain ⟨a0, a1, a2⟩ := (kA.out.ext (hy.out.trans hw)).c3; obtain ⟨b0, b1, b2⟩ := (kB.out.ext (hy.out.trans hw)).c3; have y0 := hw.cell c0.out; have y1 := hw.cell c1.out; have z0 := hw.cell c0'.out; have z1 := hw.cell c1'.out; (go_simp; with_reducible rfl))
            simp only [Act.put, lyA, lyB, lyC, lyD, lyE, lyF]
            refine JR 3 (v := ?vc4) rfl (by kernel_rfl) rfl ?yc4 xc ?rc4
            case yc4 => (intro w hw; (go_simp; with_reducible rfl))
            simp only [Act.put, lyA, lyB, lyC, lyD, lyE, lyF]
            refine JR 4 (v := ?vc5) rfl (by kernel_rfl) rfl ?yc5 xc ?rc5
            case yc5 => (intro w hw; (go_simp; with_reducible rfl))
            simp only [Act.put, lyA, lyB, lyC, lyD, lyE, lyF]
            refine JR 5 (v := ?vc6) rfl (by kernel_rfl) rfl ?yc6 xc ?rc6
            case yc6 => (intro w hw; (go_simp; with_reducible rfl))
            simp only [Act.put, lyA, lyB, lyC, lyD, lyE, lyF]
            refine JR 6 (v := ?vc7) rfl (by kernel_rfl) rfl ?yc7 xc ?rc7
            case yc7 => (intro w hw; (go_simp; with_reducible rfl))
            simp only [Act.put, lyA, lyB, lyC, lyD, lyE, lyF]
            refine JR 7 (v := ?vc8) rfl (by kernel_rfl) rfl ?yc8 xc ?rc8
            case yc8 => (intro w hw; (go_simp; with_reducible rfl))
            simp only [Act.put, lyA, lyB, lyC, lyD, lyE, lyF]
            refine JR 8 (v := ?vc9) rfl (by kernel_rfl) rfl ?yc9 xc ?rc9
            case yc9 => (intro w hw; obtain ⟨a0, a1, a2⟩ := (kA.out.ext (hy.out.trans hw)).c3; obtain ⟨b0, b1, b2⟩ := (kB.out.ext (hy.out.trans hw)).c3; have y0 := hw.cell c0.out; have y1 := hw.cell c1.out; have z0 := hw.cell c0'.out; have z1 := hw.cell c1'.out; (go_simp; with_reducible rfl))
            simp only [Act.put, lyA, lyB, lyC, lyD, lyE, lyF]
            refine JR 9 (v := ?vc10) rfl (by kernel_rfl) rfl ?yc10 xc ?rc10
            case yc10 => (intro w hw; (go_simp; with_reducible rfl))
            simp only [Act.put, lyA, lyB, lyC, lyD, lyE, lyF]
            refine JR 10 (v := ?vc11) rfl (by kernel_rfl) rfl ?yc11 xc ?rc11
            case yc11 => (intro w hw; (go_simp; with_reducible rfl))
            simp only [Act.put, lyA, lyB, lyC, lyD, lyE, lyF]
            refine JR 11 (v := ?vc12) rfl (by kernel_rfl) rfl ?yc12 xc ?rc12
            case yc12 => (intro w hw; (go_simp; with_reducible rfl))
            simp only [Act.put, lyA, lyB, lyC, lyD, lyE, lyF]
            refine JR 12 (v := ?vc13) rfl (by kernel_rfl) rfl ?yc13 xc ?rc13
            case yc13 => (intro w hw; (go_simp; with_reducible rfl))
            simp only [Act.put, lyA, lyB, lyC, lyD, lyE, lyF]
            refine JR 13 (v := ?vc14) rfl (by kernel_rfl) rfl ?yc14 xc ?rc14
            case yc14 => (intro w hw; (go_simp; with_reducible rfl))
            simp only [Act.put, lyA, lyB, lyC, lyD, lyE, lyF]
            refine JR 14 (v := ?vc15) rfl (by kernel_rfl) rfl ?yc15 xc ?rc15
            case yc15 => (intro w hw; obtain ⟨a0, a1, a2⟩ := (kA.out.ext (hy.out.trans hw)).c3; obtain ⟨b0, b1, b2⟩ := (kB.out.ext (hy.out.trans hw)).c3; have y0 := hw.cell c0.out; have y1 := hw.cell c1.out; have z0 := hw.cell c0'.out; have z1 := hw.cell c1'.out; (go_simp; with_reducible rfl))
            simp only [Act.put, lyA, lyB, lyC, lyD, lyE, lyF]
            refine JR 15 (v := ?vc16) rfl (by kernel_rfl) rfl ?yc16 xc ?rc16
            case yc16 => (intro w hw; (go_simp; with_reducible rfl))
            simp only [Act.put, lyA, lyB, lyC, lyD, lyE, lyF]
            refine JR 16 (v := ?vc17) rfl (by kernel_rfl) rfl ?yc17 xc ?rc17
            case yc17 => (intro w hw; (go_simp; with_reducible rfl))
            simp only [Act.put, lyA, lyB, lyC, lyD, lyE, lyF]
            refine JR 17 (v := ?vc18) rfl (by kernel_rfl) rfl ?yc18 xc ?rc18
            case yc18 => (intro w hw; (go_simp; with_reducible rfl))
            simp only [Act.put, lyA, lyB, lyC, lyD, lyE, lyF]
            refine JR 18 (v := ?vc19) rfl (by kernel_rfl) rfl ?yc19 xc ?rc19
            case yc19 => (intro w hw; obtain ⟨a0, a1, a2⟩ := (kA.out.ext (hy.out.trans hw)).c3; obtain ⟨b0, b1, b2⟩ := (kB.out.ext (hy.out.trans hw)).c3; have y0 := hw.cell c0.out; have y1 := hw.cell c1.out; have z0 := hw.cell c0'.out; have z1 := hw.cell c1'.out; (go_simp; with_reducible rfl))
            simp only [Act.put, lyA, lyB, lyC, lyD, lyE, lyF]
            refine JR 19 (v := ?vc20) rfl (by kernel_rfl) rfl ?yc20 xc ?rc20
            case yc20 => (intro w hw; (go_simp; with_reducible rfl))
            simp only [Act.put, lyA, lyB, lyC, lyD, lyE, lyF]
            refine JR 20 (v := ?vc21) rfl (by kernel_rfl) rfl ?yc21 xc ?rc21
            case yc21 => (intro w hw; obtain ⟨a0, a1, a2⟩ := (kA.out.ext (hy.out.trans hw)).c3; obtain ⟨b0, b1, b2⟩ := (kB.out.ext (hy.out.trans hw)).c3; have y0 := hw.cell c0.out; have y1 := hw.cell c1.out; have z0 := hw.cell c0'.out; have z1 := hw.cell c1'.out; (go_simp; with_reducible rfl))
            simp only [Act.put, lyA, lyB, lyC, lyD, lyE, lyF]
            refine JR 21 (v := ?vc22) rfl (by kernel_rfl) rfl ?yc22 xc ?rc22
            case yc22 => (intro w hw; (go_simp; with_reducible rfl))
            simp only [Act.put, lyA, lyB, lyC, lyD, lyE, lyF]
            refine JR 22 (v := ?vc23) rfl (by kernel_rfl) rfl ?yc23 xc ?rc23
            case yc23 => (intro w hw; (go_simp; with_reducible rfl))
            simp only [Act.put, lyA, lyB, lyC, lyD, lyE, lyF]
            refine JR 23 (v := ?vc24) rfl (by kernel_rfl) rfl ?yc24 xc ?rc24
            case yc24 => (intro w hw; (go_simp; with_reducible rfl))
            simp only [Act.put, lyA, lyB, lyC, lyD, lyE, lyF]
            refine JR 24 (v := ?vc25) rfl (by kernel_rfl) rfl ?yc25 xc ?rc25
            case yc25 => (intro w hw; obtain ⟨a0, a1, a2⟩ := (kA.out.ext (hy.out.trans hw)).c3; obtain ⟨b0, b1, b2⟩ := (kB.out.ext (hy.out.trans hw)).c3; have y0 := hw.cell c0.out; have y1 := hw.cell c1.out; have z0 := hw.cell c0'.out; have z1 := hw.cell c1'.out; (go_simp; with_reducible rfl))
            simp only [Act.put, lyA, lyB, lyC, lyD, lyE, lyF]
            refine JR 25 (v := ?vc26) rfl (by kernel_rfl) rfl ?yc26 xc ?rc26
            case yc26 => (intro w hw; (go_simp; with_reducible rfl))
            simp only [Act.put, lyA, lyB, lyC, lyD, lyE, lyF]
            refine JR 26 (v := ?vc27) rfl (by kernel_rfl) rfl ?yc27 xc ?rc27
            case yc27 => (intro w hw; (go_simp; with_reducible rfl))
            simp only [Act.put, lyA, lyB, lyC, lyD, lyE, lyF]
            refine JR 27 (v := ?vc28) rfl (by kernel_rfl) rfl ?yc28 xc ?rc28
            case yc28 => (intro w hw; (go_simp; with_reducible rfl))
            simp only [Act.put, lyA, lyB, lyC, lyD, lyE, lyF]
            refine JU 28 rfl (by kernel_rfl) rfl xc ?_
            simp only [Act.put, lyA, lyB, lyC, lyD, lyE, lyF]
            refine JU 29 rfl (by kernel_rfl) rfl xc ?_
            simp only [Act.put, lyA, lyB, lyC, lyD, lyE, lyF]
            refine JU 30 rfl (by kernel_rfl) rfl xc ?_
            simp only [Act.put, lyA, lyB, lyC, lyD, lyE, lyF]
            refine JU 31 rfl (by kernel_rfl) rfl xc ?_
            simp only [Act.put, lyA, lyB, lyC, lyD, lyE, lyF]
            refine JU 32 rfl (by kernel_rfl) rfl xc ?_
            simp only [Act.put, lyA, lyB, lyC, lyD, lyE, lyF]
            refine JU 33 rfl (by kernel_rfl) rfl xc ?_
            simp only [Act.put, lyA, lyB, lyC, lyD, lyE, lyF]
            refine JU 34 rfl (by kernel_rfl) rfl xc ?_
            simp only [Act.put, lyA, lyB, lyC, lyD, lyE, lyF]
            refine JU 35 rfl (by kernel_rfl) rfl xc ?_
            simp only [Act.put, lyA, lyB, lyC, lyD, lyE, lyF]
            refine JU 36 rfl (by kernel_rfl) rfl xc ?_
            simp only [Act.put, lyA, lyB, lyC, lyD, lyE, lyF]
            refine JU 37 rfl (by kernel_rfl) rfl xc ?_
            simp only [Act.put, lyA, lyB, lyC, lyD, lyE, lyF]
            refine JU 38 rfl (by kernel_rfl) rfl xc ?_
            simp only [Act.put, lyA, lyB, lyC, lyD, lyE, lyF]
            refine JU 39 rfl (by kernel_rfl) rfl xc ?_
            simp only [Act.put, lyA, lyB, lyC, lyD, lyE, lyF]
            refine JU 40 rfl (by kernel_rfl) rfl xc ?_
            simp only [Act.put, lyA, lyB, lyC, lyD, lyE, lyF]
            refine JU 41 rfl (by kernel_rfl) rfl xc ?_
            simp only [Act.put, lyA, lyB, lyC, lyD, lyE, lyF]
            refine JR 42 (v := ?vc43) rfl (by kernel_rfl) rfl ?yc43 xc ?rc43
            case yc43 => (intro w hw; (go_simp; with_reducible rfl))
            simp only [Act.put, lyA, lyB, lyC, lyD, lyE, lyF]
            refine J_done (by kernel_rfl) (OnlyOn.normal ?_)
            have x7 := hid (xc)
            generalize dc = w7 at *
            have hO7 := hid (hO9.out w7 x7.out)
            have hy7 := hid (hy.out.trans x7.out)
            clear hO9 hO hall
            have sx := one_rd w7 [Value.int .i64 ((k : Int) + 1)] 3 1 rfl
            have x8 := Ext.new w7 (.cells #[.int .i64 ((k : Int) + 1)] 3)
            change Rd (w7.alloc (.cells #[.int .i64 ((k : Int) + 1)] 3)) _ _ _ _ _ at sx
            obtain ⟨A8, c8, w8, happ, own8, hg8, -⟩ := app51 (w7.alloc (.cells #[.int .i64 ((k : Int) + 1)] 3)) w2.heap.size 51 (.slice S ks.length cs) ks.length _ (Ext.own x8 hO7.out) _ 1 1 _ sx (by intro u hu; simp at hu; subst hu; rfl) ((hy7.out.trans x8).size) (by have := hn.out; omega)
            have hO8 := hid own8
            have hy8 := hid (show Ext w2 w8 from by
              have := hO7.out
              exact ⟨hg8.os.trans (hy7.out.trans x8).os, hg8.tape.trans (hy7.out.trans x8).tape, hg8.output.trans (hy7.out.trans x8).output, Nat.le_trans (hy7.out.trans x8).size hg8.size, fun q hq => (hg8.block q (Nat.lt_of_lt_of_le hq (hy7.out.trans x8).size) (fun e => by have := hOlo.out q e.symm; omega)).trans ((hy7.out.trans x8).block hq)⟩)
            replace happ := hid happ
            clear sx x8 own8 hg8 hO7 hy7
            go_wp2_with (at_builtin; refine wpList_app rfl _ _ 51 51 rfl _ _ rfl rfl _ happ.out ?_)
            go_wp2_with fail
            go_roundw
            case rel => exact ⟨k + 1, A8, ks ++ [(k : Int) + 1], c8, by omega, by go_num, by rw [List.length_append]; rfl, by rw [List.length_append, zs_app]; exact hO8, hy8, by have := hn.out; rw [List.length_append]; simp [Hid]; omega, fun e => absurd e (by simp)⟩
            case measure => simp [intOf]; omega
        · have i3 : (rb.length : Int) ≤ (k : Int) := by omega
          go_upto_region 13 with fail
          have xd := (Ext.refl wr).drew_right
          refine region_J (fun w' => Ext wr w') 43 (by kernel_rfl) ?_
          generalize wr.drew = dd at xd ⊢
          refine JR 0 (v := ?vd1) rfl (by kernel_rfl) rfl ?yd1 xd ?rd1
          case yd1 => (intro w hw; (go_simp; with_reducible rfl))
          simp only [Act.put, lyA, lyB, lyC, lyD, lyE, lyF]
          refine JR 1 (v := ?vd2) rfl (by kernel_rfl) rfl ?yd2 xd ?rd2
          case yd2 => (intro w hw; (go_simp; with_reducible rfl))
          simp only [Act.put, lyA, lyB, lyC, lyD, lyE, lyF]
          refine JR 2 (v := ?vd3) rfl (by kernel_rfl) rfl ?yd3 xd ?rd3
          case yd3 => (intro w hw; obtain ⟨a0, a1, a2⟩ := (kA.out.ext (hy.out.trans hw)).c3; obtain ⟨b0, b1, b2⟩ := (kB.out.ext (hy.out.trans hw)).c3; (go_simp; with_reducible rfl))
          simp only [Act.put, lyA, lyB, lyC, lyD, lyE, lyF]
          refine JR 3 (v := ?vd4) rfl (by kernel_rfl) rfl ?yd4 xd ?rd4
          case yd4 => (intro w hw; (go_simp; with_reducible rfl))
          simp only [Act.put, lyA, lyB, lyC, lyD, lyE, lyF]
          refine JR 4 (v := ?vd5) rfl (by kernel_rfl) rfl ?yd5 xd ?rd5
          case yd5 => (intro w hw; (go_simp; with_reducible rfl))
          simp only [Act.put, lyA, lyB, lyC, lyD, lyE, lyF]
          refine JR 5 (v := ?vd6) rfl (by kernel_rfl) rfl ?yd6 xd ?rd6
          case yd6 => (intro w hw; (go_simp; with_reducible rfl))
          simp only [Act.put, lyA, lyB, lyC, lyD, lyE, lyF]
          refine JR 6 (v := ?vd7) rfl (by kernel_rfl) rfl ?yd7 xd ?rd7
          case yd7 => (intro w hw; (go_simp; with_reducible rfl))
          simp only [Act.put, lyA, lyB, lyC, lyD, lyE, lyF]
          refine JR 7 (v := ?vd8) rfl (by kernel_rfl) rfl ?yd8 xd ?rd8
          case yd8 => (intro w hw; (go_simp; with_reducible rfl))
          simp only [Act.put, lyA, lyB, lyC, lyD, lyE, lyF]
          refine JR 8 (v := ?vd9) rfl (by kernel_rfl) rfl ?yd9 xd ?rd9
          case yd9 => (intro w hw; obtain ⟨a0, a1, a2⟩ := (kA.out.ext (hy.out.trans hw)).c3; obtain ⟨b0, b1, b2⟩ := (kB.out.ext (hy.out.trans hw)).c3; (go_simp; with_reducible rfl))
          simp only [Act.put, lyA, lyB, lyC, lyD, lyE, lyF]
          refine JR 9 (v := ?vd10) rfl (by kernel_rfl) rfl ?yd10 xd ?rd10
          case yd10 => (intro w hw; (go_simp; with_reducible rfl))
          simp only [Act.put, lyA, lyB, lyC, lyD, lyE, lyF]
          refine JR 10 (v := ?vd11) rfl (by kernel_rfl) rfl ?yd11 xd ?rd11
          case yd11 => (intro w hw; (go_simp; with_reducible rfl))
          simp only [Act.put, lyA, lyB, lyC, lyD, lyE, lyF]
          refine JR 11 (v := ?vd12) rfl (by kernel_rfl) rfl ?yd12 xd ?rd12
          case yd12 => (intro w hw; (go_simp; with_reducible rfl))
          simp only [Act.put, lyA, lyB, lyC, lyD, lyE, lyF]
          refine JR 12 (v := ?vd13) rfl (by kernel_rfl) rfl ?yd13 xd ?rd13
          case yd13 => (intro w hw; (go_simp; with_reducible rfl))
          simp only [Act.put, lyA, lyB, lyC, lyD, lyE, lyF]
          refine JU 13 rfl (by kernel_rfl) rfl xd ?_
          simp only [Act.put, lyA, lyB, lyC, lyD, lyE, lyF]
          refine JU 14 rfl (by kernel_rfl) rfl xd ?_
          simp only [Act.put, lyA, lyB, lyC, lyD, lyE, lyF]
          refine JU 15 rfl (by kernel_rfl) rfl xd ?_
          simp only [Act.put, lyA, lyB, lyC, lyD, lyE, lyF]
          refine JU 16 rfl (by kernel_rfl) rfl xd ?_
          simp only [Act.put, lyA, lyB, lyC, lyD, lyE, lyF]
          refine JU 17 rfl (by kernel_rfl) rfl xd ?_
          simp only [Act.put, lyA, lyB, lyC, lyD, lyE, lyF]
          refine JU 18 rfl (by kernel_rfl) rfl xd ?_
          simp only [Act.put, lyA, lyB, lyC, lyD, lyE, lyF]
          refine JU 19 rfl (by kernel_rfl) rfl xd ?_
          simp only [Act.put, lyA, lyB, lyC, lyD, lyE, lyF]
          refine JU 20 rfl (by kernel_rfl) rfl xd ?_
          simp only [Act.put, lyA, lyB, lyC, lyD, lyE, lyF]
          refine JU 21 rfl (by kernel_rfl) rfl xd ?_
          simp only [Act.put, lyA, lyB, lyC, lyD, lyE, lyF]
          refine JU 22 rfl (by kernel_rfl) rfl xd ?_
          simp only [Act.put, lyA, lyB, lyC, lyD, lyE, lyF]
          refine JU 23 rfl (by kernel_rfl) rfl xd ?_
          simp only [Act.put, lyA, lyB, lyC, lyD, lyE, lyF]
          refine JU 24 rfl (by kernel_rfl) rfl xd ?_
          simp only [Act.put, lyA, lyB, lyC, lyD, lyE, lyF]
          refine JU 25 rfl (by kernel_rfl) rfl xd ?_
          simp only [Act.put, lyA, lyB, lyC, lyD, lyE, lyF]
          refine JR 26 (v := ?vd27) rfl (by kernel_rfl) rfl ?yd27 xd ?rd27
          case yd27 => (intro w hw; (go_simp; with_reducible rfl))
          simp only [Act.put, lyA, lyB, lyC, lyD, lyE, lyF]
          refine JR 27 (v := ?vd28) rfl (by kernel_rfl) rfl ?yd28 xd ?rd28
          case yd28 => (intro w hw; (go_simp; with_reducible rfl))
          simp only [Act.put, lyA, lyB, lyC, lyD, lyE, lyF]
          refine JU 28 rfl (by kernel_rfl) rfl xd ?_
          simp only [Act.put, lyA, lyB, lyC, lyD, lyE, lyF]
          refine JU 29 rfl (by kernel_rfl) rfl xd ?_
          simp only [Act.put, lyA, lyB, lyC, lyD, lyE, lyF]
          refine JU 30 rfl (by kernel_rfl) rfl xd ?_
          simp only [Act.put, lyA, lyB, lyC, lyD, lyE, lyF]
          refine JU 31 rfl (by kernel_rfl) rfl xd ?_
          simp only [Act.put, lyA, lyB, lyC, lyD, lyE, lyF]
          refine JU 32 rfl (by kernel_rfl) rfl xd ?_
          simp only [Act.put, lyA, lyB, lyC, lyD, lyE, lyF]
          refine JU 33 rfl (by kernel_rfl) rfl xd ?_
          simp only [Act.put, lyA, lyB, lyC, lyD, lyE, lyF]
          refine JU 34 rfl (by kernel_rfl) rfl xd ?_
          simp only [Act.put, lyA, lyB, lyC, lyD, lyE, lyF]
          refine JU 35 rfl (by kernel_rfl) rfl xd ?_
          simp only [Act.put, lyA, lyB, lyC, lyD, lyE, lyF]
          refine JU 36 rfl (by kernel_rfl) rfl xd ?_
          simp only [Act.put, lyA, lyB, lyC, lyD, lyE, lyF]
          refine JU 37 rfl (by kernel_rfl) rfl xd ?_
          simp only [Act.put, lyA, lyB, lyC, lyD, lyE, lyF]
          refine JU 38 rfl (by kernel_rfl) rfl xd ?_
          simp only [Act.put, lyA, lyB, lyC, lyD, lyE, lyF]
          refine JU 39 rfl (by kernel_rfl) rfl xd ?_
          simp only [Act.put, lyA, lyB, lyC, lyD, lyE, lyF]
          refine JU 40 rfl (by kernel_rfl) rfl xd ?_
          simp only [Act.put, lyA, lyB, lyC, lyD, lyE, lyF]
          refine JU 41 rfl (by kernel_rfl) rfl xd ?_
          simp only [Act.put, lyA, lyB, lyC, lyD, lyE, lyF]
          refine JR 42 (v := ?vd43) rfl (by kernel_rfl) rfl ?yd43 xd ?rd43
          case yd43 => (intro w hw; (go_simp; with_reducible rfl))
          simp only [Act.put, lyA, lyB, lyC, lyD, lyE, lyF]
          refine J_done (by kernel_rfl) (OnlyOn.normal ?_)
          have x7 := hid (xd)
          generalize dd = w7 at *
          have hO7 := hid (hO9.out w7 x7.out)
          have hy7 := hid (hy.out.trans x7.out)
          clear hO9 hO hall
          have sx := one_rd w7 [Value.int .i64 ((k : Int) + 1)] 3 1 rfl
          have x8 := Ext.new w7 (.cells #[.int .i64 ((k : Int) + 1)] 3)
          change Rd (w7.alloc (.cells #[.int .i64 ((k : Int) + 1)] 3)) _ _ _ _ _ at sx
          obtain ⟨A8, c8, w8, happ, own8, hg8, -⟩ := app51 (w7.alloc (.cells #[.int .i64 ((k : Int) + 1)] 3)) w2.heap.size 51 (.slice S ks.length cs) ks.length _ (Ext.own x8 hO7.out) _ 1 1 _ sx (by intro u hu; simp at hu; subst hu; rfl) ((hy7.out.trans x8).size) (by have := hn.out; omega)
          have hO8 := hid own8
          have hy8 := hid (show Ext w2 w8 from by
            have := hO7.out
            exact ⟨hg8.os.trans (hy7.out.trans x8).os, hg8.tape.trans (hy7.out.trans x8).tape, hg8.output.trans (hy7.out.trans x8).output, Nat.le_trans (hy7.out.trans x8).size hg8.size, fun q hq => (hg8.block q (Nat.lt_of_lt_of_le hq (hy7.out.trans x8).size) (fun e => by have := hOlo.out q e.symm; omega)).trans ((hy7.out.trans x8).block hq)⟩)
          replace happ := hid happ
          clear sx x8 own8 hg8 hO7 hy7
          go_wp2_with (at_builtin; refine wpList_app rfl _ _ 51 51 rfl _ _ rfl rfl _ happ.out ?_)
          go_wp2_with fail
          go_roundw
          case rel => exact ⟨k + 1, A8, ks ++ [(k : Int) + 1], c8, by omega, by go_num, by rw [List.length_append]; rfl, by rw [List.length_append, zs_app]; exact hO8, hy8, by have := hn.out; rw [List.length_append]; simp [Hid]; omega, fun e => absurd e (by simp)⟩
          case measure => simp [intOf]; omega
      · have i2 : (ra.length : Int) ≤ (k : Int) := by omega
        go_upto_region 13 with fail
        have xe := (Ext.refl wr).drew_right
        refine region_J (fun w' => Ext wr w') 43 (by kernel_rfl) ?_
        generalize wr.drew = de at xe ⊢
        refine JR 0 (v := ?ve1) rfl (by kernel_rfl) rfl ?ye1 xe ?re1
        case ye1 => (intro w hw; (go_simp; with_reducible rfl))
        simp only [Act.put, lyA, lyB, lyC, lyD, lyE, lyF]
        refine JR 1 (v := ?ve2) rfl (by kernel_rfl) rfl ?ye2 xe ?re2
        case ye2 => (intro w hw; (go_simp; with_reducible rfl))
        simp only [Act.put, lyA, lyB, lyC, lyD, lyE, lyF]
        refine JR 2 (v := ?ve3) rfl (by kernel_rfl) rfl ?ye3 xe ?re3
        case ye3 => (intro w hw; obtain ⟨a0, a1, a2⟩ := (kA.out.ext (hy.out.trans hw)).c3; obtain ⟨b0, b1, b2⟩ := (kB.out.ext (hy.out.trans hw)).c3; (go_simp; with_reducible rfl))
        simp only [Act.put, lyA, lyB, lyC, lyD, lyE, lyF]
        refine JR 3 (v := ?ve4) rfl (by kernel_rfl) rfl ?ye4 xe ?re4
        case ye4 => (intro w hw; (go_simp; with_reducible rfl))
        simp only [Act.put, lyA, lyB, lyC, lyD, lyE, lyF]
        refine JR 4 (v := ?ve5) rfl (by kernel_rfl) rfl ?ye5 xe ?re5
        case ye5 => (intro w hw; (go_simp; with_reducible rfl))
        simp only [Act.put, lyA, lyB, lyC, lyD, lyE, lyF]
        refine JR 5 (v := ?ve6) rfl (by kernel_rfl) rfl ?ye6 xe ?re6
        case ye6 => (intro w hw; (go_simp; with_reducible rfl))
        simp only [Act.put, lyA, lyB, lyC, lyD, lyE, lyF]
        refine JU 6 rfl (by kernel_rfl) rfl xe ?_
        simp only [Act.put, lyA, lyB, lyC, lyD, lyE, lyF]
        refine JU 7 rfl (by kernel_rfl) rfl xe ?_
        simp only [Act.put, lyA, lyB, lyC, lyD, lyE, lyF]
        refine JU 8 rfl (by kernel_rfl) rfl xe ?_
        simp only [Act.put, lyA, lyB, lyC, lyD, lyE, lyF]
        refine JU 9 rfl (by kernel_rfl) rfl xe ?_
        simp only [Act.put, lyA, lyB, lyC, lyD, lyE, lyF]
        refine JU 10 rfl (by kernel_rfl) rfl xe ?_
        simp only [Act.put, lyA, lyB, lyC, lyD, lyE, lyF]
        refine JR 11 (v := ?ve12) rfl (by kernel_rfl) rfl ?ye12 xe ?re12
        case ye12 => (intro w hw; (go_simp; with_reducible rfl))
        simp only [Act.put, lyA, lyB, lyC, lyD, lyE, lyF]
        refine JR 12 (v := ?ve13) rfl (by kernel_rfl) rfl ?ye13 xe ?re13
        case ye13 => (intro w hw; (go_simp; with_reducible rfl))
        simp only [Act.put, lyA, lyB, lyC, lyD, lyE, lyF]
        refine JU 13 rfl (by kernel_rfl) rfl xe ?_
        simp only [Act.put, lyA, lyB, lyC, lyD, lyE, lyF]
        refine JU 14 rfl (by kernel_rfl) rfl xe ?_
        simp only [Act.put, lyA, lyB, lyC, lyD, lyE, lyF]
        refine JU 15 rfl (by kernel_rfl) rfl xe ?_
        simp only [Act.put, lyA, lyB, lyC, lyD, lyE, lyF]
        refine JU 16 rfl (by kernel_rfl) rfl xe ?_
        simp only [Act.put, lyA, lyB, lyC, lyD, lyE, lyF]
        refine JU 17 rfl (by kernel_rfl) rfl xe ?_
        simp only [Act.put, lyA, lyB, lyC, lyD, lyE, lyF]
        refine JU 18 rfl (by kernel_rfl) rfl xe ?_
        simp only [Act.put, lyA, lyB, lyC, lyD, lyE, lyF]
        refine JU 19 rfl (by kernel_rfl) rfl xe ?_
        simp only [Act.put, lyA, lyB, lyC, lyD, lyE, lyF]
        refine JU 20 rfl (by kernel_rfl) rfl xe ?_
        simp only [Act.put, lyA, lyB, lyC, lyD, lyE, lyF]
        refine JU 21 rfl (by kernel_rfl) rfl xe ?_
        simp only [Act.put, lyA, lyB, lyC, lyD, lyE, lyF]
        refine JU 22 rfl (by kernel_rfl) rfl xe ?_
        simp only [Act.put, lyA, lyB, lyC, lyD, lyE, lyF]
        refine JU 23 rfl (by kernel_rfl) rfl xe ?_
        simp only [Act.put, lyA, lyB, lyC, lyD, lyE, lyF]
        refine JU 24 rfl (by kernel_rfl) rfl xe ?_
        simp only [Act.put, lyA, lyB, lyC, lyD, lyE, lyF]
        refine JU 25 rfl (by kernel_rfl) rfl xe ?_
        simp only [Act.put, lyA, lyB, lyC, lyD, lyE, lyF]
        refine JR 26 (v := ?ve27) rfl (by kernel_rfl) rfl ?ye27 xe ?re27
        case ye27 => (intro w hw; (go_simp; with_reducible rfl))
        simp only [Act.put, lyA, lyB, lyC, lyD, lyE, lyF]
        refine JR 27 (v := ?ve28) rfl (by kernel_rfl) rfl ?ye28 xe ?re28
        case ye28 => (intro w hw; (go_simp; with_reducible rfl))
        simp only [Act.put, lyA, lyB, lyC, lyD, lyE, lyF]
        refine JU 28 rfl (by kernel_rfl) rfl xe ?_
        simp only [Act.put, lyA, lyB, lyC, lyD, lyE, lyF]
        refine JU 29 rfl (by kernel_rfl) rfl xe ?_
        simp only [Act.put, lyA, lyB, lyC, lyD, lyE, lyF]
        refine JU 30 rfl (by kernel_rfl) rfl xe ?_
        simp only [Act.put, lyA, lyB, lyC, lyD, lyE, lyF]
        refine JU 31 rfl (by kernel_rfl) rfl xe ?_
        simp only [Act.put, lyA, lyB, lyC, lyD, lyE, lyF]
        refine JU 32 rfl (by kernel_rfl) rfl xe ?_
        simp only [Act.put, lyA, lyB, lyC, lyD, lyE, lyF]
        refine JU 33 rfl (by kernel_rfl) rfl xe ?_
        simp only [Act.put, lyA, lyB, lyC, lyD, lyE, lyF]
        refine JU 34 rfl (by kernel_rfl) rfl xe ?_
        simp only [Act.put, lyA, lyB, lyC, lyD, lyE, lyF]
        refine JU 35 rfl (by kernel_rfl) rfl xe ?_
        simp only [Act.put, lyA, lyB, lyC, lyD, lyE, lyF]
        refine JU 36 rfl (by kernel_rfl) rfl xe ?_
        simp only [Act.put, lyA, lyB, lyC, lyD, lyE, lyF]
        refine JU 37 rfl (by kernel_rfl) rfl xe ?_
        simp only [Act.put, lyA, lyB, lyC, lyD, lyE, lyF]
        refine JU 38 rfl (by kernel_rfl) rfl xe ?_
        simp only [Act.put, lyA, lyB, lyC, lyD, lyE, lyF]
        refine JU 39 rfl (by kernel_rfl) rfl xe ?_
        simp only [Act.put, lyA, lyB, lyC, lyD, lyE, lyF]
        refine JU 40 rfl (by kernel_rfl) rfl xe ?_
        simp only [Act.put, lyA, lyB, lyC, lyD, lyE, lyF]
        refine JU 41 rfl (by kernel_rfl) rfl xe ?_
        simp only [Act.put, lyA, lyB, lyC, lyD, lyE, lyF]
        refine JR 42 (v := ?ve43) rfl (by kernel_rfl) rfl ?ye43 xe ?re43
        case ye43 => (intro w hw; (go_simp; with_reducible rfl))
        simp only [Act.put, lyA, lyB, lyC, lyD, lyE, lyF]
        refine J_done (by kernel_rfl) (OnlyOn.normal ?_)
        have x7 := hid (xe)
        generalize de = w7 at *
        have hO7 := hid (hO9.out w7 x7.out)
        have hy7 := hid (hy.out.trans x7.out)
        clear hO9 hO hall
        have sx := one_rd w7 [Value.int .i64 ((k : Int) + 1)] 3 1 rfl
        have x8 := Ext.new w7 (.cells #[.int .i64 ((k : Int) + 1)] 3)
        change Rd (w7.alloc (.cells #[.int .i64 ((k : Int) + 1)] 3)) _ _ _ _ _ at sx
        obtain ⟨A8, c8, w8, happ, own8, hg8, -⟩ := app51 (w7.alloc (.cells #[.int .i64 ((k : Int) + 1)] 3)) w2.heap.size 51 (.slice S ks.length cs) ks.length _ (Ext.own x8 hO7.out) _ 1 1 _ sx (by intro u hu; simp at hu; subst hu; rfl) ((hy7.out.trans x8).size) (by have := hn.out; omega)
        have hO8 := hid own8
        have hy8 := hid (show Ext w2 w8 from by
          have := hO7.out
          exact ⟨hg8.os.trans (hy7.out.trans x8).os, hg8.tape.trans (hy7.out.trans x8).tape, hg8.output.trans (hy7.out.trans x8).output, Nat.le_trans (hy7.out.trans x8).size hg8.size, fun q hq => (hg8.block q (Nat.lt_of_lt_of_le hq (hy7.out.trans x8).size) (fun e => by have := hOlo.out q e.symm; omega)).trans ((hy7.out.trans x8).block hq)⟩)
        replace happ := hid happ
        clear sx x8 own8 hg8 hO7 hy7
        go_wp2_with (at_builtin; refine wpList_app rfl _ _ 51 51 rfl _ _ rfl rfl _ happ.out ?_)
        go_wp2_with fail
        go_roundw
        case rel => exact ⟨k + 1, A8, ks ++ [(k : Int) + 1], c8, by omega, by go_num, by rw [List.length_append]; rfl, by rw [List.length_append, zs_app]; exact hO8, hy8, by have := hn.out; rw [List.length_append]; simp [Hid]; omega, fun e => absurd e (by simp)⟩
        case measure => simp [intOf]; omega
    · obtain rfl : k = max ra.length rb.length := by omega
      have hfin := hid (fun (e : ks = []) => (show ra = rb from by
        have h := hall.out e
        have hl : ra.length = rb.length := by
          rcases Nat.lt_trichotomy ra.length rb.length with h1 | h1 | h1
          · have := (h ra.length (by omega)).1; omega
          · exact h1
          · have := (h rb.length (by omega)).2.1; omega
        refine List.ext_getElem hl (fun i h1 h2 => ?_)
        have := (h i (by omega)).2.2
        rwa [rth_get h1, rth_get h2] at this))
      have hn := hid (show ks.length ≤ 300 from by have := hn.out; omega)
      have hx9 := hid (hx.out.trans hy.out)
      clear hall hlt hk
      go_wp2
      exact bodyPost_ret (v := .tuple #[.slice S ks.length cs, .int .i64 0]) (by simp [results, Tryz.results93, go_sem]) rfl ⟨S, ks, cs, rfl, own_baseK hO.out hx.out.size, hn.out, hfin.out, hx9.out⟩
open Go.RowKit Go.Shelf
def bz (l : List Int) : List Value := l.map (fun z => .int .u8 z)
theorem bz_app (a b : List Int) : bz (a ++ b) = bz a ++ bz b := by simp [bz]
theorem bz_len (l : List Int) : (bz l).length = l.length := by simp [bz]
theorem bz_one (l : List Int) : ∀ u ∈ bz l, u.oneCell' = true := fun u hu => by
  obtain ⟨z, _, rfl⟩ := List.mem_map.1 hu
  rfl
theorem bz_set (l : List Int) (k : Nat) (z : Int) : bz (l.set k z) = (bz l).set k (.int .u8 z) := by simp [bz, List.map_set]
def BY (w : World) (lo : Nat) (A : Option Addr) (n c : Nat) (l : List Int) : Prop := w.ownsRow lo 5 1 (.slice A n c) n (bz l)
section
variable {w w' : World} {lo n c : Nat} {A : Option Addr} {l : List Int}
theorem BY.ext (h : BY w lo A n c l) (hx : Ext w w') : BY w' lo A n c l := hx.own h
theorem BY.lt (h : BY w lo A n c l) {g : Nat} (hg : (Value.slice A n c).ownBlock = some g) : lo ≤ g ∧ g < w.heap.size := World.ownsRow.lt h g hg
theorem BY.keep (h : BY w lo A n c l) (hb : ∀ g, (Value.slice A n c).ownBlock = some g → w'.heap[g]? = w.heap[g]?) : BY w' lo A n c l := own_same h hb
theorem BY.lo' {lo' : Nat} (h : BY w lo A n c l) (hl : lo' ≤ lo) : BY w lo' A n c l := own_baseK h hl
theorem BY.rd (h : BY w lo A n c l) : Rd w 1 A n c (bz l) := Rd.of_own h
theorem BY.len (h : BY w lo A n c l) : l.length = n := by have := h.1; rw [bz_len] at this; omega
theorem BY.nil : BY w lo none 0 0 [] := World.ownsRow_nil _ _ _ _
theorem BY.of_bk {g : Nat} (h : Bk w g (bz l) 5) (hlo : lo ≤ g) (hl : l.length = n) (hn : n ≤ 9223372036854775807) : BY w lo (some ⟨g, 0, none⟩) n n l :=
  ⟨by rw [bz_len, hl, Nat.mul_one], .inr ⟨g, n, (bz l).toArray, rfl, hlo, h, Nat.le_refl _, by unfold maxLen; omega, by simp [bz, hl], by simp; exact List.take_of_length_le (by rw [bz_len]; omega)⟩⟩
end
theorem one_bz (w : World) (z : Int) : Rd (w.alloc (.cells #[.int .u8 z] 5)) 1 (some ⟨w.heap.size, 0, none⟩) 1 1 (bz [z]) := one_rd w (bz [z]) 5 1 rfl
theorem two_bz (w : World) (y z : Int) : Rd (w.alloc (.cells #[.int .u8 y, .int .u8 z] 5)) 1 (some ⟨w.heap.size, 0, none⟩) 2 2 (bz [y, z]) :=
  ⟨by simp [bz], by omega, by unfold maxLen; omega, fun _ => ⟨_, rfl, fun j u hu => by rw [lit_add0]; exact Cs.new w (bz [y, z]) 5 j u hu⟩⟩
theorem strCells_bz (s : ByteArray) : Lib.strCells s = bz (s.data.toList.map (fun b => (b.toNat : Int))) := by simp [Lib.strCells, bz]
theorem appB (w : World) (lo : Nat) (ty : TypeId) {A : Option Addr} {n c : Nat} {l : List Int} (hown : BY w lo A n c l) (A' : Option Addr) (m c' : Nat) (l' : List Int) (hr : Rd w 1 A' m c' (bz l')) (hlo : lo ≤ w.heap.size) (hn : n + m ≤ 1000000000000) :
    ∃ B d w', (Builtin.append_ #[94, 94] ty #[.slice A n c, .slice A' m c']).run Tryz.prog w = .ok (.slice B (n + m) d) w' ∧ BY w' lo B (n + m) d (l ++ l') ∧ w.grownBy w' (Value.slice A n c).ownBlock ∧ ((Value.slice B (n + m) d).ownBlock = (Value.slice A n c).ownBlock ∨ ∀ k, (Value.slice B (n + m) d).ownBlock = some k → w.heap.size ≤ k) := by
  obtain ⟨B, d, w', h1, h2, h3, h4⟩ := app94 w lo ty (.slice A n c) n _ hown A' m c' _ hr (bz_one l') hlo hn
  rw [← bz_app] at h2
  exact ⟨B, d, w', h1, h2, h3, h4⟩
theorem wpl_bytes (w : World) {ops : Array Oper} {rest : List Oper} {o : Oper} {a : Act} {Q : Exit → Act → World → Prop} (hgd : o.guard = none) (s x : Operand) (ho : o.op = .call { callee := .builtin .append, args := #[s, x], argTypes := #[94, 94] })
    (lo : Nat) (A : Option Addr) (n c : Nat) (l : List Int) (hs : a.eval s = .slice A n c) (hown : BY w lo A n c l) (A' : Option Addr) (m c' : Nat) (l' : List Int) (hx : a.eval x = .slice A' m c') (hr : Rd w 1 A' m c' (bz l')) (hlo : lo ≤ w.heap.size) (hn : n + m ≤ 1000000000000)
    (h : ∀ B d w', BY w' lo B (n + m) d (l ++ l') → w.grownBy w' (Value.slice A n c).ownBlock → ((Value.slice B (n + m) d).ownBlock = (Value.slice A n c).ownBlock ∨ ∀ k, (Value.slice B (n + m) d).ownBlock = some k → w.heap.size ≤ k) → wpList Tryz.prog ops Q rest (a.put o.dst (.slice B (n + m) d)) w') : wpList Tryz.prog ops Q (o :: rest) a w := by
  obtain ⟨B, d, w', h1, h2, h3, h4⟩ := appB w lo o.type hown A' m c' l' hr hlo hn
  exact wpList_app hgd s x 94 94 ho _ _ hs hx _ h1 (h B d w' h2 h3 h4)
theorem mkU (n : Nat) (hn : n ≤ 16000000) (wx : World) : (Instr.makeSlice 94 (.int .i64 (n : Int)) (.int .i64 (n : Int))).run Tryz.prog wx = .ok (.slice (some ⟨wx.heap.size, 0, none⟩) n n) (wx.alloc (.cells (bz (List.replicate n 0)).toArray 5)) := by
  obtain ⟨i0, hi, hz0, hz1, hz2⟩ := info_parts info5
  have h := run_makeSlice (P := Tryz.prog) wx 94 5 i0 (.int .u8 0) Tryz.underlying94 hi hz0 .i64 .i64 (n : Int) (n : Int) (by omega) (by omega) (by rw [hz1]; omega) (by rw [hz2]; omega) (by omega)
  rw [hz1] at h
  simp only [Int.toNat_natCast] at h
  have e : madeCells #[.int .u8 0] (n * 1) = (bz (List.replicate n 0)).toArray := by
    apply Array.ext
    · simp [madeCells, bz]
    · intro i h1 h2
      simp [madeCells, bz, Nat.mod_one]
  rw [← e]
  exact h
theorem low_any (z : Int) (k : Nat) (hk : k ≤ 8) (w : World) : Calls Tryz.prog 139 #[.int .i64 z, .int .i64 (k : Int)] w fun e w' => ∃ A c l, e = .returned (.slice A k c) ∧ BY w' w.heap.size A k c l ∧ Ext w w' := by
  go_enter Tryz.func139, Tryz.ntmps139
  go_wp2_with fail
  go_loopw [0, 5, 7] (fun x o v wr => ∃ (i : Nat) (y : Int) (A : Option Addr) (c : Nat) (l : List Int), i ≤ k ∧ v = .int .i64 i ∧ x = .int .i64 y ∧ o = .slice A i c ∧ Hid (BY wr w.heap.size A i c l) ∧ Hid (Ext w wr)) (fun _ _ v _ => k - (intOf v).toNat)
  case atStart => exact ⟨0, z, none, 0, [], by omega, rfl, rfl, rfl, BY.nil, Ext.refl _⟩
  case round =>
    obtain ⟨i, y, A, c, l, hi, rfl, rfl, rfl, hO, hx⟩ := hrel
    by_cases hlt : i < k
    · have hob := hid (fun g (hg : (Value.slice A i c).ownBlock = some g) => (hO.out.lt hg).1)
      go_wp2_with (at_builtin; refine wpl_bytes _ rfl _ _ rfl w.heap.size A i c l rfl (hO.out.ext (Ext.new _ _)) _ 1 1 _ rfl (one_bz _ _) (hx.out.trans (Ext.new _ _)).size (by omega) ?_)
      intro B d w' hO2 hg hb
      have hx2 := hid ((hx.out.trans (Ext.new wr _)).app hg hob.out)
      replace hO2 := hid hO2
      clear hO hx hob hg hb
      go_wp2
      go_roundw
      case rel => exact ⟨i + 1, _, B, d, _, by omega, by go_num, rfl, rfl, hO2, hx2⟩
      case measure => simp [intOf]; omega
    · obtain rfl : i = k := by omega
      go_wp2
      go_ret
      exact ⟨A, c, l, rfl, hO.out, hx.out⟩
theorem headLen_any (k : Nat) (w : World) : Calls Tryz.prog 140 #[.int .i64 (k : Int)] w fun e w' => (∃ z : Int, e = .returned (.int .i64 z)) ∧ Ext w w' := by
  go_enter Tryz.func140, Tryz.ntmps140
  go_wp2
  go_ret
  exact ⟨⟨_, rfl⟩, Ext.refl _⟩
theorem Number_any (z : Int) (k : Nat) (hk : k ≤ 8) (w : World) : Calls Tryz.prog 129 #[.int .i64 z, .int .i64 (k : Int)] w fun e w' => ∃ A c l, e = .returned (.slice A k c) ∧ BY w' w.heap.size A k c l ∧ Ext w w' := by
  have hmk := mkU k (by omega)
  obtain ⟨w1, g, e1, h1, s1, kg, x1⟩ := newB w (bz (List.replicate k 0)) 5
  replace kg := hid kg
  replace x1 := hid x1
  have hg := hid (show w.heap.size ≤ g from by have := h1.out; omega)
  go_enter Tryz.func129, Tryz.ntmps129
  go_upto_region 2 with fail
  try simp only [e1.out, h1.out]
  clear e1 h1 s1 hmk
  go_wp2_with fail
  go_loopw [6, 11] (fun u v wr => ∃ (i : Nat) (l : List Int), i ≤ k ∧ v = .int .i64 i ∧ l.length = k ∧ Hid (Bk wr g (bz l) 5) ∧ Hid (Ext w wr)) (fun _ v _ => k - (intOf v).toNat)
  case atStart => exact ⟨0, _, by omega, rfl, by simp, kg, x1⟩
  case round =>
    clear kg x1
    obtain ⟨i, l, hi, rfl, hl, kg, hx⟩ := hrel
    replace hl := hid hl
    by_cases hlt : i < k
    · obtain rfl | rfl | rfl | rfl | rfl | rfl | rfl | rfl : i = 0 ∨ i = 1 ∨ i = 2 ∨ i = 3 ∨ i = 4 ∨ i = 5 ∨ i = 6 ∨ i = 7 := by omega
      · have z0 : wr.cell? ⟨g, 0, none⟩ = some (.int .u8 (l[0]'(by have := hl.out; omega))) := kg.out.at (by simp [bz, List.getElem?_eq_getElem (show 0 < l.length by have := hl.out; omega)])
        have fz := kg.out.free 0
        have kk : ∀ u, Hid (Bk (wr.setCell ⟨g, 0, none⟩ (.int .u8 u)) g (bz (l.set 0 u)) 5) := fun u => by rw [bz_set]; exact kg.out.set 0 (.int .u8 u)
        have kx : ∀ u, Hid (Ext w (wr.setCell ⟨g, 0, none⟩ u)) := fun u => hx.out.set (p := ⟨g, 0, none⟩) hg.out u
        clear kg
        go_wp2
        go_roundw
        case rel => exact ⟨1, _, by omega, by go_num, by rw [List.length_set]; exact hl.out, kk _, kx _⟩
        case measure => simp [intOf]; omega
      · have z0 : wr.cell? ⟨g, 1, none⟩ = some (.int .u8 (l[1]'(by have := hl.out; omega))) := kg.out.at (by simp [bz, List.getElem?_eq_getElem (show 1 < l.length by have := hl.out; omega)])
        have fz := kg.out.free 1
        have kk : ∀ u, Hid (Bk (wr.setCell ⟨g, 1, none⟩ (.int .u8 u)) g (bz (l.set 1 u)) 5) := fun u => by rw [bz_set]; exact kg.out.set 1 (.int .u8 u)
        have kx : ∀ u, Hid (Ext w (wr.setCell ⟨g, 1, none⟩ u)) := fun u => hx.out.set (p := ⟨g, 1, none⟩) hg.out u
        clear kg
        go_wp2
        go_roundw
        case rel => exact ⟨2, _, by omega, by go_num, by rw [List.length_set]; exact hl.out, kk _, kx _⟩
        case measure => simp [intOf]; omega
      · have z0 : wr.cell? ⟨g, 2, none⟩ = some (.int .u8 (l[2]'(by have := hl.out; omega))) := kg.out.at (by simp [bz, List.getElem?_eq_getElem (show 2 < l.length by have := hl.out; omega)])
        have fz := kg.out.free 2
        have kk : ∀ u, Hid (Bk (wr.setCell ⟨g, 2, none⟩ (.int .u8 u)) g (bz (l.set 2 u)) 5) := fun u => by rw [bz_set]; exact kg.out.set 2 (.int .u8 u)
        have kx : ∀ u, Hid (Ext w (wr.setCell ⟨g, 2, none⟩ u)) := fun u => hx.out.set (p := ⟨g, 2, none⟩) hg.out u
        clear kg
        go_wp2
        go_roundw
        case rel => exact ⟨3, _, by omega, by go_num, by rw [List.length_set]; exact hl.out, kk _, kx _⟩
        case measure => simp [intOf]; omega
      · have z0 : wr.cell? ⟨g, 3, none⟩ = some (.int .u8 (l[3]'(by have := hl.out; omega))) := kg.out.at (by simp [bz, List.getElem?_eq_getElem (show 3 < l.length by have := hl.out; omega)])
        have fz := kg.out.free 3
        have kk : ∀ u, Hid (Bk (wr.setCell ⟨g, 3, none⟩ (.int .u8 u)) g (bz (l.set 3 u)) 5) := fun u => by rw [bz_set]; exact kg.out.set 3 (.int .u8 u)
        have kx : ∀ u, Hid (Ext w (wr.setCell ⟨g, 3, none⟩ u)) := fun u => hx.out.set (p := ⟨g, 3, none⟩) hg.out u
        clear kg
        go_wp2
        go_roundw
        case rel => exact ⟨4, _, by omega, by go_num, by rw [List.length_set]; exact hl.out, kk _, kx _⟩
        case measure => simp [intOf]; omega
      · have z0 : wr.cell? ⟨g, 4, none⟩ = some (.int .u8 (l[4]'(by have := hl.out; omega))) := kg.out.at (by simp [bz, List.getElem?_eq_getElem (show 4 < l.length by have := hl.out; omega)])
        have fz := kg.out.free 4
        have kk : ∀ u, Hid (Bk (wr.setCell ⟨g, 4, none⟩ (.int .u8 u)) g (bz (l.set 4 u)) 5) := fun u => by rw [bz_set]; exact kg.out.set 4 (.int .u8 u)
        have kx : ∀ u, Hid (Ext w (wr.setCell ⟨g, 4, none⟩ u)) := fun u => hx.out.set (p := ⟨g, 4, none⟩) hg.out u
        clear kg
        go_wp2
        go_roundw
        case rel => exact ⟨5, _, by omega, by go_num, by rw [List.length_set]; exact hl.out, kk _, kx _⟩
        case measure => simp [intOf]; omega
      · have z0 : wr.cell? ⟨g, 5, none⟩ = some (.int .u8 (l[5]'(by have := hl.out; omega))) := kg.out.at (by simp [bz, List.getElem?_eq_getElem (show 5 < l.length by have := hl.out; omega)])
        have fz := kg.out.free 5
        have kk : ∀ u, Hid (Bk (wr.setCell ⟨g, 5, none⟩ (.int .u8 u)) g (bz (l.set 5 u)) 5) := fun u => by rw [bz_set]; exact kg.out.set 5 (.int .u8 u)
        have kx : ∀ u, Hid (Ext w (wr.setCell ⟨g, 5, none⟩ u)) := fun u => hx.out.set (p := ⟨g, 5, none⟩) hg.out u
        clear kg
        go_wp2
        go_roundw
        case rel => exact ⟨6, _, by omega, by go_num, by rw [List.length_set]; exact hl.out, kk _, kx _⟩
        case measure => simp [intOf]; omega
      · have z0 : wr.cell? ⟨g, 6, none⟩ = some (.int .u8 (l[6]'(by have := hl.out; omega))) := kg.out.at (by simp [bz, List.getElem?_eq_getElem (show 6 < l.length by have := hl.out; omega)])
        have fz := kg.out.free 6
        have kk : ∀ u, Hid (Bk (wr.setCell ⟨g, 6, none⟩ (.int .u8 u)) g (bz (l.set 6 u)) 5) := fun u => by rw [bz_set]; exact kg.out.set 6 (.int .u8 u)
        have kx : ∀ u, Hid (Ext w (wr.setCell ⟨g, 6, none⟩ u)) := fun u => hx.out.set (p := ⟨g, 6, none⟩) hg.out u
        clear kg
        go_wp2
        go_roundw
        case rel => exact ⟨7, _, by omega, by go_num, by rw [List.length_set]; exact hl.out, kk _, kx _⟩
        case measure => simp [intOf]; omega
      · have z0 : wr.cell? ⟨g, 7, none⟩ = some (.int .u8 (l[7]'(by have := hl.out; omega))) := kg.out.at (by simp [bz, List.getElem?_eq_getElem (show 7 < l.length by have := hl.out; omega)])
        have fz := kg.out.free 7
        have kk : ∀ u, Hid (Bk (wr.setCell ⟨g, 7, none⟩ (.int .u8 u)) g (bz (l.set 7 u)) 5) := fun u => by rw [bz_set]; exact kg.out.set 7 (.int .u8 u)
        have kx : ∀ u, Hid (Ext w (wr.setCell ⟨g, 7, none⟩ u)) := fun u => hx.out.set (p := ⟨g, 7, none⟩) hg.out u
        clear kg
        go_wp2
        go_roundw
        case rel => exact ⟨8, _, by omega, by go_num, by rw [List.length_set]; exact hl.out, kk _, kx _⟩
        case measure => simp [intOf]; omega
    · obtain rfl : i = k := by omega
      have hres := hid (BY.of_bk (lo := w.heap.size) kg.out hg.out hl.out (by omega))
      clear kg
      go_wp2
      go_ret
      exact ⟨_, _, l, rfl, hres.out, hx.out⟩
theorem sum_any (A : Option Addr) (n c : Nat) (l : List Int) (w : World) (hr : Rd w 1 A n c (bz l)) : Calls Tryz.prog 130 #[.slice A n c] w fun e w' => (∃ z : Int, e = .returned (.int .i64 z)) ∧ Ext w w' := by
  have hmx := Rd.max hr
  have hl : l.length = n := by have := hr.1; rw [bz_len] at this; omega
  replace hr := hid hr
  replace hl := hid hl
  go_enter Tryz.func130, Tryz.ntmps130
  go_wp2_with fail
  go_loopw [3, 5, 8] (fun x u v wr => ∃ (i : Nat) (y : Int), i ≤ n ∧ v = .int .i64 i ∧ x = .int .u32 y ∧ Hid (Ext w wr)) (fun _ _ v _ => n - (intOf v).toNat)
  case atStart => exact ⟨0, _, by omega, rfl, rfl, Ext.refl _⟩
  case round =>
    obtain ⟨i, y, hi, rfl, rfl, hx⟩ := hrel
    by_cases hlt : i < n
    · obtain ⟨ad, rfl, hc⟩ := hr.out.2.2.2 (by omega)
      have c0 := hx.out.cell (hc i (.int .u8 (l[i]'(by have := hl.out; omega))) (by simp [bz, List.getElem?_eq_getElem (show i < l.length by have := hl.out; omega)]))
      generalize (l[i]'(by have := hl.out; omega)) = q at *
      clear hc
      go_wp2
      go_roundw
      case rel => exact ⟨i + 1, _, by omega, by go_num, rfl, hx⟩
      case measure => simp [intOf]; omega
    · obtain rfl : i = n := by omega
      go_wp2
      go_ret
      exact ⟨⟨_, rfl⟩, hx.out⟩
theorem hold_kind {f : Fd} {p : Int} {v : Vl} (h : holdsB f p v = true) (hk : v.k ≠ 0) : v.k = (emptyV f).k ∧ Ky.valE v.k v.n v.s = 0 ∧ (f.k = 4 → v.s.size ≤ f.wd.toNat) ∧ (f.k = 5 → 0 ≤ v.n ∧ v.n ≤ 99999999) := by
  unfold holdsB at h
  rw [if_neg hk] at h
  split at h
  · cases h
  rename_i h2
  have h2 : Ky.valE v.k v.n v.s = 0 := by simpa using h2
  simp only [Bool.and_eq_true, beq_iff_eq] at h
  obtain ⟨h3, h4⟩ := h
  have h4 := eqV_iff.1 h4
  unfold fitR at h3 h4
  split at h3
  · cases h3
  rename_i a1
  rw [if_neg a1] at h4
  rw [if_neg (show ¬ Ky.valE v.k v.n v.s ≠ 0 by rw [h2]; simp), if_neg hk] at h4
  split at h3
  · cases h3
  rename_i a2
  rw [if_neg a2] at h4
  refine ⟨by simpa using a2, h2, fun e => ?_, fun e => ?_⟩
  · rw [if_pos e] at h3 h4
    split at h3
    · rename_i a3
      rw [if_pos a3] at h4
      have e5 : cutS f v = v.s := congrArg Vl.s h4
      have := (cut_size f v).2
      rw [e5] at this
      exact this
    · cases h3
  · rw [if_neg (show ¬ f.k = 4 by omega), if_neg (show ¬ f.k = 2 by omega), if_pos e] at h3
    split at h3
    · rename_i a3
      unfold okM at a3
      simpa using a3
    · cases h3
theorem val_isV {v : Vl} (h : Ky.valE v.k v.n v.s = 0) : Ky.isV v.k v.n v.s = true := by
  unfold Ky.valE at h
  split at h
  · cases h
  split at h
  · assumption
  · cases h
theorem hold_truth {f : Fd} {p : Int} {v : Vl} (h : holdsB f p v = true) (hk : v.k ≠ 0) (hf : f.k = 1) : v.n = 0 ∨ v.n = 1 := by
  obtain ⟨a, b, -⟩ := hold_kind h hk
  have e : v.k = 1 := by rw [a]; unfold emptyV; rw [if_neg (by omega)]; exact hf
  have := val_isV b
  unfold Ky.isV at this
  rw [e, if_neg (by decide)] at this
  split at this
  · cases this
  rw [if_neg (by decide), if_pos rfl] at this
  simpa using this
theorem hold_num {f : Fd} {p : Int} {v : Vl} (h : holdsB f p v = true) (hk : v.k ≠ 0) (hf : f.k = 2 ∨ f.k = 5) : Ky.isNumB v.n = true := by
  obtain ⟨a, b, -⟩ := hold_kind h hk
  have e : v.k = 2 := by
    rw [a]; unfold emptyV
    rcases hf with hf | hf
    · rw [if_neg (by omega)]; exact hf
    · rw [if_pos hf]
  have := val_isV b
  unfold Ky.isV at this
  rw [e, if_neg (by decide)] at this
  split at this
  · cases this
  rw [if_neg (by decide), if_neg (by decide), if_pos rfl] at this
  exact this
theorem strS_eq {n wd : Int} (h : Ky.isNumB n = true) (h1 : 1 ≤ wd) (h2 : wd ≤ 254) : (Ky.strS n wd).size = wd.toNat := by
  have ok : Ky.strOk n wd = true := by
    unfold Ky.strOk
    rw [h, decide_eq_true h1, decide_eq_true h2]; rfl
  unfold Ky.strS
  rw [if_pos ok]
  split
  · rw [Ky.repB_size]
  · rename_i h3
    rw [ByteArray.size_append, Ky.repB_size]
    omega
theorem hold_date {f : Fd} {p : Int} {v : Vl} (h : holdsB f p v = true) (hk : v.k ≠ 0) (hf : f.k = 3) : Ky.isDayB v.n = true := by
  obtain ⟨a, b, -⟩ := hold_kind h hk
  have e : v.k = 3 := by rw [a]; unfold emptyV; rw [if_neg (by omega)]; exact hf
  have := val_isV b
  unfold Ky.isV at this
  rw [e, if_neg (by decide)] at this
  split at this
  · cases this
  rw [if_neg (by decide), if_neg (by decide), if_neg (by decide), if_pos rfl] at this
  exact this
theorem stS_eq {n : Int} (h : Ky.isDayB n = true) : (Ky.stS n).size = 8 := by
  by_cases h0 : n = 0
  · rw [h0, Ky.stS_0]; decide
  · rw [Ky.stS_yes h h0, Ky.stB_size h]
end Go.Proofs.YtngoebbmgpdeiaaGreatDoor
