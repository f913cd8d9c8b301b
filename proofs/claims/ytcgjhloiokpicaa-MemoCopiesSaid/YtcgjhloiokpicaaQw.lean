/-
  played: an act done with a file and with the reference.
-/
import Derived.Test.YtcgjhloiokpicaaPv
namespace Go.Proofs.Ytcgjhloiokpicaa
open Go.RowKit Go.MuLone Go.Shelf
set_option linter.unusedVariables false
set_option linter.unusedSimpArgs false
/-- The program's file and the reference's, with the same entries, apart, in memory that is new since w0. -/
structure Duo (KK : Nat → Prop) (wf w0 w : World) (g r : Nat) (size : Int) (l : List En) (v vr : Value) : Prop where
  ma : MA 0 w g size v l
  ra : RA w r size vr l
  ap : Apart g v r vr
  ex : Ext w0 w
  fg : w0.heap.size ≤ g
  fv : ∀ k, v.ownBlock = some k → w0.heap.size ≤ k
  fr : w0.heap.size ≤ r
  fw : ∀ k, vr.ownBlock = some k → w0.heap.size ≤ k
  kp : ∀ k, KK k → k < w.heap.size ∧ w.heap[k]? = wf.heap[k]? ∧ k ≠ g ∧ k ≠ r ∧ v.ownBlock ≠ some k ∧ vr.ownBlock ≠ some k
def Duos (KK : Nat → Prop) (wf w0 w : World) (g r : Nat) (size : Int) (l : List En) : Prop := ∃ v vr, Duo KK wf w0 w g r size l v vr
/-- The program's file has been turned, the reference's not yet. -/
structure Half (KK : Nat → Prop) (wf w0 w : World) (g r : Nat) (size : Int) (l l' : List En) (v vr : Value) : Prop where
  ma : MA 0 w g size v l'
  ra : RA w r size vr l
  ap : Apart g v r vr
  ex : Ext w0 w
  fg : w0.heap.size ≤ g
  fv : ∀ k, v.ownBlock = some k → w0.heap.size ≤ k
  fr : w0.heap.size ≤ r
  fw : ∀ k, vr.ownBlock = some k → w0.heap.size ≤ k
  kp : ∀ k, KK k → k < w.heap.size ∧ w.heap[k]? = wf.heap[k]? ∧ k ≠ g ∧ k ≠ r ∧ v.ownBlock ≠ some k ∧ vr.ownBlock ≠ some k
section
variable {KK : Nat → Prop} {wf w0 w w' : World} {g r : Nat} {size : Int} {l l' : List En} {v v' vr vr' : Value}
theorem Duo.left (h : Duo KK wf w0 w g r size l v vr) (hm : MA 0 w' g size v' l') (ht : MT g v v' w w') : Half KK wf w0 w' g r size l l' v' vr :=
  ⟨hm, ht.ra h.ra h.ap, ht.apart h.ap h.ra.lt h.ra.ownlt, ht.extF h.ex h.fg h.fv, h.fg, fun k e => by
    rcases ht.2.2.2.2.2 with h2 | h2
    · exact h.fv k (h2 ▸ e)
    · exact Nat.le_trans h.ex.size (h2 k e), h.fr, h.fw, fun k hk => by
    obtain ⟨a1, a2, a3, a4, a5, a6⟩ := h.kp k hk
    exact ⟨Nat.lt_of_lt_of_le a1 ht.size, (ht.block a1 a3 a5).trans a2, a3, a4, ht.own a1 a5, a6⟩⟩
theorem Half.right (h : Half KK wf w0 w g r size l l' v vr) (hr : RA w' r size vr' l') (ht : RT r vr vr' w w') : Duos KK wf w0 w' g r size l' :=
  ⟨v, vr', ht.mt.ma h.ma h.ap.symm, hr, (ht.mt.apart h.ap.symm h.ma.lt h.ma.ownlt).symm, ht.mt.extF h.ex h.fr h.fw, h.fg, h.fv, h.fr, fun k e => by
    rcases ht.2.2.2.2.2 with h2 | h2
    · exact h.fw k (h2 ▸ e)
    · exact Nat.le_trans h.ex.size (h2 k e), fun k hk => by
    obtain ⟨a1, a2, a3, a4, a5, a6⟩ := h.kp k hk
    exact ⟨Nat.lt_of_lt_of_le a1 ht.size, (ht.mt.block a1 a4 a6).trans a2, a3, a4, a5, ht.mt.own a1 a6⟩⟩
theorem Half.same (h : Half KK wf w0 w g r size l l v vr) : Duos KK wf w0 w g r size l := ⟨v, vr, h.ma, h.ra, h.ap, h.ex, h.fg, h.fv, h.fr, h.fw, h.kp⟩
theorem Half.duo (h : Half KK wf w0 w g r size l l v vr) : Duo KK wf w0 w g r size l v vr := ⟨h.ma, h.ra, h.ap, h.ex, h.fg, h.fv, h.fr, h.fw, h.kp⟩
theorem Duo.any (h : Duo KK wf w0 w g r size l v vr) : Duos KK wf w0 w g r size l := ⟨v, vr, h⟩
theorem Duo.ext (h : Duo KK wf w0 w g r size l v vr) (hx : Ext w w') : Duo KK wf w0 w' g r size l v vr := ⟨h.ma.ext hx, h.ra.ext hx, h.ap, h.ex.trans hx, h.fg, h.fv, h.fr, h.fw, fun k hk => by
    obtain ⟨a1, a2, a3, a4, a5, a6⟩ := h.kp k hk
    exact ⟨Nat.lt_of_lt_of_le a1 hx.size, (hx.block a1).trans a2, a3, a4, a5, a6⟩⟩
theorem Duos.ext (h : Duos KK wf w0 w g r size l) (hx : Ext w w') : Duos KK wf w0 w' g r size l := by obtain ⟨v, vr, h⟩ := h; exact ⟨v, vr, h.ext hx⟩
theorem Duo.leftS (h : Duo KK wf w0 w g r size l v vr) (hm : MA 0 w' g size v' l) (ht : MT g v v' w w') : Duo KK wf w0 w' g r size l v' vr := (h.left hm ht).duo
theorem MT.cell {a : Addr} {x : Value} (h : MT g v v' w w') (hc : w.cell? a = some x) (hg : a.block ≠ g) (hv : v.ownBlock ≠ some a.block) : w'.cell? a = some x := by
  rw [World.cell?_of_block (h.block (World.block_lt_of_cell? w a hc) hg hv)]
  exact hc
theorem Rd.mt {size n c : Nat} {A : Option Addr} {xs : List Value} (h : MT g v v' w w') (hr : Rd w size A n c xs) (hg : ∀ ad, A = some ad → ad.block ≠ g) (hv : ∀ ad, A = some ad → v.ownBlock ≠ some ad.block) : Rd w' size A n c xs :=
  ⟨hr.1, hr.2.1, hr.2.2.1, fun hn => by
    obtain ⟨ad, e, hc⟩ := hr.2.2.2 hn
    exact ⟨ad, e, fun j u hu => h.cell (hc j u hu) (by rw [block_add]; exact hg ad e) (by rw [block_add]; exact hv ad e)⟩⟩
end
set_option maxRecDepth 100000 in
set_option maxHeartbeats 4000000 in
theorem Same2_any (size size2 : Int) (g g2 : Nat) (v v2 : Value) (l l2 : List En) (w : World) (h : MA 0 w g size v l) (h2 : MA 0 w g2 size2 v2 l2) (hG : Good size l) (hG2 : Good size2 l2) (hs : 16 ≤ size ∧ size ≤ 256) (hs2 : 16 ≤ size2 ∧ size2 ≤ 256)
    (ha : Apart g v g2 v2) : Calls Try.prog 27 #[.pointer (some ⟨g, 0, none⟩), .pointer (some ⟨g2, 0, none⟩)] w fun e w' => e = .returned (.bool (eqB (fileB size l) (fileB size2 l2))) ∧ MA 0 w' g size v l ∧ MA 0 w' g2 size2 v2 l2 ∧ ∃ w1, MT g v v w w1 ∧ MT g2 v2 v2 w1 w' := by
  have hB1 := hid (Bytes_any size g v l w h hG hs.1 hs.2)
  have hB2 := hid (fun w (h2 : MA 0 w g2 size2 v2 l2) => Bytes_any size2 g2 v2 l2 w h2 hG2 hs2.1 hs2.2)
  have hlt := hid h2.lt
  have hol := hid h2.ownlt
  generalize fileB size l = F1 at *
  generalize fileB size2 l2 = F2 at *
  go_enter Try.func27, Try.ntmps27
  go_wp2_with fail
  refine hB1.out.mono ?_
  rintro e w1 ⟨u1, rfl, o1, m1, t1⟩
  have h21 := hid (t1.ma h2 ha)
  have hf := hid (row_far o1 hlt.out hol.out)
  replace o1 := hid o1
  replace t1 := hid t1
  replace m1 := hid m1
  clear hB1
  go_wp2_with fail
  refine (hB2.out _ h21.out).mono ?_
  rintro e w2 ⟨u2, rfl, o2, m2, t2⟩
  have m12 := hid (t2.ma m1.out ha.symm)
  replace m2 := hid m2
  replace o1 := hid (t2.rowG o1.out hf.out.1 hf.out.2)
  replace o2 := hid o2
  replace t2 := hid t2
  clear hB2 m1
  go_wp2_with fail
  refine (Equal_any _ _ _ _ u1 u2 F1 F2 _ o1.out o2.out).mono ?_
  rintro e w3 ⟨rfl, rfl⟩
  go_wp2
  go_ret
  exact ⟨rfl, m12.out, m2.out, w1, t1.out, t2.out⟩
theorem Duo.keepM {KK : Nat → Prop} {wf w0 w : World} {g r gc : Nat} {size sc : Int} {l lc : List En} {v vr vc : Value} (h : Duo KK wf w0 w g r size l v vr) (hm : MA 0 wf gc sc vc lc) (h1 : KK gc) (h2 : ∀ k, vc.ownBlock = some k → KK k) : MA 0 w gc sc vc lc := by
  obtain ⟨q, e1, e2, e3⟩ := hm
  refine ⟨q, (h.kp gc h1).2.1.trans e1, ⟨e2.1, ?_⟩, e3⟩
  rcases e2.2 with h2' | ⟨g', cap, cur, rfl, f2, f3, f4⟩
  · exact .inl h2'
  · exact .inr ⟨g', cap, cur, rfl, f2, (h.kp g' (h2 g' rfl)).2.1.trans f3, f4⟩
theorem Duo.keepR {KK : Nat → Prop} {wf w0 w : World} {g r gc : Nat} {size sc : Int} {l lc : List En} {v vr vc : Value} (h : Duo KK wf w0 w g r size l v vr) (hm : RA wf gc sc vc lc) (h1 : KK gc) (h2 : ∀ k, vc.ownBlock = some k → KK k) : RA w gc sc vc lc := by
  obtain ⟨e1, e2, e3⟩ := hm
  refine ⟨(h.kp gc h1).2.1.trans e1, ⟨e2.1, ?_⟩, e3⟩
  rcases e2.2 with h2' | ⟨g', cap, cur, rfl, f2, f3, f4⟩
  · exact .inl h2'
  · exact .inr ⟨g', cap, cur, rfl, f2, (h.kp g' (h2 g' rfl)).2.1.trans f3, f4⟩
theorem PackR.good {size k : Int} {l l' : List En} {u : List Int} {ps : List (Int × Int)} (h : PackR l u k ps l') (hG : Good size l) : Good size l' := by
  rcases h with ⟨h1, h2, h3, rfl⟩ | ⟨h1, h2, h3, h4, rfl⟩ | ⟨h1, h2, h3, h4, rfl⟩
  · exact hG
  · exact hG
  · exact pk_good hG h2 h3 (Nat.le_refl _)
def PlayedP (KK : Nat → Prop) (wf w0 : World) (g r : Nat) (size : Int) (e : Ending) (w' : World) : Prop := e = .returned (.bool true) ∧ ∃ l', Good size l' ∧ Duos KK wf w0 w' g r size l'
set_option maxRecDepth 100000 in
set_option maxHeartbeats 4000000 in
theorem played_any (KK : Nat → Prop) (wf w0 : World) (size : Int) (g r : Nat) (v vr : Value) (l : List En) (x : Ac) (w : World) (hd : Duo KK wf w0 w g r size l v vr) (hG : Good size l) (hs : 16 ≤ size ∧ size ≤ 256) (hok : okA x) :
    Calls Try.prog 21 #[.pointer (some ⟨g, 0, none⟩), .pointer (some ⟨r, 0, none⟩), .agg #[.int .i64 x.op, .int .i64 x.a, .int .i64 x.b, .int .i64 x.c, .string x.s, .string x.t]] w (PlayedP KK wf w0 g r size) := by
  obtain ⟨op, a, b, c, s, t⟩ := x
  dsimp only
  have hb := heap_alloc_new w (.cells #[.int .i64 op, .int .i64 a, .int .i64 b, .int .i64 c, .string s, .string t] 45)
  have hpg : w.heap.size ≠ g := by have := hd.ma.lt; omega
  have hpr : w.heap.size ≠ r := by have := hd.ra.lt; omega
  have hvp : Hid (v.ownBlock ≠ some w.heap.size) := fun e => by have := hd.ma.ownlt _ e; omega
  have hvrp : Hid (vr.ownBlock ≠ some w.heap.size) := fun e => by have := hd.ra.ownlt _ e; omega
  replace hd := hid (hd.ext ((Ext.refl w).alloc_right (.cells #[.int .i64 op, .int .i64 a, .int .i64 b, .int .i64 c, .string s, .string t] 45)))
  replace hG := hid hG
  replace hok := hid hok
  go_enter Try.func21, Try.ntmps21
  go_upto_region 1 with fail
  generalize w.alloc (.cells #[.int .i64 op, .int .i64 a, .int .i64 b, .int .i64 c, .string s, .string t] 45) = w1 at *
  generalize w.heap.size = p at *
  have e0 : w1.cell? ⟨p, 0, none⟩ = some (.int .i64 op) := by rw [Lib.cell_of_heap hb]; rfl
  have e1 : w1.cell? ⟨p, 1, none⟩ = some (.int .i64 a) := by rw [Lib.cell_of_heap hb]; rfl
  have e2 : w1.cell? ⟨p, 2, none⟩ = some (.int .i64 b) := by rw [Lib.cell_of_heap hb]; rfl
  have e3 : w1.cell? ⟨p, 3, none⟩ = some (.int .i64 c) := by rw [Lib.cell_of_heap hb]; rfl
  have e4 : w1.cell? ⟨p, 4, none⟩ = some (.string s) := by rw [Lib.cell_of_heap hb]; rfl
  have e5 : w1.cell? ⟨p, 5, none⟩ = some (.string t) := by rw [Lib.cell_of_heap hb]; rfl
  clear hb
  have hsz0 : True := trivial
  by_cases h0 : op = 0
  · subst h0
    clear hsz0
    go_wp2_with fail
    refine (Put_any size g v l s w1 hd.out.ma hG.out hs.1 hs.2).mono ?_
    rintro e w2 ⟨rfl, v', hm2, ht⟩
    have d1 := hid (hd.out.left hm2 ht)
    have e1x := ht.cell e1 hpg hvp.out
    have e4x := ht.cell e4 hpg hvp.out
    clear e0 e1 e2 e3 e4 e5
    go_wp2_with fail
    refine (rPut_any size r vr l s w2 d1.out.ra hG.out hs.1 hs.2).mono ?_
    rintro e w3 ⟨rfl, vr', hr3, hrt⟩
    have d2 := hid (d1.out.right hr3 hrt)
    clear d1 hm2 ht hd
    have hgo := hid (good_PutL hG.out hs s)
    generalize PutB size l s = xb at *
    generalize PutE size l s = xe at *
    generalize PutL size l s = xl at *
    go_wp2
    go_ret
    exact ⟨rfl, _, hgo.out, d2.out⟩
  · by_cases h1 : op = 1
    · subst h1
      clear hsz0
      go_wp2_with fail
      refine (Get_any size g v l a w1 hd.out.ma).mono ?_
      rintro e w2 ⟨rfl, v', hm2, ht⟩
      have d1 := hid (hd.out.left hm2 ht)
      have e1x := ht.cell e1 hpg hvp.out
      have e4x := ht.cell e4 hpg hvp.out
      clear e0 e1 e2 e3 e4 e5
      go_wp2_with fail
      refine (rGet_any size r vr l a w2 d1.out.ra hG.out).mono ?_
      rintro e w3 ⟨rfl, rfl⟩
      have d2 := hid d1.out.same
      clear d1 hm2 ht hd
      have hgo := hid (hG.out)
      generalize getS l a = xs at *
      generalize getE l a = xe at *
      go_wp2
      go_ret
      exact ⟨rfl, _, hgo.out, d2.out⟩
    · by_cases h2 : op = 2
      · subst h2
        clear hsz0
        go_wp2_with fail
        refine (Replace_any size g v l a s w1 hd.out.ma hG.out hs.1 hs.2).mono ?_
        rintro e w2 ⟨rfl, v', hm2, ht⟩
        have d1 := hid (hd.out.left hm2 ht)
        have e1x := ht.cell e1 hpg hvp.out
        have e4x := ht.cell e4 hpg hvp.out
        clear e0 e1 e2 e3 e4 e5
        go_wp2_with fail
        refine (rReplace_any size r vr l a s w2 d1.out.ra hG.out hs.1 hs.2).mono ?_
        rintro e w3 ⟨rfl, vr', hr3, hrt⟩
        have d2 := hid (d1.out.right hr3 hrt)
        clear d1 hm2 ht hd
        have hgo := hid (good_rep hG.out hs a s)
        generalize RepB size l a s = xb at *
        generalize RepE size l a s = xe at *
        generalize RepL size l a s = xl at *
        go_wp2
        go_ret
        exact ⟨rfl, _, hgo.out, d2.out⟩
      · by_cases h3 : op = 3
        · subst h3
          clear hsz0
          go_upto_region 15 with fail
          have I0 : (fun w' : World => w'.cell? ⟨p, 1, none⟩ = some (.int .i64 a)) w1.drew := e1
          have d0 := hid (hd.out.ext (Ext.refl w1).drew_right)
          clear e0 e2 e3 e4 e5 hd
          refine region_J (fun w' : World => w'.cell? ⟨p, 1, none⟩ = some (.int .i64 a)) 10 (by kernel_rfl) ?_
          generalize w1.drew = w1' at *
          refine J_takeO 0 (v := ?vc0) rfl (by kernel_rfl) (by kernel_rfl) (by kernel_rfl) (by kernel_rfl) (fun _ _ _ h => h) (Or.inl ⟨by rfl, ?yc0⟩) I0 ?rc0
          case yc0 => (intro w hSw; (go_simp; with_reducible rfl))
          simp only [Act.put, List.getElem_toArray, List.getElem_cons_zero, List.getElem_cons_succ, List.setIfInBounds_toArray, List.set_cons_zero, List.set_cons_succ]
          refine J_takeO 1 (v := ?vc1) rfl (by kernel_rfl) (by kernel_rfl) (by kernel_rfl) (by kernel_rfl) (fun _ _ _ h => h) (Or.inl ⟨by rfl, ?yc1⟩) I0 ?rc1
          case yc1 => (intro w hSw; (go_simp; with_reducible rfl))
          simp only [Act.put, List.getElem_toArray, List.getElem_cons_zero, List.getElem_cons_succ, List.setIfInBounds_toArray, List.set_cons_zero, List.set_cons_succ]
          refine J_takeO 2 (v := ?vc2) rfl (by kernel_rfl) (by kernel_rfl) (by kernel_rfl) (by kernel_rfl) (fun _ _ _ h => h) (Or.inl ⟨by rfl, ?yc2⟩) I0 ?rc2
          case yc2 => (intro w hSw; (go_simp; with_reducible rfl))
          simp only [Act.put, List.getElem_toArray, List.getElem_cons_zero, List.getElem_cons_succ, List.setIfInBounds_toArray, List.set_cons_zero, List.set_cons_succ]
          refine J_takeO 4 (v := ?vc4) rfl (by kernel_rfl) (by kernel_rfl) (by kernel_rfl) (by kernel_rfl) (fun _ _ _ h => h) (Or.inl ⟨by rfl, ?yc4⟩) I0 ?rc4
          case yc4 => (intro w hSw; (go_simp; with_reducible rfl))
          simp only [Act.put, List.getElem_toArray, List.getElem_cons_zero, List.getElem_cons_succ, List.setIfInBounds_toArray, List.set_cons_zero, List.set_cons_succ]
          refine J_takeO 5 (v := ?vc5) rfl (by kernel_rfl) (by kernel_rfl) (by kernel_rfl) (by kernel_rfl) (fun _ _ _ h => h) (Or.inl ⟨by rfl, ?yc5⟩) I0 ?rc5
          case yc5 => (intro w hSw; (go_simp; with_reducible rfl))
          simp only [Act.put, List.getElem_toArray, List.getElem_cons_zero, List.getElem_cons_succ, List.setIfInBounds_toArray, List.set_cons_zero, List.set_cons_succ]
          refine J_takeO 6 (v := ?vc6) rfl (by kernel_rfl) (by kernel_rfl) (by kernel_rfl) (by kernel_rfl) (fun _ _ _ h => h) (Or.inl ⟨by rfl, ?yc6⟩) I0 ?rc6
          case yc6 => (intro w hSw; (go_simp; with_reducible rfl))
          simp only [Act.put, List.getElem_toArray, List.getElem_cons_zero, List.getElem_cons_succ, List.setIfInBounds_toArray, List.set_cons_zero, List.set_cons_succ]
          refine J_one 3 rfl (by kernel_rfl) (fun K hK => ?_)
          go_simp
          refine (Free_any size g v l a _ d0.out.ma hG.out).mono ?_
          rintro e w2 ⟨rfl, v', hm2, ht⟩
          have d1 := hid (d0.out.left hm2 ht)
          have I2 : (fun w' : World => w'.cell? ⟨p, 1, none⟩ = some (.int .i64 a)) w2 := ht.cell I0 hpg hvp.out
          clear d0 hm2 ht
          refine hK _ _ ⟨fun _ => I2, ?_⟩
          clear hK K
          try simp only [Act.put, List.getElem_toArray, List.getElem_cons_zero, List.getElem_cons_succ, List.setIfInBounds_toArray, List.set_cons_zero, List.set_cons_succ]
          refine J_one 7 rfl (by kernel_rfl) (fun K hK => ?_)
          go_simp
          refine (rFree_any size r vr l a w2 d1.out.ra hG.out).mono ?_
          rintro e w3 ⟨rfl, vr', hr3, hrt⟩
          have d2 := hid (d1.out.right hr3 hrt)
          have I3 : (fun w' : World => w'.cell? ⟨p, 1, none⟩ = some (.int .i64 a)) w3 := hrt.mt.cell I2 hpr hvrp.out
          have hgo := hid (good_free hG.out a)
          clear d1 hr3 hrt
          refine hK _ _ ⟨fun _ => I3, ?_⟩
          clear hK K
          try simp only [Act.put, List.getElem_toArray, List.getElem_cons_zero, List.getElem_cons_succ, List.setIfInBounds_toArray, List.set_cons_zero, List.set_cons_succ]
          generalize getE l a = xe at *
          refine J_one 8 rfl (by kernel_rfl) (fun K hK => ?_)
          go_simp
          refine hK _ _ ⟨fun _ => I3, ?_⟩
          clear hK K
          try simp only [Act.put, List.setIfInBounds_toArray, List.set_cons_zero, List.set_cons_succ]
          refine J_one 9 rfl (by kernel_rfl) (fun K hK => ?_)
          go_simp
          refine hK _ _ ⟨fun _ => I3, ?_⟩
          clear hK K
          try simp only [Act.put, List.setIfInBounds_toArray, List.set_cons_zero, List.set_cons_succ]
          refine J_done (by kernel_rfl) (OnlyOn.normal ?_)
          go_wp2
          go_ret
          exact ⟨rfl, _, hgo.out, d2.out⟩
        · have d0 : (op == 0) = false := by simpa using h0
          have d1 : (op == 1) = false := by simpa using h1
          have d2 : (op == 2) = false := by simpa using h2
          have d3 : (op == 3) = false := by simpa using h3
          by_cases h4 : op = 4
          · subst h4
            clear d0 d1 d2 d3 h0 h1 h2 h3
            go_wp2_with fail
            refine (used_any size r vr l ⟨4, a, b, c, s, t⟩ w1 hd.out.ra hG.out hok.out).mono ?_
            rintro e w2 ⟨Au, nu, cu, u, rfl, hu, hnu, hx2⟩
            have d1 := hid (hd.out.ext hx2)
            have hu2 := hid (Rd.of_own hu)
            have huf : Hid (∀ ad, Au = some ad → w1.heap.size ≤ ad.block) := own_fresh hu
            have lg1 := hd.out.ma.lt
            have lr1 := hd.out.ra.lt
            have hvf := hid hd.out.ma.ownlt
            clear e0 e1 e2 e3 e4 e5 hd hu
            go_wp2_with fail
            refine (Pack_any size g v l Au nu cu u w2 d1.out.ma hG.out hs.1 hs.2 hu2.out (fun ad e => by have := huf.out ad e; omega) hnu).mono ?_
            rintro e w3 ⟨k1, ps1, v2, v', l1, rfl, hp1, ho1, hm3, ht3⟩
            have hu3 : Hid (RdI w3 Au nu cu u) := Rd.mt ht3 hu2.out (fun ad e => by have := huf.out ad e; omega) (fun ad e e2 => by have := huf.out ad e; have := hvf.out _ e2; omega)
            have hs23 := ht3.size
            replace d1 := hid (d1.out.left hm3 ht3)
            have lr3 := d1.out.ra.lt
            have hrf : Hid (r < w2.heap.size) := by have := hx2.size; unfold Hid; omega
            clear hm3 ht3 hu2
            go_wp2_with fail
            refine (rPack_any size r vr l Au nu cu u w3 d1.out.ra hG.out hu3.out (fun ad e => by have := huf.out ad e; omega) hnu).mono ?_
            rintro e w4 ⟨k2, ps2, v4, vr', l2, rfl, hp2, ho2, hr4, hrt⟩
            obtain ⟨rfl, rfl, rfl⟩ := hp1.one hp2
            have hgo := hid (hp1.good hG.out)
            have ho3 := hid (hrt.rowK ho1 (fun e => by have := own_freshB ho1 _ e; have := hrf.out; omega))
            have d2 := hid (d1.out.right hr4 hrt)
            clear d1 hr4 hrt hp1 hp2 hu3 ho1
            obtain ⟨A1, c1, rfl, -⟩ := own_form ho3.out
            obtain ⟨A2, c2, rfl, -⟩ := own_form ho2
            go_wp2_with fail
            refine (pairs_any A1 A2 _ c1 c2 _ w4 (Rd.of_own ho3.out) (Rd.of_own ho2)).mono ?_
            rintro e w5 ⟨rfl, hdr⟩
            replace d2 := hid (d2.out.ext hdr.ext)
            go_wp2
            go_ret
            exact ⟨rfl, _, hgo.out, d2.out⟩
          · have d4 : (op == 4) = false := by simpa using h4
            clear h0 h1 h2 h3 h4
            go_wp2_with fail
            clear e0 e1 e2 e3 e4 e5
            refine (Size_any size g v l w1 hd.out.ma).mono ?_
            rintro e w2 ⟨rfl, v', hm2, ht⟩
            have d1 := hid (hd.out.left hm2 ht)
            clear hm2 ht hd
            go_wp2_with fail
            refine (rSize_any size r vr l w2 d1.out.ra hG.out).mono ?_
            rintro e w3 ⟨rfl, hdr⟩
            have d2 := hid (d1.out.duo.ext hdr.ext)
            have lr3 := d2.out.ra.lt
            clear d1 hdr
            have hll := (good_facts hG.out).1
            generalize endI l = en at *
            go_wp2_with fail
            refine (Entries_any size g v' l w3 d2.out.ma (by omega)).mono ?_
            rintro e w4 ⟨v2, rfl, ho1, hm4, ht4⟩
            have d3 := hid (d2.out.left hm4 ht4)
            clear d2 hm4 ht4
            obtain ⟨A1, c1, rfl, -⟩ := own_form ho1
            have hT1 := hid (Rd.of_own ho1)
            clear ho1
            go_wp2_with fail
            refine (rEntries_any size r vr l w4 d3.out.ra hG.out).mono ?_
            rintro e w5 ⟨v4, rfl, ho2, hx5⟩
            have d4 := hid (d3.out.duo.ext hx5)
            replace hT1 := hid (hT1.out.ext hx5)
            obtain ⟨A2, c2, rfl, -⟩ := own_form ho2
            clear d3 hx5
            go_wp2_with fail
            refine (entries_any A1 A2 _ c1 c2 l w5 hT1.out (Rd.of_own ho2)).mono ?_
            rintro e w6 ⟨rfl, hdr⟩
            have d5 := hid (d4.out.ext hdr.ext)
            go_wp2
            go_ret
            exact ⟨rfl, l, hG.out, d5.out.any⟩
end Go.Proofs.Ytcgjhloiokpicaa
