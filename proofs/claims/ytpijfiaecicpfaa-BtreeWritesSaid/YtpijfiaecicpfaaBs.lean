/-
  The reference's depths.
-/
import Derived.Test.YtpijfiaecicpfaaBr
namespace Go.Proofs.Ytpijfiaecicpfaa
open Go.RowKit Go.Shelf
set_option linter.unusedVariables false
set_option linter.unusedSimpArgs false
/-- append onto an owned row, whatever slice is behind: the run, and where the new row lies. -/
theorem app_at {P : Program} (w : World) (base : Nat) (t ty e : TypeId) (i : TypeInfo) (z : Value) (size bytes : Nat) (ht : P.underlying t = some (.slice e)) (hi : P.info? e = some i) (hz : i.zero = some z)
    (hsize : i.size = size) (hby : i.bytes = bytes) (hzs : z.cells.size = size) (hsz : 0 < size) (v : Value) (n : Nat) (xs : List Value) (hown : w.ownsRow base e size v n xs)
    (A : Option Addr) (m c : Nat) (es : List Value) (hr : Rd w size A m c es) (h1 : ∀ u ∈ es, u.oneCell' = true) (h63 : n + m ≤ maxLen) (hbytes : (n + m) * bytes ≤ 140737488355328) (hbase : base ≤ w.heap.size) :
    ∃ v' w', (Builtin.append_ #[t, t] ty #[v, .slice A m c]).run P w = .ok v' w' ∧ w'.ownsRow base e size v' (n + m) (xs ++ es) ∧ w.grownBy w' v.ownBlock ∧ (v'.ownBlock = v.ownBlock ∨ ∀ k, v'.ownBlock = some k → w.heap.size ≤ k) := by
  rcases A with _ | ad
  · have hm : m = 0 := by
      rcases Nat.eq_zero_or_pos m with h0 | h0
      · exact h0
      · obtain ⟨ad, h, _⟩ := hr.2.2.2 h0
        cases h
    subst hm
    have hn : es = [] := List.eq_nil_of_length_eq_zero (by simpa using hr.1)
    subst hn
    exact ⟨v, w, run_append_nilsrc (P := P) w base t ty e i size ht hi v n xs hown c, by simpa using hown, World.grownBy.refl w _, .inl rfl⟩
  · obtain ⟨v', w', hrun, h2, h3, _, h5⟩ := run_append_own_at (P := P) w base t ty e i z size bytes ht hi hz hsize hby hzs hsz v n xs hown ad m c es hr.1 (by
      intro j u hu
      rcases Nat.eq_zero_or_pos m with h0 | h0
      · subst h0
        have hn : es = [] := List.eq_nil_of_length_eq_zero (by simpa using hr.1)
        subst hn
        simp at hu
      · obtain ⟨ad', e', hc⟩ := hr.2.2.2 h0
        injection e' with e'
        subst e'
        exact hc j u hu) h1 h63 hbytes hbase
    refine ⟨v', w', hrun, h2, h3, ?_⟩
    rcases h5 with h5 | h5
    · exact .inl h5
    · refine .inr fun k hk => ?_
      rw [h5] at hk
      injection hk with hk
      omega
/-- It returns a row of ints of its own. -/
def GiveOI (l : List Int) (w : World) (e : Ending) (w' : World) : Prop := ∃ v, e = .returned v ∧ w'.ownsRow w.heap.size 3 1 v l.length (ints l) ∧ Ext w w'
theorem GiveOI.from {l : List Int} {w w1 w' : World} {v : Value} (hx : Ext w w1) (ho : w'.ownsRow w1.heap.size 3 1 v l.length (ints l)) (h1 : Ext w1 w') : GiveOI l w (.returned v) w' := ⟨v, rfl, own_baseK ho hx.size, hx.trans h1⟩
def kdn (xs : List Nx) (k q : Nat) : Nat := (kd xs k).getD q 0
theorem kdn_is {xs : List Nx} (ok : okP xs.length (allK xs)) {k q : Nat} (hq : q < (xth xs k).kids.length) : ith (xth xs k).kids q = (kdn xs k q : Int) ∧ kdn xs k q ∈ kd xs k ∧ (kd xs k)[q]? = some (kdn xs k q) := by
  have hl : q < (kd xs k).length := by rw [kd_len]; exact hq
  have e : kdn xs k q = (kd xs k)[q] := by simp [kdn, List.getD, hl]
  have h2 : ith (xth xs k).kids q = ith (toI (kd xs k)) q := by rw [toI_kd ok]
  refine ⟨?_, by rw [e]; exact List.getElem_mem hl, by rw [e]; exact List.getElem?_eq_getElem hl⟩
  rw [h2, ith_get (by simpa [toI] using hl), e]
  simp [toI]
/-- The depths below the first q kids. -/
def dpk (xs : List Nx) (f k : Nat) (d : Int) (q : Nat) : List Int := ((kd xs k).take q).flatMap (fun u => dps xs f u (d + 1))
theorem dpk_step {xs : List Nx} {f k q u : Nat} {d : Int} (h : (kd xs k)[q]? = some u) : dpk xs f k d (q + 1) = dpk xs f k d q ++ dps xs f u (d + 1) := by
  obtain ⟨hq, e⟩ := List.getElem?_eq_some_iff.1 h
  unfold dpk
  rw [List.take_succ_eq_append_getElem hq, List.flatMap_append, e]
  simp
theorem dpk_le {xs : List Nx} {f k q : Nat} {d : Int} : (dpk xs f k d q).length ≤ ((kd xs k).flatMap (fun u => dps xs f u (d + 1))).length := by
  unfold dpk
  conv => rhs; rw [← List.take_append_drop q (kd xs k), List.flatMap_append, List.length_append]
  omega
set_option maxRecDepth 100000 in
set_option maxHeartbeats 4000000 in
theorem rDepths_any (A : Option Addr) (n c : Nat) (xs : List Nx) (hok : okP n (allK xs)) : ∀ (f k : Nat) (d : Int) (w : World), RX w A n c xs → UT xs f k → 0 ≤ d → d + f ≤ 100000 → (sub xs f k).length ≤ 2400 → Calls Try.prog 90 #[.agg #[.slice A n c], .int .i64 k, .int .i64 d] w (GiveOI (dps xs f k d) w) := by
  intro f
  induction f with
  | zero => intro k d w _ h; exact h.elim
  | succ f ih =>
  intro k d w hr hU hd0 hdf hsz
  have hl := hr.len
  have hkn : k < n := by have := hU.1; omega
  have hm := RX.max hr
  obtain ⟨ad0, A1, c1, A2, c2, A3, c3, rfl, y0, y1, y2, -, -, r3⟩ := hr.at_ hkn
  have hx1 := (Ext.refl w).alloc_right (.cells #[.slice (some ad0) n c] 37)
  have hb0 := heap_alloc_new w (.cells #[.slice (some ad0) n c] 37)
  have zb : (w.alloc (.cells #[.slice (some ad0) n c] 37)).cell? ⟨w.heap.size, 0, none⟩ = some (.slice (some ad0) n c) := by rw [Lib.cell_of_heap hb0]; rfl
  have lb := World.block_lt_of_cell? _ _ zb
  dsimp only at lb
  replace y2 := hx1.cell y2
  have hkl5 : (xth xs k).kids.length ≤ 9223372036854775807 := (RdI.max r3).1
  by_cases h0 : (xth xs k).kids.length = 0
  · have hdp : Hid (dps xs (f + 1) k d = [d]) := by
      unfold Hid dps
      rw [if_pos (List.eq_nil_of_length_eq_zero (by rw [kd_len]; exact h0))]
    rw [h0] at y2
    have hgo := hid (GiveOI.from (l := dps xs (f + 1) k d) hx1 (w' := (w.alloc (.cells #[.slice (some ad0) n c] 37)).alloc (.cells #[.int .i64 d] 3)) (v := .slice (some ⟨w.heap.size + 1, 0, none⟩) 1 1) (by
      rw [hdp.out]
      have hq := heap_alloc_new (w.alloc (.cells #[.slice (some ad0) n c] 37)) (.cells #[.int .i64 d] 3)
      rw [World.size_alloc] at hq
      exact ⟨rfl, .inr ⟨w.heap.size + 1, 1, _, rfl, by simp, hq, Nat.le_refl _, by decide, rfl, rfl⟩⟩) ((Ext.refl _).alloc_right _))
    clear hdp hb0 y0 y1 r3 hU ih hsz hok hr hl h0
    go_enter Try.func90, Try.ntmps90
    go_wp2
    go_ret
    exact hgo.out
  · obtain ⟨i0, hi0, hz0, hz1, hz2⟩ := info_parts infoI
    have okA : Hid (okP xs.length (allK xs)) := by unfold Hid; rw [hl]; exact hok
    have hkdn : ¬ kd xs k = [] := fun e => h0 (by rw [← kd_len, e]; rfl)
    have hdp : Hid (dps xs (f + 1) k d = dpk xs f k d (xth xs k).kids.length) := by
      unfold Hid dpk
      rw [← kd_len, List.take_length]
      show (if kd xs k = [] then [d] else _) = _
      rw [if_neg hkdn]
    have hdl : Hid (∀ q, (dpk xs f k d q).length ≤ 2400) := fun q => by
      have h1 := dpk_le (xs := xs) (f := f) (k := k) (q := q) (d := d)
      have h2 := dps_len (xs := xs) (f := f + 1) (k := k) (d := d)
      rw [show dps xs (f + 1) k d = (kd xs k).flatMap (fun u => dps xs f u (d + 1)) from if_neg hkdn] at h2
      omega
    have hkid : Hid (∀ q, q < (xth xs k).kids.length → ∀ w', Ext w w' → ith (xth xs k).kids q = (kdn xs k q : Int) ∧ dpk xs f k d (q + 1) = dpk xs f k d q ++ dps xs f (kdn xs k q) (d + 1) ∧ Calls Try.prog 90 #[.agg #[.slice (some ad0) n c], .int .i64 (kdn xs k q : Int), .int .i64 (d + 1)] w' (GiveOI (dps xs f (kdn xs k q) (d + 1)) w')) := fun q hq w' hx' => by
      obtain ⟨e1, e2, e3⟩ := kdn_is okA.out hq
      refine ⟨e1, dpk_step e3, ih _ _ w' (hr.ext hx') (hU.2 _ e2) (by omega) (by omega) ?_⟩
      have := sub_kid (xs := xs) (f := f) e2
      omega
    have hwd : IntKind.i64.wrap (d + 1) = d + 1 := IntWalk.i64_in _ (by omega)
    have hwd0 := hid hwd
    have hdp0 : Hid (dpk xs f k d 0 = []) := rfl
    have hge := hid (fun (w' : World) (v : Value) => GiveOI.from (w' := w') (v := v) (l := dps xs (f + 1) k d) hx1)
    rw [hdp.out] at hge
    have hkp : 0 < (xth xs k).kids.length := by omega
    have hkn2 : (((xth xs k).kids.length : Int) == 0) = false := by rw [beq_eq_false_iff_ne]; omega
    have hkn1 : ¬ ((xth xs k).kids.length : Int) = 0 := by omega
    rw [hdp.out]
    have r3' := hid r3
    have hxw := hid hx1
    clear hdp hb0 y0 y1 hU ih hsz hok hr hl h0 r3 hkdn okA hx1 hdf hd0
    go_enter Try.func90, Try.ntmps90
    go_upto_region 1 with fail
    obtain ⟨b, hb⟩ : ∃ b, b = w.heap.size := ⟨_, rfl⟩
    rw [← hb] at zb lb
    simp only [← hb]
    replace hb := hid hb
    generalize w.alloc (.cells #[.slice (some ad0) n c] 37) = w1 at *
    go_upto_region 6 with fail
    generalize dpk xs f k d = G at *
    generalize hKn : (xth xs k).kids.length = kn at *
    replace hKn := hid hKn
    clear hwd
    go_loopw [8, 9] (fun o i wr => ∃ q : Nat, q ≤ kn ∧ i = .int .i64 q ∧ (∃ Ao co, o = .slice Ao (G q).length co) ∧ Hid (wr.ownsRow w1.heap.size 3 1 o (G q).length (ints (G q))) ∧ Hid (Ext w1 wr)) (fun _ i _ => kn - (intOf i).toNat)
    case atStart => exact ⟨0, by omega, rfl, ⟨none, 0, by rw [hdp0.out]; rfl⟩, by rw [hdp0.out]; exact World.ownsRow_nil _ _ _ _, Ext.refl _⟩
    case round =>
      obtain ⟨q, hq, rfl, ⟨Ao, co, rfl⟩, hown, hx⟩ := hrel
      by_cases hlt : q < kn
      · have hk1 := hkid.out q hlt w (Ext.refl w)
        have hC := hid (fun w' (hx' : Ext w1 w') => (hkid.out q hlt w' (hxw.out.trans hx')).2.2)
        have hst := hid hk1.2.1
        obtain ⟨kad, rfl, zk0⟩ := rdi_at r3'.out hlt
        rw [hk1.1] at zk0
        have zb1 := zb
        have zk1 := hxw.out.cell zk0
        have zkr := hx.out.cell zk1
        have zbr := hx.out.cell zb
        have hLD := hdl.out (q + 1)
        rw [hst.out, List.length_append] at hLD
        generalize dps xs f (kdn xs k q) (d + 1) = D at *
        have hLq0 := hdl.out q
        generalize G q = L at *
        generalize kdn xs k q = u at *
        have hwd : IntKind.i64.wrap (d + 1) = d + 1 := hwd0.out
        have hwq : IntKind.i64.wrap ((q : Int) + 1) = (q : Int) + 1 := IntWalk.i64_in _ (by omega)
        have hqk : (q : Int) < (kn : Int) := by omega
        have lbr := World.block_lt_of_cell? _ _ zbr
        dsimp only at lbr
        have zb := zbr
        have zk := zkr
        clear hk1 zk0
        go_upto_region 8 with fail
        have I0 : (fun w' : World => w'.cell? ⟨b, 0, none⟩ = some (.slice (some ad0) n c) ∧ w'.cell? (kad.add q) = some (.int .i64 (u : Int))) wr.drew := ⟨zb, zk⟩
        refine region_J (fun w' : World => w'.cell? ⟨b, 0, none⟩ = some (.slice (some ad0) n c) ∧ w'.cell? (kad.add q) = some (.int .i64 (u : Int))) 11 (by kernel_rfl) ?_
        have hx9 := hid hx.out.drew_right
        replace hown : Hid (wr.drew.ownsRow w1.heap.size 3 1 (.slice Ao L.length co) L.length (ints L)) := own_drewN hown.out 1
        clear zb zk
        generalize wr.drew = w9 at *
        refine J_takeO 0 (v := ?va0) rfl (by kernel_rfl) (by kernel_rfl) (by kernel_rfl) (by kernel_rfl) (fun _ _ _ h => h) (Or.inl ⟨by rfl, ?ya0⟩) I0 ?ra0
        case ya0 => (intro w hSw; obtain ⟨_, _⟩ := hSw; (go_simp; with_reducible rfl))
        simp only [Act.put, List.getElem_toArray, List.getElem_cons_zero, List.getElem_cons_succ, List.setIfInBounds_toArray, List.set_cons_zero, List.set_cons_succ]
        refine J_takeO 1 (v := ?va1) rfl (by kernel_rfl) (by kernel_rfl) (by kernel_rfl) (by kernel_rfl) (fun _ _ _ h => h) (Or.inl ⟨by rfl, ?ya1⟩) I0 ?ra1
        case ya1 => (intro w hSw; obtain ⟨_, _⟩ := hSw; (go_simp; with_reducible rfl))
        simp only [Act.put, List.getElem_toArray, List.getElem_cons_zero, List.getElem_cons_succ, List.setIfInBounds_toArray, List.set_cons_zero, List.set_cons_succ]
        refine J_takeO 2 (v := ?va2) rfl (by kernel_rfl) (by kernel_rfl) (by kernel_rfl) (by kernel_rfl) (fun _ _ _ h => h) (Or.inl ⟨by rfl, ?ya2⟩) I0 ?ra2
        case ya2 => (intro w hSw; obtain ⟨_, _⟩ := hSw; (go_simp; with_reducible rfl))
        simp only [Act.put, List.getElem_toArray, List.getElem_cons_zero, List.getElem_cons_succ, List.setIfInBounds_toArray, List.set_cons_zero, List.set_cons_succ]
        refine J_takeO 3 (v := ?va3) rfl (by kernel_rfl) (by kernel_rfl) (by kernel_rfl) (by kernel_rfl) (fun _ _ _ h => h) (Or.inl ⟨by rfl, ?ya3⟩) I0 ?ra3
        case ya3 => (intro w hSw; obtain ⟨_, _⟩ := hSw; (go_simp; with_reducible rfl))
        simp only [Act.put, List.getElem_toArray, List.getElem_cons_zero, List.getElem_cons_succ, List.setIfInBounds_toArray, List.set_cons_zero, List.set_cons_succ]
        refine J_takeO 4 (v := ?va4) rfl (by kernel_rfl) (by kernel_rfl) (by kernel_rfl) (by kernel_rfl) (fun _ _ _ h => h) (Or.inl ⟨by rfl, ?ya4⟩) I0 ?ra4
        case ya4 => (intro w hSw; obtain ⟨_, _⟩ := hSw; (go_simp; with_reducible rfl))
        simp only [Act.put, List.getElem_toArray, List.getElem_cons_zero, List.getElem_cons_succ, List.setIfInBounds_toArray, List.set_cons_zero, List.set_cons_succ]
        refine J_takeO 5 (v := ?va5) rfl (by kernel_rfl) (by kernel_rfl) (by kernel_rfl) (by kernel_rfl) (fun _ _ _ h => h) (Or.inl ⟨by rfl, ?ya5⟩) I0 ?ra5
        case ya5 => (intro w hSw; obtain ⟨_, _⟩ := hSw; (go_simp; with_reducible rfl))
        simp only [Act.put, List.getElem_toArray, List.getElem_cons_zero, List.getElem_cons_succ, List.setIfInBounds_toArray, List.set_cons_zero, List.set_cons_succ]
        refine J_takeO 6 (v := ?va6) rfl (by kernel_rfl) (by kernel_rfl) (by kernel_rfl) (by kernel_rfl) (fun _ _ _ h => h) (Or.inl ⟨by rfl, ?ya6⟩) I0 ?ra6
        case ya6 => (intro w hSw; obtain ⟨_, _⟩ := hSw; (go_simp; with_reducible rfl))
        simp only [Act.put, List.getElem_toArray, List.getElem_cons_zero, List.getElem_cons_succ, List.setIfInBounds_toArray, List.set_cons_zero, List.set_cons_succ]
        refine J_takeO 7 (v := ?va7) rfl (by kernel_rfl) (by kernel_rfl) (by kernel_rfl) (by kernel_rfl) (fun _ _ _ h => h) (Or.inl ⟨by rfl, ?ya7⟩) I0 ?ra7
        case ya7 => (intro w hSw; obtain ⟨_, _⟩ := hSw; (go_simp; with_reducible rfl))
        simp only [Act.put, List.getElem_toArray, List.getElem_cons_zero, List.getElem_cons_succ, List.setIfInBounds_toArray, List.set_cons_zero, List.set_cons_succ]
        refine J_one 8 rfl (by kernel_rfl) (fun K hK => ?_)
        go_simp
        refine (hC.out w9 hx9.out).mono ?_
        rintro e w10 ⟨v2, rfl, own2, hx10⟩
        have I1 : (fun w' : World => w'.cell? ⟨b, 0, none⟩ = some (.slice (some ad0) n c) ∧ w'.cell? (kad.add q) = some (.int .i64 (u : Int))) w10 := ⟨hx10.cell I0.1, hx10.cell I0.2⟩
        have hx11 := hid (hx9.out.trans hx10)
        have hown2 := hid (hx10.own hown.out)
        obtain ⟨Ad, cd, rfl, hrd⟩ := own_rd own2
        have hLq : L.length + D.length ≤ 2400 := hLD
        obtain ⟨v3, w12, happ, own3, hgr, -⟩ := app_at w10 w1.heap.size 23 23 3 i0 _ 1 8 Try.underlying23 hi0 hz0 hz1 hz2 rfl (by decide) _ _ _ hown2.out Ad D.length cd _ hrd (ints_one D) (by unfold maxLen; omega) (by omega) hx11.out.size
        have hx12 := hid (below_push hx11.out hown2.out hgr hx11.out.size)
        rw [← ints_append] at own3
        have hown3 : Hid (w12.ownsRow w1.heap.size 3 1 v3 (L ++ D).length (ints (L ++ D))) := by unfold Hid; rw [List.length_append]; exact own3
        obtain ⟨A3x, c3x, rfl, -⟩ := own_form own3
        have I2 : (fun w' : World => w'.cell? ⟨b, 0, none⟩ = some (.slice (some ad0) n c) ∧ w'.cell? (kad.add q) = some (.int .i64 (u : Int))) w12 := ⟨Ext.cell hx12.out zb1, Ext.cell hx12.out zk1⟩
        replace happ := hid happ
        clear hown own3 hgr own2 hrd hx10 hx9 I0
        refine hK _ _ ⟨fun _ => I1, ?_⟩
        clear hK K
        try simp only [Act.put, List.getElem_toArray, List.getElem_cons_zero, List.getElem_cons_succ, List.setIfInBounds_toArray, List.set_cons_zero, List.set_cons_succ]
        refine J_one 9 rfl (by kernel_rfl) (fun K hK => ?_)
        refine step_run rfl _ (ex_append _ _ _ _ rfl _ _ (by simp [Act.eval, Act.put]) (by simp [Act.eval, Act.put]) _ happ.out) ?_
        refine hK _ _ ⟨fun _ => I2, ?_⟩
        clear hK K
        try simp only [Act.put, List.getElem_toArray, List.getElem_cons_zero, List.getElem_cons_succ, List.setIfInBounds_toArray, List.set_cons_zero, List.set_cons_succ]
        refine J_one 10 rfl (by kernel_rfl) (fun K hK => ?_)
        go_simp
        refine hK _ _ ⟨fun _ => I2, ?_⟩
        clear hK K
        refine J_done (by kernel_rfl) (OnlyOn.normal ?_)
        clear I1 I2 happ hown2 hx11
        go_wp2_with fail
        go_roundw
        case rel => exact ⟨q + 1, by omega, by go_num, by rw [hst.out]; simp, by rw [hst.out]; rw [List.length_append] at hown3 ⊢; exact hown3, hx12⟩
        case measure => simp [intOf]; omega
      · obtain rfl : q = kn := by omega
        go_wp2
        go_ret
        exact hge.out _ _ hown.out hx.out
end Go.Proofs.Ytpijfiaecicpfaa
