/-
  Pack of the program.
-/
import Derived.Test.YtcgjhloiokpicaaPt
namespace Go.Proofs.Ytcgjhloiokpicaa
open Go.RowKit Go.MuLone Go.Shelf
set_option linter.unusedVariables false
set_option linter.unusedSimpArgs false
def PackedP (g : Nat) (size : Int) (v : Value) (l : List En) (u : List Int) (w : World) (e : Ending) (w' : World) : Prop := ∃ (k : Int) (ps : List (Int × Int)) (v2 v' : Value) (l' : List En), e = .returned (.tuple #[v2, .int .i64 k]) ∧ PackR l u k ps l' ∧ w'.ownsRow w.heap.size 101 2 v2 ps.length (pcs ps) ∧ MA 0 w' g size v' l' ∧ MT g v v' w w'
theorem MA.store {lk size : Int} {W : World} {g : Nat} {v v' : Value} {l l' : List En} (h : MA lk W g size v l) (ho : W.ownsRow 0 78 4 v' l'.length (ents l')) (hne : v'.ownBlock ≠ some g) : MA lk (W.setCell ⟨g, 3, none⟩ v') g size v' l' := by
  obtain ⟨q, h1, h2, h3⟩ := h
  exact ⟨q, by simp [World.setCell, Array.getElem?_modify, h1], own_set ho hne 3 _, hne⟩
theorem MA.grown {lk size : Int} {W W' : World} {g : Nat} {v : Value} {l : List En} {row : Option Nat} (h : MA lk W g size v l) (hg : W.grownBy W' row) (h1 : row ≠ some g) (h2 : ∀ k, v.ownBlock = some k → row ≠ some k) : MA lk W' g size v l := by
  have hl := h.lt
  obtain ⟨q, e1, e2, e3⟩ := h
  refine ⟨q, (hg.block g hl (fun e => h1 e.symm)).trans e1, ?_, e3⟩
  refine ⟨e2.1, ?_⟩
  rcases e2.2 with h2' | ⟨g', cap, cur, rfl, f2, f3, f4⟩
  · exact .inl h2'
  · exact .inr ⟨g', cap, cur, rfl, f2, (hg.block g' (Array.getElem?_eq_some_iff.1 f3).1 (fun e => h2 g' rfl e.symm)).trans f3, f4⟩
theorem MT.as {g : Nat} {v v' v'' : Value} {w w' : World} (h : MT g v v' w w') (hv : ∀ k, v''.ownBlock = some k → w.heap.size ≤ k) : MT g v v'' w w' := ⟨h.1, h.2.1, h.2.2.1, h.2.2.2.1, h.2.2.2.2.1, .inr hv⟩
set_option maxRecDepth 100000 in
set_option maxHeartbeats 4000000 in
theorem Pack_any (size : Int) (g : Nat) (v : Value) (l : List En) (A : Option Addr) (n c : Nat) (u : List Int) (w : World) (h : MA 0 w g size v l) (hG : Good size l) (hs1 : 16 ≤ size) (hs2 : size ≤ 256) (hu : RdI w A n c u) (hf : ∀ ad, A = some ad → ad.block ≠ g) (hn : n ≤ 5000) :
    Calls Try.prog 30 #[.pointer (some ⟨g, 0, none⟩), .slice A n c] w (PackedP g size v l u w) := by
  generalize hRP : PackedP g size v l u w = RP
  have hbad : Hid (∀ (k : Int) w', MA 1 w' g size v l → MT g v v w w' → PackR l u k [] l → RP (.returned (.tuple #[.slice none 0 0, .int .i64 k])) (w'.setCell ⟨g, 0, none⟩ (.int .i32 0))) := fun k w' hm ht hp => by
    rw [← hRP]
    exact ⟨k, [], _, v, l, rfl, hp, World.ownsRow_nil _ _ _ _, hm.lock 0, ht.set 0 _⟩
  have hgood : Hid (∀ w' (v2 vn : Value), MA 1 w' g size vn (pkK l u u.length) → MT g v vn w w' → AscP u → AllF l u → w'.ownsRow w.heap.size 101 2 v2 u.length (pcs (pkP l u u.length)) → RP (.returned (.tuple #[v2, .int .i64 0])) (w'.setCell ⟨g, 0, none⟩ (.int .i32 0))) := fun w' v2 vn hm ht hA hF ho => by
    rw [← hRP]
    refine ⟨0, pkP l u u.length, _, vn, _, rfl, .inr (.inr ⟨rfl, hA, hF, rfl, rfl⟩), ?_, hm.lock 0, ht.set 0 _⟩
    rw [pkP_len]
    exact own_set ho (fun e => by have := own_freshB ho _ e; have := h.lt; omega) 0 _
  replace hRP := hid hRP
  obtain ⟨i0, hi0, hz0, hz1, hz2⟩ := info_parts info2i
  have hll := (good_facts hG).1
  have hfl := hu.len
  have hml := hu.max
  have lg := h.lt
  have hpk := hid (fun hA hF k (hk : k < u.length) => pk_put (u := u) hG hA hF (k := k) hk)
  have hpg := hid (fun hA hF k (hk : k ≤ u.length) => pk_good (u := u) hG hA hF (k := k) hk)
  have hkl := hid (fun k => pkK_len l u k)
  have hvp : Hid (v.ownBlock ≠ some w.heap.size) := fun e => by have := (h.own.lt _ e).2; omega
  have ha := hid (h.ext ((Ext.refl w).alloc_right (.cells #[.pointer (some ⟨g, 0, none⟩)] 28)))
  have cp : (w.alloc (.cells #[.pointer (some ⟨g, 0, none⟩)] 28)).cell? ⟨w.heap.size, 0, none⟩ = some (.pointer (some ⟨g, 0, none⟩)) := by rw [Lib.cell_of_heap (heap_alloc_new w _)]; rfl
  have hua := hid (hu.ext ((Ext.refl w).alloc_right (.cells #[.pointer (some ⟨g, 0, none⟩)] 28)))
  have m0 := hid ((MT.refl g v w).right ((Ext.refl w).alloc_right (.cells #[.pointer (some ⟨g, 0, none⟩)] 28)))
  have hxa := hid ((Ext.refl w).alloc_right (.cells #[.pointer (some ⟨g, 0, none⟩)] 28))
  clear h hu hG
  go_enter_defers Try.func30, Try.ntmps30
  go_upto_region 1 with fail
  generalize w.alloc (.cells #[.pointer (some ⟨g, 0, none⟩)] 28) = wa at *
  obtain ⟨p, hp⟩ : ∃ p, p = w.heap.size := ⟨_, rfl⟩
  have hpg' : g ≠ p := by omega
  rw [← hp] at cp hvp
  simp only [← hp]
  replace hp := hid hp
  have c0 := ha.out.c0
  have f0 := ha.out.free 0
  have h1 := hid (ha.out.lock 1)
  replace m0 := hid (m0.out.set 0 (.int .i32 1))
  have cp1 := set_keep (p := ⟨g, 0, none⟩) (v := .int .i32 1) cp (fun e => hpg' (congrArg Addr.block e))
  have hu1 : Hid (RdI (wa.setCell ⟨g, 0, none⟩ (.int .i32 1)) A n c u) := by
    have h0 := hua.out
    refine ⟨h0.1, h0.2.1, h0.2.2.1, fun hn => ?_⟩
    obtain ⟨ad, e, hc⟩ := h0.2.2.2 hn
    exact ⟨ad, e, fun j x hx => set_keep (hc j x hx) (fun e2 => hf ad e (by have := congrArg Addr.block e2; rw [block_add] at this; exact this.symm))⟩
  have lpa := World.block_lt_of_cell? wa _ cp
  dsimp only at lpa
  go_wp2_with (go_at_call 40; refine (lock_free muLib ⟨g, 0, none⟩ _ c0 f0).mono ?_; rintro e w' ⟨rfl, rfl⟩)
  clear ha c0 f0 hua hxa cp hf
  generalize (wa.setCell ⟨g, 0, none⟩ (.int .i32 1)) = w1 at *
  have lp1 := World.block_lt_of_cell? w1 _ cp1
  dsimp only at lp1
  have lg1 := h1.out.lt
  go_loopw [25] (fun i wr => ∃ k : Nat, k ≤ n ∧ i = .int .i64 k ∧ Hid (∀ j, j < k → 0 < j → nth u (j - 1) < nth u j) ∧ Hid (Ext w1 wr)) (fun i _ => n - (intOf i).toNat)
  case atStart => exact ⟨0, by omega, rfl, fun j h => by omega, Ext.refl _⟩
  case round =>
    obtain ⟨k, hk, rfl, hasc, hx⟩ := hrel
    by_cases hlt : k < n
    · obtain ⟨ad, rfl, x0⟩ := hu1.out.at_ hlt
      replace x0 := hx.out.cell x0
      have hkk : (k : Int) < (n : Int) := by omega
      by_cases hk0 : k = 0
      · subst hk0
        have x00 := hx.out.cell (hu1.out.cell0 (by omega))
        go_wp2_with fail
        go_roundw
        case rel => exact ⟨1, by omega, by go_num, fun j h h0 => by omega, hx⟩
        case measure => simp [intOf]; omega
      · obtain ⟨m, hkm⟩ : ∃ m, k = m + 1 := ⟨k - 1, by omega⟩
        have xm := hx.out.cell (hu1.out.cells (k := m) (by omega))
        have d0 : 0 < k := by omega
        have hw1 : IntKind.i64.wrap ((k : Int) - 1) = (m : Int) := by rw [IntWalk.i64_in _ (by omega)]; omega
        have hmn : (m : Int) < (n : Int) := by omega
        have hyes := hid (fun h => asc_no (u := u) (k := k) (by omega) (by omega) h)
        rw [show k - 1 = m by omega] at hyes
        have hnx : Hid (nth u m < nth u k → ∀ j, j < k + 1 → 0 < j → nth u (j - 1) < nth u j) := fun h j hj h0 => by
          by_cases hjm : j = k
          · subst hjm; rw [show j - 1 = m by omega]; exact h
          · exact hasc.out j (by omega) h0
        replace hkm := hid hkm
        generalize nth u m = b0 at *
        generalize nth u k = b1 at *
        by_cases hle : b1 ≤ b0
        · have hm2 := hid (h1.out.ext hx.out)
          have hfin := hid (hbad.out 1 wr hm2.out (m0.out.right hx.out) (.inl ⟨rfl, hyes.out hle, rfl, rfl⟩))
          clear hyes hnx hk0 hbad hgood
          have k0 := hid (hm2.out.c0)
          have kf := hid (hm2.out.free 0)
          go_wp2
          refine leaves_cons (f := 41) (args := #[.pointer (some ⟨g, 0, none⟩)]) (by simp) (by simp [go_sem]) ?_
          refine (unlock_deferred muLib ⟨g, 0, none⟩ .returning _ k0.out kf.out).mono ?_
          rintro e u' w'' ⟨rfl, rfl, rfl⟩
          refine ⟨_, results_tmp2 rfl _ _ _, ?_⟩
          exact hfin.out
        · have hnx2 := hid (hnx.out (by omega))
          clear hyes hnx hk0
          go_wp2_with fail
          go_roundw
          case rel => exact ⟨k + 1, by omega, by go_num, hnx2, hx⟩
          case measure => simp [intOf]; omega
    · obtain rfl : k = n := by omega
      have hkn : ¬ (k : Int) < (k : Int) := by omega
      have hA : Hid (AscP u) := asc_yes (fun i hi h0 => hasc.out i (by omega) h0)
      have hIs := hid (fun RP => packHas_rp A k c u 1 size g v l p wr (hu1.out.ext hx.out) (h1.out.ext hx.out) (hx.out.cell cp1) RP)
      clear hasc hlt hk
      go_wp2_with fail
      refine hIs.out _ ?_ ?_
      · intro hF w2 hx2
        replace hF := hid hF
        replace hx2 := hid (hx.out.trans hx2)
        clear hIs
        replace h1 := hid (h1.out.ext hx2.out)
        replace m0 := hid (m0.out.right hx2.out)
        replace cp1 := hx2.out.cell cp1
        replace hu1 := hid (hu1.out.ext hx2.out)
        obtain ⟨Am, cm, rfl, hr⟩ := h1.out.rd
        have hmx := Rd.max hr
        replace hr := hid hr
        have c3 := h1.out.c3
        have c2 := h1.out.c2
        have hw12 := hx2.out.size
        clear hx hx2 hbad
        have lp2 := World.block_lt_of_cell? w2 _ cp1
        dsimp only at lp2
        have lg2 := h1.out.lt
        go_wp2_with fail
        have hmn := hid (MA.new w2 size)
        have hg2 : Hid (w2.heap.size ≤ w2.heap.size) := Nat.le_refl _
        have hx3 := hid ((Ext.refl w2).alloc_right (.cells #[.int .i32 0, .int .u32 0, .int .i64 size, .slice none 0 0] 76))
        generalize hw3 : w2.alloc (.cells #[.int .i32 0, .int .u32 0, .int .i64 size, .slice none 0 0] 76) = w3 at *
        clear hw3
        obtain ⟨g2, hg2e⟩ : ∃ g2, g2 = w2.heap.size := ⟨_, rfl⟩
        rw [← hg2e] at hmn
        replace hg2 : Hid (w2.heap.size ≤ g2) := by unfold Hid; omega
        simp only [← hg2e]
        replace hg2e := hid hg2e
        go_loopw [8, 53] (fun o i wr => ∃ (k' : Nat) (vn : Value), k' ≤ k ∧ i = .int .i64 k' ∧ Hid (MA 0 wr g2 size vn (pkK l u k')) ∧ Hid (∀ j, vn.ownBlock = some j → w2.heap.size ≤ j) ∧ Hid (wr.ownsRow w2.heap.size 101 2 o k' (pcs (pkP l u k'))) ∧ Hid (∀ j, o.ownBlock = some j → j ≠ g2 ∧ vn.ownBlock ≠ some j) ∧ Hid (Ext w2 wr)) (fun _ i _ => k - (intOf i).toNat)
        case atStart => exact ⟨0, _, by omega, rfl, hmn, fun j e => (by cases e), World.ownsRow_nil _ _ _ _, fun j e => (by cases e), hx3⟩
        case round =>
          obtain ⟨k', vn, hk', rfl, hmn, hvn, hown, hap, hx⟩ := hrel
          obtain ⟨Ao, co, rfl, -⟩ := own_form hown.out
          by_cases hlt : k' < k
          · obtain ⟨ad, rfl, z0⟩ := hu1.out.at_ hlt
            replace z0 := hx.out.cell z0
            have hkk : (k' : Int) < (k : Int) := by omega
            have hf2 := hF.out k' (by omega)
            have hfi := findI_ge hf2
            have hF' := hid (fun w (h : MA 1 w g size (.slice Am l.length cm) l) => find_any 1 size g _ l (nth u k') w h)
            rw [hfi] at hF'
            obtain ⟨hz3, hpl, hpb⟩ := hpk.out hA.out hF.out k' (by omega)
            have hpgk := hpg.out hA.out hF.out k' (by omega)
            have hP := hid (fun w (h : MA 0 w g2 size vn (pkK l u k')) => put_any 0 size g2 vn (pkK l u k') (eth l (findN l (nth u k'))).s w h hs1 hs2 hz3 (fun j hj => by have := (good_facts hpgk).2.1 j hj; omega) (good_facts hpgk).2.2.1 (by have := (good_facts hpgk).1; omega) (good_facts hpgk).2.2.2)
            rw [hpl, hpb] at hP
            have hec : Hid (pcs (pkP l u (k' + 1)) = pcs (pkP l u k') ++ [.int .i64 (nth u k'), .int .i64 (endI (pkK l u k'))]) := by unfold Hid; rw [pkP, pcs_append]; rfl
            obtain ⟨am, rfl, -, -, -, y2⟩ := hr.out.at_ hf2
            have la := World.block_lt_of_cell? w2 _ y2
            have hfn : ((findN l (nth u k') : Nat) : Int) < (l.length : Int) := by omega
            have y0 := cp1
            have y1 := c3
            clear hpl hpb hpgk hz3 hfi
            generalize putO (pkK l u k') (needS size (eth l (findN l (nth u k'))).s.size) = po at *
            generalize endI (pkK l u k') = zb at *
            generalize hbm : nth u k' = bm at *
            replace hbm := hid hbm
            generalize findN l bm = fi at *
            generalize (eth l fi).s = z3 at *
            have I0 : (fun w' : World => w'.cell? ⟨p, 0, none⟩ = some (.pointer (some ⟨g, 0, none⟩)) ∧ w'.cell? ⟨g, 3, none⟩ = some (.slice (some am) l.length cm) ∧ w'.cell? ⟨(am.add (fi * 4)).block, (am.add (fi * 4)).off + 3, none⟩ = some (.string z3)) wr.drew := ⟨hx.out.drew_right.cell y0, hx.out.drew_right.cell y1, hx.out.drew_right.cell y2⟩
            clear hpk hpg hgood c2
            go_upto_region 18 with fail
            refine region_J (fun w' : World => w'.cell? ⟨p, 0, none⟩ = some (.pointer (some ⟨g, 0, none⟩)) ∧ w'.cell? ⟨g, 3, none⟩ = some (.slice (some am) l.length cm) ∧ w'.cell? ⟨(am.add (fi * 4)).block, (am.add (fi * 4)).off + 3, none⟩ = some (.string z3)) 17 (by kernel_rfl) ?_
            refine J_takeO 0 (v := ?vc0) rfl (by kernel_rfl) (by kernel_rfl) (by kernel_rfl) (by kernel_rfl) (fun _ _ _ h => h) (Or.inl ⟨by rfl, ?yc0⟩) I0 ?rc0
            case yc0 => (intro w hSw; obtain ⟨_, _, _⟩ := hSw; (go_simp; with_reducible rfl))
            simp only [Act.put, List.getElem_toArray, List.getElem_cons_zero, List.getElem_cons_succ, List.setIfInBounds_toArray, List.set_cons_zero, List.set_cons_succ]
            refine J_takeO 1 (v := ?vc1) rfl (by kernel_rfl) (by kernel_rfl) (by kernel_rfl) (by kernel_rfl) (fun _ _ _ h => h) (Or.inl ⟨by rfl, ?yc1⟩) I0 ?rc1
            case yc1 => (intro w hSw; obtain ⟨_, _, _⟩ := hSw; (go_simp; with_reducible rfl))
            simp only [Act.put, List.getElem_toArray, List.getElem_cons_zero, List.getElem_cons_succ, List.setIfInBounds_toArray, List.set_cons_zero, List.set_cons_succ]
            refine J_takeO 2 (v := ?vc2) rfl (by kernel_rfl) (by kernel_rfl) (by kernel_rfl) (by kernel_rfl) (fun _ _ _ h => h) (Or.inl ⟨by rfl, ?yc2⟩) I0 ?rc2
            case yc2 => (intro w hSw; obtain ⟨_, _, _⟩ := hSw; (go_simp; with_reducible rfl))
            simp only [Act.put, List.getElem_toArray, List.getElem_cons_zero, List.getElem_cons_succ, List.setIfInBounds_toArray, List.set_cons_zero, List.set_cons_succ]
            refine J_takeO 3 (v := ?vc3) rfl (by kernel_rfl) (by kernel_rfl) (by kernel_rfl) (by kernel_rfl) (fun _ _ _ h => h) (Or.inl ⟨by rfl, ?yc3⟩) I0 ?rc3
            case yc3 => (intro w hSw; obtain ⟨_, _, _⟩ := hSw; (go_simp; with_reducible rfl))
            simp only [Act.put, List.getElem_toArray, List.getElem_cons_zero, List.getElem_cons_succ, List.setIfInBounds_toArray, List.set_cons_zero, List.set_cons_succ]
            refine J_takeO 4 (v := ?vc4) rfl (by kernel_rfl) (by kernel_rfl) (by kernel_rfl) (by kernel_rfl) (fun _ _ _ h => h) (Or.inl ⟨by rfl, ?yc4⟩) I0 ?rc4
            case yc4 => (intro w hSw; obtain ⟨_, _, _⟩ := hSw; (go_simp; with_reducible rfl))
            simp only [Act.put, List.getElem_toArray, List.getElem_cons_zero, List.getElem_cons_succ, List.setIfInBounds_toArray, List.set_cons_zero, List.set_cons_succ]
            refine J_takeO 5 (v := ?vc5) rfl (by kernel_rfl) (by kernel_rfl) (by kernel_rfl) (by kernel_rfl) (fun _ _ _ h => h) (Or.inl ⟨by rfl, ?yc5⟩) I0 ?rc5
            case yc5 => (intro w hSw; obtain ⟨_, _, _⟩ := hSw; (go_simp; with_reducible rfl))
            simp only [Act.put, List.getElem_toArray, List.getElem_cons_zero, List.getElem_cons_succ, List.setIfInBounds_toArray, List.set_cons_zero, List.set_cons_succ]
            refine J_takeO 6 (v := ?vc6) rfl (by kernel_rfl) (by kernel_rfl) (by kernel_rfl) (by kernel_rfl) (fun _ _ _ h => h) (Or.inl ⟨by rfl, ?yc6⟩) I0 ?rc6
            case yc6 => (intro w hSw; obtain ⟨_, _, _⟩ := hSw; (go_simp; with_reducible rfl))
            simp only [Act.put, List.getElem_toArray, List.getElem_cons_zero, List.getElem_cons_succ, List.setIfInBounds_toArray, List.set_cons_zero, List.set_cons_succ]
            refine J_one 7 rfl (by kernel_rfl) (fun K hK => ?_)
            go_simp
            refine (hF'.out _ (h1.out.ext (hx.out.drew_right))).mono ?_
            rintro e w5 ⟨rfl, hx5⟩
            have hx25 : Hid (Ext w2 w5) := hx.out.drew_right.trans hx5
            have I5 : (fun w' : World => w'.cell? ⟨p, 0, none⟩ = some (.pointer (some ⟨g, 0, none⟩)) ∧ w'.cell? ⟨g, 3, none⟩ = some (.slice (some am) l.length cm) ∧ w'.cell? ⟨(am.add (fi * 4)).block, (am.add (fi * 4)).off + 3, none⟩ = some (.string z3)) w5 := ⟨hx5.cell I0.1, hx5.cell I0.2.1, hx5.cell I0.2.2⟩
            have hn5 := hid (hmn.out.ext ((Ext.refl wr).drew_right.trans hx5))
            have ho5 := hid (((Ext.refl wr).drew_right.trans hx5).own hown.out)
            clear hx5
            refine hK _ _ ⟨fun _ => I5, ?_⟩
            clear hK K
            try simp only [Act.put, List.getElem_toArray, List.getElem_cons_zero, List.getElem_cons_succ, List.setIfInBounds_toArray, List.set_cons_zero, List.set_cons_succ]
            refine J_one 8 rfl (by kernel_rfl) (fun K hK => ?_)
            go_simp
            refine hK _ _ ⟨fun _ => I5, ?_⟩
            clear hK K
            try simp only [Act.put, List.setIfInBounds_toArray, List.set_cons_zero, List.set_cons_succ]
            refine J_one 9 rfl (by kernel_rfl) (fun K hK => ?_)
            go_simp
            refine hK _ _ ⟨fun _ => I5, ?_⟩
            clear hK K
            try simp only [Act.put, List.setIfInBounds_toArray, List.set_cons_zero, List.set_cons_succ]
            refine J_one 10 rfl (by kernel_rfl) (fun K hK => ?_)
            go_simp
            refine hK _ _ ⟨fun _ => I5, ?_⟩
            clear hK K
            try simp only [Act.put, List.setIfInBounds_toArray, List.set_cons_zero, List.set_cons_succ]
            refine J_one 11 rfl (by kernel_rfl) (fun K hK => ?_)
            go_simp
            refine (hP.out _ hn5.out).mono ?_
            rintro e w6 ⟨rfl, vn', hn6, ht6⟩
            have hx6 : Hid (Ext w2 w6) := ht6.extF hx25.out hg2.out hvn.out
            have I6 : (fun w' : World => w'.cell? ⟨p, 0, none⟩ = some (.pointer (some ⟨g, 0, none⟩)) ∧ w'.cell? ⟨g, 3, none⟩ = some (.slice (some am) l.length cm) ∧ w'.cell? ⟨(am.add (fi * 4)).block, (am.add (fi * 4)).off + 3, none⟩ = some (.string z3)) w6 := ⟨hx6.out.cell y0, hx6.out.cell y1, hx6.out.cell y2⟩
            have ho6 := hid (ht6.rowG ho5.out (fun e => (hap.out _ e).1 rfl) (fun j e => (hap.out j e).2))
            have hvn6 : Hid (∀ j, vn'.ownBlock = some j → w2.heap.size ≤ j) := fun j e => by
              rcases ht6.2.2.2.2.2 with h | h
              · exact hvn.out j (h ▸ e)
              · exact Nat.le_trans hx25.out.size (h j e)
            have hap6 : Hid (∀ j, (Value.slice Ao k' co).ownBlock = some j → j ≠ g2 ∧ vn'.ownBlock ≠ some j) := fun j e => ⟨(hap.out j e).1, ht6.own (ho5.out.lt j e).2 (hap.out j e).2⟩
            replace hn6 := hid hn6
            clear hn5 ht6 I5 hx25 ho5
            refine hK _ _ ⟨fun _ => I6, ?_⟩
            clear hK K
            try simp only [Act.put, List.getElem_toArray, List.getElem_cons_zero, List.getElem_cons_succ, List.setIfInBounds_toArray, List.set_cons_zero, List.set_cons_succ]
            refine J_one 12 rfl (by kernel_rfl) (fun K hK => ?_)
            go_simp
            refine hK _ _ ⟨fun _ => I6, ?_⟩
            clear hK K
            try simp only [Act.put, List.setIfInBounds_toArray, List.set_cons_zero, List.set_cons_succ]
            refine J_takeO 13 (v := ?vd13) rfl (by kernel_rfl) (by kernel_rfl) (by kernel_rfl) (by kernel_rfl) (fun _ _ _ h => h) (Or.inl ⟨by rfl, ?yd13⟩) I6 ?rd13
            case yd13 => (intro w hSw; obtain ⟨_, _, _⟩ := hSw; (go_simp; with_reducible rfl))
            simp only [Act.put, List.getElem_toArray, List.getElem_cons_zero, List.getElem_cons_succ, List.setIfInBounds_toArray, List.set_cons_zero, List.set_cons_succ]
            refine J_takeO 14 (v := ?vd14) rfl (by kernel_rfl) (by kernel_rfl) (by kernel_rfl) (by kernel_rfl) (fun _ _ _ h => h) (Or.inl ⟨by rfl, ?yd14⟩) I6 ?rd14
            case yd14 => (intro w hSw; obtain ⟨_, _, _⟩ := hSw; (go_simp; with_reducible rfl))
            simp only [Act.put, List.getElem_toArray, List.getElem_cons_zero, List.getElem_cons_succ, List.setIfInBounds_toArray, List.set_cons_zero, List.set_cons_succ]
            refine J_takeO 15 (v := ?vd15) rfl (by kernel_rfl) (by kernel_rfl) (by kernel_rfl) (by kernel_rfl) (fun _ _ _ h => h) (Or.inl ⟨by rfl, ?yd15⟩) I6 ?rd15
            case yd15 => (intro w hSw; obtain ⟨_, _, _⟩ := hSw; (go_simp; with_reducible rfl))
            simp only [Act.put, List.getElem_toArray, List.getElem_cons_zero, List.getElem_cons_succ, List.setIfInBounds_toArray, List.set_cons_zero, List.set_cons_succ]
            refine J_one 16 rfl (by kernel_rfl) (fun K hK => ?_)
            go_simp
            refine hK _ _ ⟨fun _ => I6, ?_⟩
            clear hK K
            try simp only [Act.put, List.setIfInBounds_toArray, List.set_cons_zero, List.set_cons_succ]
            refine J_done (by kernel_rfl) (OnlyOn.normal ?_)
            go_wp2_with (at_builtin; refine wpList_push _ rfl _ _ 57 rfl w2.heap.size 101 i0 _ 2 16 Try.underlying57 hi0 hz0 hz1 hz2 rfl (by decide) _ _ _ rfl ho6.out [.int .i64 bm, .int .i64 zb] (by simp [Act.eval]) rfl (by simp [Value.oneCell']) (by unfold maxLen; omega) (by omega) hx6.out.size ?_)
            intro ga ca w7 own7 hg7 hga
            have hx7 : Hid (Ext w2 w7) := ext_push hx6.out ho6.out hg7
            have hn7 := hid (hn6.out.grown hg7 (fun e => (hap6.out _ e).1 rfl) (fun j e e2 => (hap6.out j e2).2 e))
            have hap7 : Hid (∀ j, (Value.slice (some ⟨ga, 0, none⟩) (k' + 1) ca).ownBlock = some j → j ≠ g2 ∧ vn'.ownBlock ≠ some j) := fun j e => by
              obtain rfl : ga = j := by simpa [Value.ownBlock] using e
              rcases hga with h | h
              · exact hap6.out _ h
              · exact ⟨by have := hn6.out.lt; omega, fun e => by have := (hn6.out.own.lt _ e).2; omega⟩
            rw [← hec.out] at own7
            replace own7 := hid own7
            clear hg7 hga hap6 hn6 ho6
            go_wp2_with fail
            go_roundw
            case rel => exact ⟨k' + 1, vn', by omega, by go_num, hn7, hvn6, own7, hap7, hx7⟩
            case measure => simp [intOf]; omega
          · obtain rfl : k' = k := by omega
            have hkn2 : ¬ (k' : Int) < (k' : Int) := by omega
            have h1x := hid (h1.out.ext (hx.out.drew_right))
            have hgg2 : g ≠ g2 := by have := hg2.out; omega
            obtain ⟨Av, cv, rfl, -⟩ := own_form hmn.out.own
            have hMx : Hid (MA 1 (wr.drew.setCell ⟨g, 3, none⟩ (.slice Av (pkK l u k').length cv)) g size (.slice Av (pkK l u k').length cv) (pkK l u u.length)) := h1x.out.store (by rw [hfl]; exact (hmn.out.ext (Ext.refl wr).drew_right).own) (fun e => by have := hvn.out _ e; omega)
            have hmt := hid (((m0.out.right (hx.out.drew_right)).set 3 (.slice Av (pkK l u k').length cv)).as (fun j e => Nat.le_trans m0.out.size (hvn.out j e)))
            have hox : Hid ((wr.drew.setCell ⟨g, 3, none⟩ (.slice Av (pkK l u k').length cv)).ownsRow w.heap.size 101 2 (.slice Ao k' co) u.length (pcs (pkP l u u.length))) := by
              have h0 : wr.drew.ownsRow w.heap.size 101 2 (.slice Ao k' co) u.length (pcs (pkP l u u.length)) := by rw [hfl]; exact own_baseK ((Ext.refl wr).drew_right.own hown.out) m0.out.size
              exact own_set h0 (fun e => by have := own_freshB hown.out _ e; omega) 3 _
            have hfin := hid (hgood.out _ _ (.slice Av (pkK l u k').length cv) hMx.out hmt.out hA.out hF.out hox.out)
            have y0 := hx.out.drew_right.cell cp1
            have y1 := (hmn.out.ext (Ext.refl wr).drew_right).c3
            have f3 := h1x.out.free 3
            have yc3 := h1x.out.c3
            have I0 : (fun w' : World => w'.cell? ⟨p, 0, none⟩ = some (.pointer (some ⟨g, 0, none⟩)) ∧ w'.cell? ⟨g2, 3, none⟩ = some (.slice Av (pkK l u k').length cv)) wr.drew := ⟨y0, y1⟩
            clear hpk hpg hgood c2
            go_upto_region 21 with fail
            refine region_J (fun w' : World => w'.cell? ⟨p, 0, none⟩ = some (.pointer (some ⟨g, 0, none⟩)) ∧ w'.cell? ⟨g2, 3, none⟩ = some (.slice Av (pkK l u k').length cv)) 8 (by kernel_rfl) ?_
            refine J_takeO 0 (v := ?ve0) rfl (by kernel_rfl) (by kernel_rfl) (by kernel_rfl) (by kernel_rfl) (fun _ _ _ h => h) (Or.inl ⟨by rfl, ?ye0⟩) I0 ?re0
            case ye0 => (intro w hSw; obtain ⟨_, _⟩ := hSw; (go_simp; with_reducible rfl))
            simp only [Act.put, List.getElem_toArray, List.getElem_cons_zero, List.getElem_cons_succ, List.setIfInBounds_toArray, List.set_cons_zero, List.set_cons_succ]
            refine J_takeO 1 (v := ?ve1) rfl (by kernel_rfl) (by kernel_rfl) (by kernel_rfl) (by kernel_rfl) (fun _ _ _ h => h) (Or.inl ⟨by rfl, ?ye1⟩) I0 ?re1
            case ye1 => (intro w hSw; obtain ⟨_, _⟩ := hSw; (go_simp; with_reducible rfl))
            simp only [Act.put, List.getElem_toArray, List.getElem_cons_zero, List.getElem_cons_succ, List.setIfInBounds_toArray, List.set_cons_zero, List.set_cons_succ]
            refine J_takeO 2 (v := ?ve2) rfl (by kernel_rfl) (by kernel_rfl) (by kernel_rfl) (by kernel_rfl) (fun _ _ _ h => h) (Or.inl ⟨by rfl, ?ye2⟩) I0 ?re2
            case ye2 => (intro w hSw; obtain ⟨_, _⟩ := hSw; (go_simp; with_reducible rfl))
            simp only [Act.put, List.getElem_toArray, List.getElem_cons_zero, List.getElem_cons_succ, List.setIfInBounds_toArray, List.set_cons_zero, List.set_cons_succ]
            refine J_takeO 3 (v := ?ve3) rfl (by kernel_rfl) (by kernel_rfl) (by kernel_rfl) (by kernel_rfl) (fun _ _ _ h => h) (Or.inl ⟨by rfl, ?ye3⟩) I0 ?re3
            case ye3 => (intro w hSw; obtain ⟨_, _⟩ := hSw; (go_simp; with_reducible rfl))
            simp only [Act.put, List.getElem_toArray, List.getElem_cons_zero, List.getElem_cons_succ, List.setIfInBounds_toArray, List.set_cons_zero, List.set_cons_succ]
            refine J_takeO 4 (v := ?ve4) rfl (by kernel_rfl) (by kernel_rfl) (by kernel_rfl) (by kernel_rfl) (fun _ _ _ h => h) (Or.inl ⟨by rfl, ?ye4⟩) I0 ?re4
            case ye4 => (intro w hSw; obtain ⟨_, _⟩ := hSw; (go_simp; with_reducible rfl))
            simp only [Act.put, List.getElem_toArray, List.getElem_cons_zero, List.getElem_cons_succ, List.setIfInBounds_toArray, List.set_cons_zero, List.set_cons_succ]
            refine J_takeO 5 (v := ?ve5) rfl (by kernel_rfl) (by kernel_rfl) (by kernel_rfl) (by kernel_rfl) (fun _ _ _ h => h) (Or.inl ⟨by rfl, ?ye5⟩) I0 ?re5
            case ye5 => (intro w hSw; obtain ⟨_, _⟩ := hSw; (go_simp; with_reducible rfl))
            simp only [Act.put, List.getElem_toArray, List.getElem_cons_zero, List.getElem_cons_succ, List.setIfInBounds_toArray, List.set_cons_zero, List.set_cons_succ]
            refine J_takeO 6 (v := ?ve6) rfl (by kernel_rfl) (by kernel_rfl) (by kernel_rfl) (by kernel_rfl) (fun _ _ _ h => h) (Or.inl ⟨by rfl, ?ye6⟩) I0 ?re6
            case ye6 => (intro w hSw; obtain ⟨_, _⟩ := hSw; (go_simp; with_reducible rfl))
            simp only [Act.put, List.getElem_toArray, List.getElem_cons_zero, List.getElem_cons_succ, List.setIfInBounds_toArray, List.set_cons_zero, List.set_cons_succ]
            refine J_one 7 rfl (by kernel_rfl) (fun K hK => ?_)
            go_simp
            have I1 : (fun w' : World => w'.cell? ⟨p, 0, none⟩ = some (.pointer (some ⟨g, 0, none⟩)) ∧ w'.cell? ⟨g2, 3, none⟩ = some (.slice Av (pkK l u k').length cv)) (wr.drew.setCell ⟨g, 3, none⟩ (.slice Av (pkK l u k').length cv)) := ⟨set_keep I0.1 (fun e => hpg' (congrArg Addr.block e)), set_keep I0.2 (fun e => hgg2 (congrArg Addr.block e))⟩
            refine hK _ _ ⟨fun _ => I1, ?_⟩
            clear hK K
            try simp only [Act.put, List.getElem_toArray, List.getElem_cons_zero, List.getElem_cons_succ, List.setIfInBounds_toArray, List.set_cons_zero, List.set_cons_succ]
            refine J_done (by kernel_rfl) (OnlyOn.normal ?_)
            have k0 := hid (hMx.out.c0)
            have kf := hid (hMx.out.free 0)
            go_wp2
            refine leaves_cons (f := 41) (args := #[.pointer (some ⟨g, 0, none⟩)]) (by simp) (by simp [go_sem]) ?_
            refine (unlock_deferred muLib ⟨g, 0, none⟩ .returning _ k0.out kf.out).mono ?_
            rintro e u' w'' ⟨rfl, rfl, rfl⟩
            refine ⟨_, results_tmp2 rfl _ _ _, ?_⟩
            exact hfin.out
      · intro hF w2 hx2
        replace hx2 := hid (hx.out.trans hx2)
        have hm2 := hid (h1.out.ext hx2.out)
        have hfin := hid (hbad.out 4 w2 hm2.out (m0.out.right hx2.out) (.inr (.inl ⟨rfl, hA.out, hF, rfl, rfl⟩)))
        clear hIs hbad hgood
        have k0 := hid (hm2.out.c0)
        have kf := hid (hm2.out.free 0)
        go_wp2
        refine leaves_cons (f := 41) (args := #[.pointer (some ⟨g, 0, none⟩)]) (by simp) (by simp [go_sem]) ?_
        refine (unlock_deferred muLib ⟨g, 0, none⟩ .returning _ k0.out kf.out).mono ?_
        rintro e u' w'' ⟨rfl, rfl, rfl⟩
        refine ⟨_, results_tmp2 rfl _ _ _, ?_⟩
        exact hfin.out
end Go.Proofs.Ytcgjhloiokpicaa
