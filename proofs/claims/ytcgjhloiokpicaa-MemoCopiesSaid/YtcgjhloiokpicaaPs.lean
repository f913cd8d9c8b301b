/-
  Pack of the reference.
-/
import Derived.Test.YtcgjhloiokpicaaPq
import Derived.Test.YtcgjhloiokpicaaOl
namespace Go.Proofs.Ytcgjhloiokpicaa
open Go.RowKit Go.Shelf
set_option linter.unusedVariables false
set_option linter.unusedSimpArgs false
theorem info2i : (Try.prog.info? 101).map (fun i => (i.zero, i.size, i.bytes)) = some (some (.agg #[.int .i64 0, .int .i64 0]), 2, 16) := by kernel_rfl
theorem pkK_cells (l : List En) (u : List Int) (k : Nat) (h : (eth l (findN l (nth u k))).kind = 1) : rents (pkK l u (k + 1)) = rents (pkK l u k) ++ rcells (eth l (findN l (nth u k))) := by
  rw [pkK, rents_append]
  congr 1
  unfold rents rcells pkE
  rw [h]
  simp [rents]
set_option maxRecDepth 100000 in
set_option maxHeartbeats 4000000 in
theorem rPack_any (size : Int) (r : Nat) (v : Value) (l : List En) (A : Option Addr) (n c : Nat) (u : List Int) (w : World) (h : RA w r size v l) (hG : Good size l) (hu : RdI w A n c u) (hf : ∀ ad, A = some ad → ad.block ≠ r) (hn : n ≤ 5000) :
    Calls Try.prog 50 #[.pointer (some ⟨r, 0, none⟩), .slice A n c] w fun e w' => ∃ (k : Int) (ps : List (Int × Int)) (v2 v' : Value) (l' : List En), e = .returned (.tuple #[v2, .int .i64 k]) ∧ PackR l u k ps l' ∧ w'.ownsRow w.heap.size 101 2 v2 ps.length (pcs ps) ∧ RA w' r size v' l' ∧ RT r v v' w w' := by
  generalize hRP : (fun (e : Ending) (w' : World) => ∃ (k : Int) (ps : List (Int × Int)) (v2 v' : Value) (l' : List En), e = .returned (.tuple #[v2, .int .i64 k]) ∧ PackR l u k ps l' ∧ w'.ownsRow w.heap.size 101 2 v2 ps.length (pcs ps) ∧ RA w' r size v' l' ∧ RT r v v' w w') = RP
  have hbad : Hid (∀ (k : Int) w', Ext w w' → PackR l u k [] l → RP (.returned (.tuple #[.slice none 0 0, .int .i64 k])) w') := fun k w' hx hp => by
    rw [← hRP]
    exact ⟨k, [], _, v, l, rfl, hp, World.ownsRow_nil _ _ _ _, h.ext hx, (RT.refl r v w).right hx⟩
  have hgood : Hid (∀ w2 w' (v2 vo : Value), Ext w w2 → (∀ k, vo.ownBlock = some k → w.heap.size ≤ k) → RA (w2.setCell ⟨r, 1, none⟩ vo) r size vo (pkK l u u.length) → AscP u → AllF l u → Ext (w2.setCell ⟨r, 1, none⟩ vo) w' → w'.ownsRow (w2.setCell ⟨r, 1, none⟩ vo).heap.size 101 2 v2 u.length (pcs (pkP l u u.length)) → RP (.returned (.tuple #[v2, .int .i64 0])) w') := fun w2 w' v2 vo hx hv hr hA hF hx2 ho => by
    rw [← hRP]
    have e2 : (w2.setCell ⟨r, 1, none⟩ vo).heap.size = w2.heap.size := by simp
    refine ⟨0, pkP l u u.length, _, vo, _, rfl, .inr (.inr ⟨rfl, hA, hF, rfl, rfl⟩), ?_, hr.ext hx2, ((RT.of hx hv 1 vo).right hx2)⟩
    rw [pkP_len]
    exact own_baseK ho (by rw [e2]; exact hx.size)
  replace hRP := hid hRP
  obtain ⟨i0, hi0, hz0, hz1, hz2⟩ := info_parts infoRe
  obtain ⟨j0, hj0, hy0, hy1, hy2⟩ := info_parts info2i
  have gf := good_facts hG
  have hAt := hid (fun w' (hx : Ext w w') b => at_any size r v l b w' (h.ext hx) hG)
  have c1 := h.c1
  have lg := h.lt
  have hpkb := hid (fun hA hF k (hk : k < u.length) => pk_beg (u := u) hG hA hF (k := k) hk)
  have hbeg := hid (fun hA hF (vo : Value) k w' (hr : RA w' r size vo (pkK l u u.length)) (hk : k ≤ (pkK l u u.length).length) => begin_any size r vo (pkK l u u.length) k w' hr hk (fun j hj => by have := (beg_good (pk_good (u := u) hG hA hF (Nat.le_refl _))).2.2 j hj; omega))
  have hkl := hid (fun k => pkK_len l u k)
  have hpl := hid (fun k => pkP_len l u k)
  have hbd := hid (fun k (hk : k < l.length) => find_is (l := l) (b := nth u k))
  have hfl := hu.len
  have hml := hu.max
  have hll := gf.1
  have hput := hid (fun (w2 : World) (vo : Value) (l' : List En) (hx : Ext w w2) (ho : w2.ownsRow w.heap.size 87 3 vo l'.length (rents l')) => (RA.fresh h hx ho rfl rfl))
  have hne : v.ownBlock ≠ some r := h.ne
  have hr0 := hid h
  obtain ⟨Am, cm, rfl, hr⟩ := h.rd
  have hmx := Rd.max hr
  replace hr := hid hr
  replace hu := hid hu
  clear gf hG h hbd
  go_enter Try.func50, Try.ntmps50
  go_wp2_with fail
  go_loopw [6] (fun i wr => ∃ k : Nat, k ≤ n ∧ i = .int .i64 k ∧ Hid (∀ j, j < k → 0 < j → nth u (j - 1) < nth u j) ∧ Hid (Ext w wr)) (fun i _ => n - (intOf i).toNat)
  case atStart => exact ⟨0, by omega, rfl, fun j h => by omega, Ext.refl _⟩
  case round =>
    obtain ⟨k, hk, rfl, hasc, hx⟩ := hrel
    by_cases hlt : k < n
    · obtain ⟨ad, rfl, x0⟩ := hu.out.at_ hlt
      replace x0 := hx.out.cell x0
      have hkk : (k : Int) < (n : Int) := by omega
      by_cases hk0 : k = 0
      · subst hk0
        go_upto_region 4 with fail
        go_quiet (fail)
        replace hx : Hid (Ext w (wr.drewN nq)) := hx.out.drewN_right nq
        generalize wr.drewN nq = w1 at *
        go_wp2_with fail
        go_roundw
        case rel => exact ⟨1, by omega, by go_num, fun j h h0 => by omega, hx⟩
        case measure => simp [intOf]; omega
      · obtain ⟨m, hkm⟩ : ∃ m, k = m + 1 := ⟨k - 1, by omega⟩
        have xm := hx.out.cell (hu.out.cells (k := m) (by omega))
        have d0 : 0 < k := by omega
        have hw1 : IntKind.i64.wrap ((k : Int) - 1) = (m : Int) := by rw [IntWalk.i64_in _ (by omega)]; omega
        have hmn : (m : Int) < (n : Int) := by omega
        have hyes := hid (fun h => asc_no (u := u) (k := k) (by omega) (by omega) h)
        rw [show k - 1 = m by omega] at hyes
        have hnx : Hid (nth u m < nth u k → ∀ j, j < k + 1 → 0 < j → nth u (j - 1) < nth u j) := fun h j hj h0 => by
          by_cases hjm : j = k
          · subst hjm; rw [show j - 1 = m by omega]; exact h
          · exact hasc.out j (by omega) h0
        replace hkm := hid hkm
        generalize nth u m = b0 at *
        generalize nth u k = b1 at *
        by_cases hle : b1 ≤ b0
        · have hfin := hid (fun w' hx => hbad.out 1 w' hx (.inl ⟨rfl, hyes.out hle, rfl, rfl⟩))
          clear hyes hnx hk0
          go_upto_region 4 with fail
          go_quiet (fail)
          go_wp2
          exact hfin.out _ (hx.out.drewN_right nq)
        · have hnx2 := hid (hnx.out (by omega))
          clear hyes hnx hk0
          go_upto_region 4 with fail
          go_quiet (fail)
          replace hx : Hid (Ext w (wr.drewN nq)) := hx.out.drewN_right nq
          generalize wr.drewN nq = w1 at *
          go_wp2_with fail
          go_roundw
          case rel => exact ⟨k + 1, by omega, by go_num, hnx2, hx⟩
          case measure => simp [intOf]; omega
    · obtain rfl : k = n := by omega
      have hkn : ¬ (k : Int) < (k : Int) := by omega
      have hA : Hid (AscP u) := asc_yes (fun i hi h0 => hasc.out i (by omega) h0)
      have hxa := hx
      clear hasc hx hlt hk
      go_wp2_with fail
      go_loopw [7, 8] (fun vo i wr => ∃ m : Nat, m ≤ k ∧ i = .int .i64 m ∧ Hid (∀ j, j < m → findN l (nth u j) < l.length) ∧ Hid (wr.ownsRow w.heap.size 87 3 vo m (rents (pkK l u m))) ∧ Hid (Ext w wr)) (fun _ i _ => k - (intOf i).toNat)
      case atStart => exact ⟨0, by omega, rfl, fun j h => by omega, World.ownsRow_nil _ _ _ _, hxa⟩
      case round =>
        obtain ⟨m, hm, rfl, hfd, hown, hx⟩ := hrel
        by_cases hlt : m < k
        · obtain ⟨ad, rfl, x0⟩ := hu.out.at_ hlt
          replace x0 := hx.out.cell x0
          have hkk : (m : Int) < (k : Int) := by omega
          have hc1 := hx.out.cell c1
          have hAt2 := hid (hAt.out wr hx.out (nth u m))
          by_cases hf2 : findN l (nth u m) < l.length
          · have hfi := findI_ge hf2
            obtain ⟨hfb, hfk⟩ := find_is hf2
            have hce := hid (pkK_cells l u m hfk)
            obtain ⟨am, rfl, y0, y1, y2⟩ := hr.out.at_ hf2
            replace y0 := hx.out.cell y0
            replace y1 := hx.out.cell y1
            replace y2 := hx.out.cell y2
            have la := World.block_lt_of_cell? wr _ y0
            have d1 : ((eth l (findN l (nth u m))).kind == 0) = false := by rw [hfk]; rfl
            rw [d1] at y1
            have hfd2 : Hid (∀ j, j < m + 1 → findN l (nth u j) < l.length) := fun j hj => by
              by_cases hjm : j = m
              · subst hjm; exact hf2
              · exact hfd.out j (by omega)
            rw [hfi] at hAt2
            have hfn : ((findN l (nth u m) : Nat) : Int) < (l.length : Int) := by omega
            obtain ⟨Ao, co, rfl, -⟩ := own_form hown.out
            unfold rcells at hce
            rw [d1] at hce
            clear hfb hfk d1 hfi hfd
            generalize hbm : nth u m = bm at *
            replace hbm := hid hbm
            generalize findN l bm = fi at *
            generalize (eth l fi).blocks = z at *
            generalize (eth l fi).s = z3 at *
            go_wp2_with fail
            refine hAt2.out.mono ?_
            rintro e w' ⟨rfl, rfl⟩
            go_wp2_with (at_builtin; refine wpList_push _ rfl _ _ 83 rfl w.heap.size 87 i0 _ 3 32 Try.underlying83 hi0 hz0 hz1 hz2 rfl (by decide) _ _ _ rfl hown.out [.int .i64 z, .bool false, .string z3] rfl rfl (by simp [Value.oneCell']) (by unfold maxLen; omega) (by omega) hx.out.size ?_)
            intro g2 d2 w2 own2 hg2 _
            have hx2 : Hid (Ext w w2) := ext_push hx.out hown.out hg2
            rw [← hce.out] at own2
            replace own2 := hid own2
            clear hg2 hown hce hAt2
            go_wp2_with fail
            go_roundw
            case rel => exact ⟨m + 1, by omega, by go_num, hfd2, own2, hx2⟩
            case measure => simp [intOf]; omega
          · have hfi : findI l (nth u m) = -1 := if_neg hf2
            rw [hfi] at hAt2
            have hfin := hid (hbad.out 4 wr hx.out (.inr (.inl ⟨rfl, hA.out, fun h => hf2 (h m (by omega)), rfl, rfl⟩)))
            clear hfi
            generalize nth u m = bm at *
            go_wp2_with fail
            refine hAt2.out.mono ?_
            rintro e w' ⟨rfl, rfl⟩
            go_wp2
            exact hfin.out
        · obtain rfl : m = k := by omega
          have hkn2 : ¬ (m : Int) < (m : Int) := by omega
          have hF : Hid (AllF l u) := fun i hi => hfd.out i (by omega)
          obtain ⟨Ao, co, rfl, -⟩ := own_form hown.out
          have hownU : wr.ownsRow w.heap.size 87 3 (.slice Ao m co) u.length (rents (pkK l u u.length)) := by rw [hfl]; exact hown.out
          have hc1 := hx.out.cell c1
          have hfz := (hr0.out.ext hx.out).free 1
          have hfo := hid (own_freshB hown.out)
          have lgr := World.block_lt_of_cell? wr _ hc1
          dsimp only at lgr
          have hr2 : Hid (RA (wr.setCell ⟨r, 1, none⟩ (.slice Ao m co)) r size (.slice Ao m co) (pkK l u u.length)) := hput.out wr (.slice Ao m co) _ hx.out (by have := hkl.out u.length; rw [this]; exact hownU) |>.1
          have hux : Hid (∀ w', Ext (wr.setCell ⟨r, 1, none⟩ (.slice Ao m co)) w' → RdI w' A m c u) := fun w' hx2 => by
            have h0 := hu.out.ext hx.out
            refine RdI.ext ⟨h0.1, h0.2.1, h0.2.2.1, fun hn => ?_⟩ hx2
            obtain ⟨ad, e, hc⟩ := h0.2.2.2 hn
            exact ⟨ad, e, fun j x hx => set_keep (hc j x hx) (fun e2 => hf ad e (by have := congrArg Addr.block e2; rw [block_add] at this; exact this.symm))⟩
          have hgood2 := hid (fun w' v2 => hgood.out wr w' v2 (.slice Ao m co) hx.out hfo.out hr2.out hA.out hF.out)
          clear hfd hlt hm hAt hbad hgood hput
          go_wp2_with fail
          generalize wr.setCell ⟨r, 1, none⟩ (.slice Ao m co) = w2 at *
          clear hown hownU hc1 hfz hfo lgr hx hxa c1 lg hr
          go_loopw [10, 11] (fun o i wr => ∃ j : Nat, j ≤ m ∧ i = .int .i64 j ∧ Hid (wr.ownsRow w2.heap.size 101 2 o j (pcs (pkP l u j))) ∧ Hid (Ext w2 wr)) (fun _ i _ => m - (intOf i).toNat)
          case atStart => exact ⟨0, by omega, rfl, World.ownsRow_nil _ _ _ _, Ext.refl _⟩
          case round =>
            obtain ⟨j, hj, rfl, hown, hx⟩ := hrel
            obtain ⟨Ap, cp, rfl, -⟩ := own_form hown.out
            by_cases hlt : j < m
            · obtain ⟨ad, rfl, y0⟩ := (hux.out w2 (Ext.refl _)).at_ hlt
              have x0 := hx.out.cell y0
              have hkk : (j : Int) < (m : Int) := by omega
              have hB := hid (fun w' (hx : Ext w2 w') => hbeg.out hA.out hF.out (.slice Ao m co) j w' (hr2.out.ext hx) (by have := hkl.out u.length; omega))
              rw [hpkb.out hA.out hF.out j (by omega)] at hB
              have hec : Hid (pcs (pkP l u (j + 1)) = pcs (pkP l u j) ++ [.int .i64 (nth u j), .int .i64 (endI (pkK l u j))]) := by unfold Hid; rw [pkP, pcs_append]; rfl
              have hown1 : Hid (∀ o, (wr.drew.alloc o).ownsRow w2.heap.size 101 2 (.slice Ap j cp) j (pcs (pkP l u j))) := fun o => (hown.out.alloc o : (wr.alloc o).ownsRow w2.heap.size 101 2 (.slice Ap j cp) j (pcs (pkP l u j)))
              generalize endI (pkK l u j) = zb at *
              generalize nth u j = bm at *
              clear hbeg hpkb hkl hr2 hux hgood2
              go_upto_region 19 with fail
              have I0 : (fun w' : World => w'.cell? (ad.add j) = some (.int .i64 bm)) wr.drew := x0
              have I1 : ∀ o : Obj, (fun w' : World => w'.cell? (ad.add j) = some (.int .i64 bm)) (wr.drew.alloc o) := fun o => ((Ext.refl wr).drew_right.alloc_right o).cell x0
              refine region_J (fun w' : World => w'.cell? (ad.add j) = some (.int .i64 bm)) 12 (by kernel_rfl) ?_
              refine J_takeO 0 (v := ?vc0) rfl (by kernel_rfl) (by kernel_rfl) (by kernel_rfl) (by kernel_rfl) (fun _ _ _ h => h) (Or.inl ⟨by rfl, ?yc0⟩) I0 ?rc0
              case yc0 => (intro w hSw; (go_simp; with_reducible rfl))
              simp only [Act.put, List.getElem_toArray, List.getElem_cons_zero, List.getElem_cons_succ, List.setIfInBounds_toArray, List.set_cons_zero, List.set_cons_succ]
              refine J_takeO 1 (v := ?vc1) rfl (by kernel_rfl) (by kernel_rfl) (by kernel_rfl) (by kernel_rfl) (fun _ _ _ h => h) (Or.inl ⟨by rfl, ?yc1⟩) I0 ?rc1
              case yc1 => (intro w hSw; (go_simp; with_reducible rfl))
              simp only [Act.put, List.getElem_toArray, List.getElem_cons_zero, List.getElem_cons_succ, List.setIfInBounds_toArray, List.set_cons_zero, List.set_cons_succ]
              refine J_takeO 2 (v := ?vc2) rfl (by kernel_rfl) (by kernel_rfl) (by kernel_rfl) (by kernel_rfl) (fun _ _ _ h => h) (Or.inl ⟨by rfl, ?yc2⟩) I0 ?rc2
              case yc2 => (intro w hSw; (go_simp; with_reducible rfl))
              simp only [Act.put, List.getElem_toArray, List.getElem_cons_zero, List.getElem_cons_succ, List.setIfInBounds_toArray, List.set_cons_zero, List.set_cons_succ]
              refine J_takeO 3 (v := ?vc3) rfl (by kernel_rfl) (by kernel_rfl) (by kernel_rfl) (by kernel_rfl) (fun _ _ _ h => h) (Or.inl ⟨by rfl, ?yc3⟩) I0 ?rc3
              case yc3 => (intro w hSw; (go_simp; with_reducible rfl))
              simp only [Act.put, List.getElem_toArray, List.getElem_cons_zero, List.getElem_cons_succ, List.setIfInBounds_toArray, List.set_cons_zero, List.set_cons_succ]
              refine J_takeO 4 (v := ?vc4) rfl (by kernel_rfl) (by kernel_rfl) (by kernel_rfl) (by kernel_rfl) (fun _ _ _ h => h) (Or.inl ⟨by rfl, ?yc4⟩) I0 ?rc4
              case yc4 => (intro w hSw; (go_simp; with_reducible rfl))
              simp only [Act.put, List.getElem_toArray, List.getElem_cons_zero, List.getElem_cons_succ, List.setIfInBounds_toArray, List.set_cons_zero, List.set_cons_succ]
              refine J_takeO 5 (v := ?vc5) rfl (by kernel_rfl) (by kernel_rfl) (by kernel_rfl) (by kernel_rfl) (fun _ _ _ h => h) (Or.inl ⟨by rfl, ?yc5⟩) I0 ?rc5
              case yc5 => (intro w hSw; (go_simp; with_reducible rfl))
              simp only [Act.put, List.getElem_toArray, List.getElem_cons_zero, List.getElem_cons_succ, List.setIfInBounds_toArray, List.set_cons_zero, List.set_cons_succ]
              refine J_takeO 6 (v := ?vc6) rfl (by kernel_rfl) (by kernel_rfl) (by kernel_rfl) (by kernel_rfl) (fun _ _ _ h => h) (Or.inl ⟨by rfl, ?yc6⟩) I0 ?rc6
              case yc6 => (intro w hSw; (go_simp; with_reducible rfl))
              simp only [Act.put, List.getElem_toArray, List.getElem_cons_zero, List.getElem_cons_succ, List.setIfInBounds_toArray, List.set_cons_zero, List.set_cons_succ]
              refine J_one 7 rfl (by kernel_rfl) (fun K hK => ?_)
              go_simp
              refine (hB.out _ (hx.out.drew_right)).mono ?_
              rintro e w' ⟨rfl, rfl⟩
              refine hK _ _ ⟨fun _ => I0, ?_⟩
              clear hK K
              try simp only [Act.put, List.getElem_toArray, List.getElem_cons_zero, List.getElem_cons_succ, List.setIfInBounds_toArray, List.set_cons_zero, List.set_cons_succ]
              refine J_one 8 rfl (by kernel_rfl) (fun K hK => ?_)
              go_simp
              refine hK _ _ ⟨fun _ => I0, ?_⟩
              clear hK K
              try simp only [Act.put, List.setIfInBounds_toArray, List.set_cons_zero, List.set_cons_succ]
              refine J_one 9 rfl (by kernel_rfl) (fun K hK => ?_)
              go_simp
              refine hK _ _ ⟨fun _ => I1 _, ?_⟩
              clear hK K
              try simp only [Act.put, List.setIfInBounds_toArray, List.set_cons_zero, List.set_cons_succ]
              refine J_one 10 rfl (by kernel_rfl) (fun K hK => ?_)
              refine step_append_lies _ rfl _ _ 57 rfl w2.heap.size 101 j0 _ 2 16 Try.underlying57 hj0 hy0 hy1 hy2 rfl (by decide) (.slice Ap j cp) j (pcs (pkP l u j)) (by simp [Act.eval, Act.put]) (hown1.out _) ⟨wr.heap.size, 0, none⟩ 1 1 [.int .i64 bm, .int .i64 zb] (by simp [Act.eval, Act.put]) rfl (World.news_of_block (heap_alloc_new wr.drew _)) (by simp [Value.oneCell']) (by decide) (by unfold maxLen; omega) (by omega) (by have := hx.out.size; simp; omega) (wr.heap.size + 1) (by simp) ?_
              intro ga ca w3 ho3 hgr3 _ _
              have hx3 : Hid (Ext w2 w3) := ext_push ((hx.out.drew_right).alloc_right _) (hown1.out _) hgr3
              have I3 : w3.cell? (ad.add j) = some (.int .i64 bm) := hx3.out.cell y0
              rw [← hec.out] at ho3
              replace ho3 := hid ho3
              clear hgr3
              refine hK _ _ ⟨fun _ => I3, ?_⟩
              clear hK K
              try simp only [Act.put, List.getElem_toArray, List.getElem_cons_zero, List.getElem_cons_succ, List.setIfInBounds_toArray, List.set_cons_zero, List.set_cons_succ]
              refine J_one 11 rfl (by kernel_rfl) (fun K hK => ?_)
              go_simp
              refine hK _ _ ⟨fun _ => I3, ?_⟩
              clear hK K
              try simp only [Act.put, List.setIfInBounds_toArray, List.set_cons_zero, List.set_cons_succ]
              refine J_done (by kernel_rfl) (OnlyOn.normal ?_)
              go_wp2_with fail
              go_roundw
              case rel => exact ⟨j + 1, by omega, by go_num, ho3, hx3⟩
              case measure => simp [intOf]; omega
            · obtain rfl : j = m := by omega
              have hkn3 : ¬ (j : Int) < (j : Int) := by omega
              have hfin := hid (hgood2.out wr _ hx.out (by rw [hfl]; exact hown.out))
              clear hgood2
              go_wp2
              exact hfin.out
end Go.Proofs.Ytcgjhloiokpicaa
