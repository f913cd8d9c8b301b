/-
  The program's wrong and Check.
-/
import Derived.Test.YtpijfiaecicpfaaCb
namespace Go.Proofs.Ytpijfiaecicpfaa
open Go.RowKit Go.Shelf
set_option linter.unusedVariables false
set_option linter.unusedSimpArgs false
set_option maxRecDepth 100000 in
set_option maxHeartbeats 16000000 in
theorem pwrong_any (A : Option Addr) (n c : Nat) (xs : List Nx) (w : World) (hr : RX w A n c xs) : Calls Try.prog 48 #[.agg #[.slice A n c]] w (Give (.int .i64 (wrongX xs)) w) := by
  have hl := hid hr.len
  have hm := RX.max hr
  have hx1 := (Ext.refl w).alloc_right (.cells #[.slice A n c] 37)
  have hb0 := heap_alloc_new w (.cells #[.slice A n c] 37)
  have zb : (w.alloc (.cells #[.slice A n c] 37)).cell? ⟨w.heap.size, 0, none⟩ = some (.slice A n c) := by rw [Lib.cell_of_heap hb0]; rfl
  have lb := World.block_lt_of_cell? _ _ zb
  dsimp only at lb
  replace hr := hid hr
  replace hx1 := hid hx1
  have hW : Hid (∃ W, wrongX xs = W) := ⟨_, rfl⟩
  obtain ⟨W, hW⟩ := hW.out
  rw [hW]
  replace hW := hid hW
  clear hb0
  by_cases h1 : n < 1 ∨ 2400 < n
  · have hw1 : W = 1 := by rw [← hW.out]; exact wX1 (by rw [hl.out]; exact h1)
    subst hw1
    rcases h1 with h1 | h1
    · obtain rfl : n = 0 := by omega
      go_enter Try.func48, Try.ntmps48
      go_wp2
      go_ret
      exact ⟨rfl, hx1.out⟩
    · have h2 : ((n : Int) == 0) = false := by rw [beq_eq_false_iff_ne]; omega
      have h4 : ¬ n = 0 := by omega
      have h3 : (2400 : Int) < (n : Int) := by omega
      go_enter Try.func48, Try.ntmps48
      go_wp2
      go_ret
      exact ⟨rfl, hx1.out⟩
  have c1 : Hid (1 ≤ xs.length ∧ xs.length ≤ 2400) := by have := hl.out; unfold Hid; omega
  have hn0 : ((n : Int) == 0) = false := by rw [beq_eq_false_iff_ne]; omega
  have hn1 : ¬ n = 0 := by omega
  have hn2 : ¬ (2400 : Int) < (n : Int) := by omega
  have hn3 : n ≤ 2400 := by omega
  have hn4 : 0 < n := by omega
  have hH := hid (fun w' (hx : Ext w w') => hasN_any A n c xs w' (hr.out.ext hx) hm.1)
  clear h1
  go_enter Try.func48, Try.ntmps48
  go_upto_region 1 with fail
  obtain ⟨b, hb⟩ : ∃ b, b = w.heap.size := ⟨_, rfl⟩
  rw [← hb] at zb lb
  simp only [← hb]
  replace hb := hid hb
  generalize w.alloc (.cells #[.slice A n c] 37) = w1 at *
  cases hs : cdec (∀ k, k < n → shapeB (xth xs k) = true) with
  | false =>
    have hw1 : W = 2 := by rw [← hW.out]; exact wX2 c1.out (fun h => cdec_not.1 hs (fun k hk => h k (by rw [hl.out]; exact hk)))
    subst hw1
    rw [hs] at hH
    clear hs
    go_wp2_with fail
    refine (hH.out _ hx1.out).mono ?_
    rintro e w2 ⟨rfl, hx2⟩
    go_wp2
    go_ret
    exact ⟨rfl, hx1.out.trans hx2⟩
  | true =>
    have c2 : Hid (shpX xs) := fun j hj => cdec_iff.1 hs j (by rw [← hl.out]; exact hj)
    rw [hs] at hH
    clear hs
    go_wp2_with fail
    refine (hH.out _ hx1.out).mono ?_
    rintro e w2 ⟨rfl, hx2⟩
    have hx := hid (hx1.out.trans hx2)
    replace zb := hx2.cell zb
    replace lb := Nat.lt_of_lt_of_le lb hx2.size
    have h5 : Hid (∀ k, k < n → (xth xs k).kids.length ≤ 5) := fun k hk => by
      have := shape_is (c2.out k (by rw [hl.out]; exact hk))
      omega
    have hC := hid (fun w' (hx' : Ext w w') => pTree_any A n c xs w' (hr.out.ext hx') (by omega) hn3 h5)
    clear hH hx2
    cases ht : treeB xs with
    | false =>
      have hw1 : W = 3 := by rw [← hW.out]; exact wX3 c1.out c2.out ht
      subst hw1
      rw [ht] at hC
      clear ht
      go_wp2_with fail
      refine (hC.out _ hx.out).mono ?_
      rintro e w3 ⟨rfl, hx3⟩
      go_wp2
      go_ret
      exact ⟨rfl, hx.out.trans hx3⟩
    | true =>
      have c3 := hid ht
      rw [ht] at hC
      clear ht
      go_wp2_with fail
      refine (hC.out _ hx.out).mono ?_
      rintro e w3 ⟨rfl, hx3⟩
      replace hx := hid (hx.out.trans hx3)
      replace zb := hx3.cell zb
      replace lb := Nat.lt_of_lt_of_le lb hx3.size
      have hcell : Hid (∀ w', Ext w3 w' → w'.cell? ⟨b, 0, none⟩ = some (.slice A n c) ∧ b < w'.heap.size) := fun w' hx => ⟨hx.cell zb, Nat.lt_of_lt_of_le lb hx.size⟩
      clear hC hx3 zb lb
      go_wp2_with fail
      go_loopw [24] (fun i wr => ∃ k : Nat, k ≤ n ∧ i = .int .i64 k ∧ Hid (∀ j, j < k → leastN xs j ≤ (xth xs j).keys.length) ∧ Hid (Ext w3 wr)) (fun i _ => n - (intOf i).toNat)
      case atStart => exact ⟨0, by omega, rfl, fun j hj => by omega, Ext.refl _⟩
      case round =>
        obtain ⟨k, hk, rfl, hfu, hx4⟩ := hrel
        by_cases hlt : k < n
        · obtain ⟨ad0, A1, c1', A2, c2', A3, c3', rfl, y0, y1, y2, r1, -, r3⟩ := (hr.out.ext (hx.out.trans hx4.out)).at_ hlt
          have m1 := (Rd.max r1).1
          have m3 := (Rd.max r3).1
          have hki : (k : Int) < (n : Int) := by omega
          have hxe := hid (hx4.out.alloc_right (.cells #[.slice A1 (xth xs k).keys.length c1', .slice A2 (xth xs k).recs.length c2', .slice A3 (xth xs k).kids.length c3'] 69))
          have hFl := hid (fun w' => isFull_any A1 A2 A3 _ (xth xs k).recs.length _ c1' c2' c3' k w' m1 m3)
          have hle : Hid ((if k = 0 then min 1 (xth xs k).kids.length else 2) = leastN xs k) := by
            unfold Hid leastN
            by_cases e : k = 0
            · rw [if_pos e, if_pos e, e]
            · rw [if_neg e, if_neg e]
          rw [hle.out] at hFl
          by_cases hfk : leastN xs k ≤ (xth xs k).keys.length
          · rw [decide_eq_true hfk] at hFl
            have hfu2 : Hid (∀ j, j < k + 1 → leastN xs j ≤ (xth xs j).keys.length) := fun j hj => by
              by_cases e : j = k
              · rw [e]; exact hfk
              · exact hfu.out j (by omega)
            clear hle hfk hfu r1 r3
            go_wp2_with fail
            refine (hFl.out _).mono ?_
            rintro e w5 ⟨rfl, hx5⟩
            have hx6 := hid (hxe.out.trans hx5)
            clear hFl hx5 hxe
            go_wp2_with fail
            go_roundw
            case rel => exact ⟨k + 1, by omega, by go_num, hfu2, hx6⟩
            case measure => simp [intOf]; omega
          · rw [decide_eq_false hfk] at hFl
            have hw1 : W = 4 := by rw [← hW.out]; exact wX4 c1.out c2.out c3.out (fun hf => hfk (hf k (by rw [hl.out]; exact hlt)))
            subst hw1
            clear hle hfk hfu r1 r3
            go_wp2_with fail
            refine (hFl.out _).mono ?_
            rintro e w5 ⟨rfl, hx5⟩
            have hx6 := hid (hxe.out.trans hx5)
            clear hFl hx5 hxe
            go_wp2
            go_ret
            exact ⟨rfl, hx.out.trans hx6.out⟩
        · obtain rfl : n = k := by omega
          have c4 : Hid (fullP xs) := fun j hj => hfu.out j (by rw [← hl.out]; exact hj)
          have tp := treeB_iff.1 c3.out
          have hUT := hid (tree_ut tp (by rw [hl.out]; exact hn4))
          have okN : Hid (okP n (allK xs)) := by have := tp.1; rw [hl.out] at this; exact this
          have hsl := hid (sub_le tp (by rw [hl.out]; exact hn4) hUT.out)
          have hxr := hid (hx.out.trans hx4.out)
          have hD := hid (pDepth_any A n c xs okN.out xs.length 0 wr (hr.out.ext hxr.out) hUT.out (by have := hl.out; omega))
          obtain ⟨zb, lb⟩ := hcell.out wr hx4.out
          clear hfu hlt hk tp
          go_wp2_with fail
          refine hD.out.mono ?_
          rintro e w5 ⟨r, rfl, hDP, rfl⟩
          rcases hDP with ⟨hh, rfl, hUD⟩ | ⟨rfl, hnu⟩
          · have c5 : Hid (∃ h, UD xs h 0) := ⟨hh, hUD⟩
            have hr0 : ¬ (hh : Int) < 0 := by omega
            have hLX : Hid (flat hh (btx xs hh 0) = entX xs) := by unfold Hid entX; rw [hX_is hUD]
            have hLb := btx_len c2.out hUD hUT.out
            have hLb2 : (flat hh (btx xs hh 0)).length ≤ 100000 := by have := hsl.out; have := hl.out; omega
            have hMd := hid (made_any n xs okN.out c2.out hh 0 A c wr (hr.out.ext hxr.out) hUD)
            have hSw := hid (btx_shw c2.out hUD)
            have cw6 := hid (wX6 c1.out c2.out c3.out c4.out c5.out)
            have cw7 := hid (wX7 c1.out c2.out c3.out c4.out c5.out)
            have cw0 : Hid ((∀ x ∈ entX xs, okT x = true) → Srt (entX xs) → wrongX xs = 0) := fun h6 h7 => wrong_none.2 ⟨c1.out.1, c1.out.2, c2.out, treeB_iff.1 c3.out, c4.out, c5.out, h6, h7⟩
            rw [hW.out] at cw6 cw7 cw0
            clear hUD hLb hD c5
            go_wp2_with fail
            refine hMd.out.mono ?_
            rintro e w6 ⟨pp, ff, rfl, hTN, hf1, hf0, hx6⟩
            have hAl := hid (all_any hh pp (btx xs hh 0) ff 0 (.slice none 0 0) [] w6 hTN hSw.out (fun a ha => by rw [show ob (.slice none 0 0) a = 0 from if_neg (by intro e; cases e)] at ha; omega) (World.ownsRow_nil _ _ _ _) (Nat.zero_le _) (by rw [List.length_nil, Nat.zero_add]; exact hLb2))
            rw [hLX.out] at hAl hLb2
            clear hTN hf1 hf0 hMd hSw hLX
            generalize entX xs = L at *
            go_wp2_with fail
            refine hAl.out.mono ?_
            rintro e w7 ⟨v, rfl, own7, hG7⟩
            rw [List.nil_append] at own7
            have hx7 : Ext w6 w7 := (Ext.refl w6).trans' hG7.1 (fun a _ => if_neg (by intro e; cases e))
            obtain ⟨Av, cv, rfl, hrv⟩ := own_rd own7
            have hxs := hid (hxr.out.trans (hx6.trans hx7))
            have hLm := (Rd.max hrv).1
            have hE := hid (fun w' (hx : Ext w7 w') => hasE_any Av L.length cv L w' (RdN.ext hrv hx) hLm)
            have hO := hid (fun w' (hx : Ext w7 w') => isOrdered_any Av L.length cv L w' (RdN.ext hrv hx) (by omega))
            have hall : Hid ((∀ k, k < L.length → okT (tth L k) = true) ↔ ∀ x ∈ L, okT x = true) := by
              constructor
              · intro h x hx
                obtain ⟨j, hj, rfl⟩ := List.mem_iff_getElem.1 hx
                rw [← tth_get hj]
                exact h j hj
              · intro h k hk
                exact h _ (by rw [tth_get hk]; exact List.getElem_mem _)
            clear hAl own7 hG7 hx7 hx6 hrv hxr hx4 hx zb lb hcell
            cases h6 : cdec (∀ k, k < L.length → okT (tth L k) = true) with
            | false =>
              have hw1 : W = 6 := cw6.out (fun h => cdec_not.1 h6 (hall.out.2 h))
              subst hw1
              rw [h6] at hE
              clear h6
              go_wp2_with fail
              refine (hE.out _ (Ext.refl _)).mono ?_
              rintro e w8 ⟨rfl, hx8⟩
              go_wp2
              go_ret
              exact ⟨rfl, hxs.out.trans hx8⟩
            | true =>
              have c6 := hid (hall.out.1 (cdec_iff.1 h6))
              rw [h6] at hE
              clear h6
              cases h7 : cdec (Srt L) with
              | false =>
                have hw1 : W = 7 := cw7.out c6.out (cdec_not.1 h7)
                subst hw1
                rw [h7] at hO
                clear h7
                go_wp2_with fail
                refine (hE.out _ (Ext.refl _)).mono ?_
                rintro e w8 ⟨rfl, hx8⟩
                go_wp2_with fail
                refine (hO.out _ hx8).mono ?_
                rintro e w9 ⟨rfl, hx9⟩
                go_wp2
                go_ret
                exact ⟨rfl, hxs.out.trans (hx8.trans hx9)⟩
              | true =>
                have hw1 : W = 0 := cw0.out c6.out (cdec_iff.1 h7)
                subst hw1
                rw [h7] at hO
                clear h7
                go_wp2_with fail
                refine (hE.out _ (Ext.refl _)).mono ?_
                rintro e w8 ⟨rfl, hx8⟩
                go_wp2_with fail
                refine (hO.out _ hx8).mono ?_
                rintro e w9 ⟨rfl, hx9⟩
                go_wp2
                go_ret
                exact ⟨rfl, hxs.out.trans (hx8.trans hx9)⟩
          · have hw1 : W = 5 := by rw [← hW.out]; exact wX5 c1.out c2.out c3.out c4.out (fun ⟨h, hh⟩ => hnu h hh)
            subst hw1
            clear hD
            go_wp2
            go_ret
            exact ⟨rfl, hxr.out⟩
set_option maxRecDepth 100000 in
set_option maxHeartbeats 4000000 in
theorem pCheck_any (A : Option Addr) (n c : Nat) (xs : List Nx) (w : World) (hr : RX w A n c xs) : Calls Try.prog 15 #[.agg #[.slice A n c]] w (Give (.tuple #[.int .i64 (wrongX xs), .int .i64 (chkE xs)]) w) := by
  have hx1 := hid ((Ext.refl w).alloc_right (.cells #[.slice A n c] 37))
  have hC := hid (fun w' (hx : Ext w w') => pwrong_any A n c xs w' (hr.ext hx))
  have hrg := wrong_rng xs
  have hE : Hid (chkE xs = if wrongX xs = 0 then 0 else 11) := rfl
  generalize chkE xs = E at *
  generalize wrongX xs = W at *
  by_cases h0 : W = 0
  · subst h0
    have hE0 : E = 0 := by rw [hE.out, if_pos rfl]
    subst hE0
    clear hE hr
    go_enter Try.func15, Try.ntmps15
    go_wp2_with fail
    refine (hC.out _ hx1.out).mono ?_
    rintro e w2 ⟨rfl, hx2⟩
    go_wp2
    go_ret2
    exact ⟨rfl, hx1.out.trans hx2⟩
  · have hE0 : E = 11 := by rw [hE.out, if_neg h0]
    subst hE0
    have h1 : 0 < W := by omega
    clear hE hr h0
    go_enter Try.func15, Try.ntmps15
    go_wp2_with fail
    refine (hC.out _ hx1.out).mono ?_
    rintro e w2 ⟨rfl, hx2⟩
    go_wp2
    go_ret2
    exact ⟨rfl, hx1.out.trans hx2⟩
end Go.Proofs.Ytpijfiaecicpfaa
