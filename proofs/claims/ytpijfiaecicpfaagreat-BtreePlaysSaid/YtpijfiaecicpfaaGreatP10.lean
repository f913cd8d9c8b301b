/-
  The reference's Entries, wrong and Check; What 'known' of the statements asks.
-/
import Derived.Test.YtpijfiaecicpfaaGreatP9
import Derived.Test.YtpijfiaecicpfaaGreatP7
namespace Go.Proofs.YtpijfiaecicpfaaGreat
open Go.RowKit Go.Shelf
set_option linter.unusedVariables false
set_option linter.unusedSimpArgs false
set_option maxRecDepth 100000 in
set_option maxHeartbeats 4000000 in
theorem rEntries_any (n : Nat) (xs : List Nx) (hok : okP n (allK xs)) (hs : shpX xs) : ∀ (h k : Nat) (A : Option Addr) (c : Nat) (w : World), RX w A n c xs → UD xs h k → (flat h (btx xs h k)).length ≤ 100000 → Calls Tryz.prog 62 #[.agg #[.slice A n c], .int .i64 k] w (GiveE (flat h (btx xs h k)) w) := by
  intro h
  induction h with
  | zero =>
    intro k A c w hr hU hb
    have hl := hr.len
    have hk0 : (xth xs k).kids.length = 0 := by rw [← kd_len, hU.2]; rfl
    have hE : gE (ents (xth xs k)) (fun _ => []) ((ents (xth xs k)).length + 1) = flat 0 (btx xs 0 k) := gE_leaf (fun _ => rfl)
    rw [← hE]
    exact rEnt_step A n c xs k (fun _ => []) w hr (by have := hU.1; omega) (hs k hU.1) (fun q hq => by omega) (fun _ _ => rfl) (by unfold Hid; rw [hE]; exact hb)
  | succ h ih =>
    intro k A c w hr hU hb
    have hl := hr.len
    have s1 := shape_is (hs k hU.1)
    have hsh := btx_shw hs hU
    have okA : okP xs.length (allK xs) := by rw [hl]; exact hok
    have hE : gE (ents (xth xs k)) (fun q => flat h (btx xs h (kdn xs k q))) ((ents (xth xs k)).length + 1) = flat (h + 1) (btx xs (h + 1) k) := gE_node hsh.1 (fun i K hK => by
      rw [List.getElem?_map] at hK
      cases e : (kd xs k)[i]? with
      | none => rw [e] at hK; cases hK
      | some u =>
        rw [e] at hK
        injection hK with hK
        rw [← hK, show kdn xs k i = u by simp [kdn, List.getD, e]])
    have hk0 : (xth xs k).kids.length ≠ 0 := fun e => hU.2.1 (List.eq_nil_of_length_eq_zero (by rw [kd_len]; exact e))
    rw [← hE]
    refine rEnt_step A n c xs k _ w hr (by have := hU.1; omega) (hs k hU.1) (fun q hq w' hx => ?_) (fun e => absurd e hk0) (by unfold Hid; rw [hE]; exact hb)
    obtain ⟨e1, e2, e3⟩ := kdn_is okA hq
    rw [e1]
    refine ih _ A c w' (hr.ext hx) (hU.2.2 _ e2) ?_
    have h1 : (gE (ents (xth xs k)) (fun q => flat h (btx xs h (kdn xs k q))) (q + 1)).length ≤ _ := gE_len (j := (ents (xth xs k)).length + 1) (by rw [ents_len s1.1]; omega)
    rw [hE, gE, List.length_append, List.length_append] at h1
    omega
set_option maxRecDepth 100000 in
set_option maxHeartbeats 4000000 in
theorem rEntriesU_any (n : Nat) (xs : List Nx) (hok : okP n (allK xs)) (hs : shpX xs) (h : Nat) (A : Option Addr) (c : Nat) (w : World) (hr : RX w A n c xs) (hU : UD xs h 0) (hb : (flat h (btx xs h 0)).length ≤ 100000) : Calls Tryz.prog 40 #[.agg #[.slice A n c]] w (GiveE (flat h (btx xs h 0)) w) := by
  have hC := hid (fun w' (hx : Ext w w') => rEntries_any n xs hok hs h 0 A c w' (hr.ext hx) hU hb)
  clear hr hok hs hU hb
  have hx1 := hid ((Ext.refl w).alloc_right (.cells #[.slice A n c] 40))
  go_enter Tryz.func40, Tryz.ntmps40
  go_wp2_with fail
  refine (hC.out _ hx1.out).mono ?_
  rintro e w2 ⟨A1, c1, A2, c2, rfl, h1, h2, hx, f1, f2⟩
  have hfin : Hid (GiveE (flat h (btx xs h 0)) w (.returned (.tuple #[.slice A1 (flat h (btx xs h 0)).length c1, .slice A2 (flat h (btx xs h 0)).length c2])) w2) := ⟨A1, c1, A2, c2, rfl, h1, h2, hx1.out.trans hx, f1.mono hx1.out.size, f2.mono hx1.out.size⟩
  clear h1 h2 hx f1 f2
  go_wp2
  go_ret2
  exact hfin.out
section
variable {xs : List Nx}
theorem wX1 (h : xs.length < 1 ∨ 2400 < xs.length) : wrongX xs = 1 := by unfold wrongX; rw [if_pos h]
theorem wX2 (h1 : 1 ≤ xs.length ∧ xs.length ≤ 2400) (h : ¬ shpX xs) : wrongX xs = 2 := by unfold wrongX; rw [if_neg (by omega), if_pos (cdec_not.2 h)]
theorem wX3 (h1 : 1 ≤ xs.length ∧ xs.length ≤ 2400) (h2 : shpX xs) (h : treeB xs = false) : wrongX xs = 3 := by unfold wrongX; rw [if_neg (by omega), if_neg (fun hc => cdec_not.1 hc h2), if_pos h]
theorem wX4 (h1 : 1 ≤ xs.length ∧ xs.length ≤ 2400) (h2 : shpX xs) (h3 : treeB xs = true) (h : ¬ fullP xs) : wrongX xs = 4 := by unfold wrongX; rw [if_neg (by omega), if_neg (fun hc => cdec_not.1 hc h2), if_neg (by rw [h3]; decide), if_pos (cdec_not.2 h)]
theorem wX5 (h1 : 1 ≤ xs.length ∧ xs.length ≤ 2400) (h2 : shpX xs) (h3 : treeB xs = true) (h4 : fullP xs) (h : ¬ ∃ h, UD xs h 0) : wrongX xs = 5 := by unfold wrongX; rw [if_neg (by omega), if_neg (fun hc => cdec_not.1 hc h2), if_neg (by rw [h3]; decide), if_neg (fun hc => cdec_not.1 hc h4), if_pos (cdec_not.2 h)]
theorem wX6 (h1 : 1 ≤ xs.length ∧ xs.length ≤ 2400) (h2 : shpX xs) (h3 : treeB xs = true) (h4 : fullP xs) (h5 : ∃ h, UD xs h 0) (h : ¬ ∀ x ∈ entX xs, okT x = true) : wrongX xs = 6 := by unfold wrongX; rw [if_neg (by omega), if_neg (fun hc => cdec_not.1 hc h2), if_neg (by rw [h3]; decide), if_neg (fun hc => cdec_not.1 hc h4), if_neg (fun hc => cdec_not.1 hc h5), if_pos (cdec_not.2 h)]
theorem wX7 (h1 : 1 ≤ xs.length ∧ xs.length ≤ 2400) (h2 : shpX xs) (h3 : treeB xs = true) (h4 : fullP xs) (h5 : ∃ h, UD xs h 0) (h6 : ∀ x ∈ entX xs, okT x = true) (h : ¬ Srt (entX xs)) : wrongX xs = 7 := by unfold wrongX; rw [if_neg (by omega), if_neg (fun hc => cdec_not.1 hc h2), if_neg (by rw [h3]; decide), if_neg (fun hc => cdec_not.1 hc h4), if_neg (fun hc => cdec_not.1 hc h5), if_neg (fun hc => cdec_not.1 hc h6), if_pos (cdec_not.2 h)]
end
theorem tth_key {l : List Te} {k : Nat} (h : k < l.length) : sth (l.map Te.key) k = (tth l k).key ∧ ith (l.map Te.no) k = (tth l k).no := by
  rw [sth_get (by simpa using h), ith_get (by simpa using h), tth_get h, List.getElem_map, List.getElem_map]
  exact ⟨rfl, rfl⟩
def leastN (xs : List Nx) (k : Nat) : Nat := if k = 0 then min 1 (xth xs 0).kids.length else 2
set_option maxRecDepth 100000 in
set_option maxHeartbeats 16000000 in
theorem rwrong_any (A : Option Addr) (n c : Nat) (xs : List Nx) (w : World) (hr : RX w A n c xs) : Calls Tryz.prog 61 #[.agg #[.slice A n c]] w (Give (.int .i64 (wrongX xs)) w) := by
  have hl := hid hr.len
  have hm := RX.max hr
  have hx1 := (Ext.refl w).alloc_right (.cells #[.slice A n c] 40)
  have hb0 := heap_alloc_new w (.cells #[.slice A n c] 40)
  have zb : (w.alloc (.cells #[.slice A n c] 40)).cell? ⟨w.heap.size, 0, none⟩ = some (.slice A n c) := by rw [Lib.cell_of_heap hb0]; rfl
  have lb := World.block_lt_of_cell? _ _ zb
  dsimp only at lb
  replace hr := hid hr
  replace hx1 := hid hx1
  have hW : Hid (∃ W, wrongX xs = W) := ⟨_, rfl⟩
  obtain ⟨W, hW⟩ := hW.out
  rw [hW]
  replace hW := hid hW
  clear hb0
  by_cases h1 : n < 1 ∨ 2400 < n
  · have hw1 : W = 1 := by rw [← hW.out]; exact wX1 (by rw [hl.out]; exact h1)
    subst hw1
    rcases h1 with h1 | h1
    · obtain rfl : n = 0 := by omega
      go_enter Tryz.func61, Tryz.ntmps61
      go_wp2
      go_ret
      exact ⟨rfl, hx1.out⟩
    · have h2 : ¬ n < 1 := by omega
      have h3 : (2400 : Int) < (n : Int) := by omega
      go_enter Tryz.func61, Tryz.ntmps61
      go_wp2
      go_ret
      exact ⟨rfl, hx1.out⟩
  have c1 : Hid (1 ≤ xs.length ∧ xs.length ≤ 2400) := by have := hl.out; unfold Hid; omega
  have hn1 : ¬ n < 1 := by omega
  have hn2 : ¬ (2400 : Int) < (n : Int) := by omega
  have hn3 : n ≤ 2400 := by omega
  have hn4 : 0 < n := by omega
  clear h1
  go_enter Tryz.func61, Tryz.ntmps61
  go_upto_region 3 with fail
  obtain ⟨b, hb⟩ : ∃ b, b = w.heap.size := ⟨_, rfl⟩
  rw [← hb] at zb lb
  simp only [← hb]
  replace hb := hid hb
  generalize w.alloc (.cells #[.slice A n c] 40) = w1 at *
  have hcell : Hid (∀ w', Ext w1 w' → w'.cell? ⟨b, 0, none⟩ = some (.slice A n c) ∧ b < w'.heap.size) := fun w' hx => ⟨hx.cell zb, Nat.lt_of_lt_of_le lb hx.size⟩
  clear zb lb
  go_wp2_with fail
  go_loopw [3] (fun i wr => ∃ k : Nat, k ≤ n ∧ i = .int .i64 k ∧ Hid (∀ j, j < k → shapeB (xth xs j) = true) ∧ Hid (Ext w1 wr)) (fun i _ => n - (intOf i).toNat)
  case atStart => exact ⟨0, by omega, rfl, fun j hj => by omega, Ext.refl _⟩
  case round =>
    obtain ⟨k, hk, rfl, hsh, hx⟩ := hrel
    obtain ⟨zb, lb⟩ := hcell.out wr hx.out
    by_cases hlt : k < n
    · obtain ⟨ad0, A1, c1', A2, c2, A3, c3, rfl, y0, y1, y2, r1, r2, r3⟩ := (hr.out.ext (hx1.out.trans hx.out)).at_ hlt
      have m1 := (Rd.max r1).1
      have m2 := (Rd.max r2).1
      have m3 := (Rd.max r3).1
      have hki : (k : Int) < (n : Int) := by omega
      cases hsk : shapeB (xth xs k) with
      | false =>
        have hC := hid (fun w' => rShaped_any A1 A2 A3 _ _ _ c1' c2 c3 w' m1 m2 m3)
        rw [show shapeN _ _ _ = false from hsk] at hC
        have hw1 : W = 2 := by rw [← hW.out]; exact wX2 c1.out (fun h => by rw [h k (by rw [hl.out]; exact hlt)] at hsk; cases hsk)
        subst hw1
        clear hsk hsh r1 r2 r3
        go_wp2_with fail
        refine (hC.out _).mono ?_
        rintro e w2 ⟨rfl, hx2⟩
        go_wp2
        go_ret
        exact ⟨rfl, hx1.out.trans (hx.out.trans hx2)⟩
      | true =>
        have hC := hid (fun w' => rShaped_any A1 A2 A3 _ _ _ c1' c2 c3 w' m1 m2 m3)
        rw [show shapeN _ _ _ = true from hsk] at hC
        have hsh2 : Hid (∀ j, j < k + 1 → shapeB (xth xs j) = true) := fun j hj => by
          by_cases e : j = k
          · rw [e]; exact hsk
          · exact hsh.out j (by omega)
        clear hsk hsh r1 r2 r3
        go_wp2_with fail
        refine (hC.out _).mono ?_
        rintro e w2 ⟨rfl, hx2⟩
        have hx3 := hid (hx.out.trans hx2)
        clear hx2 hC
        go_wp2_with fail
        go_roundw
        case rel => exact ⟨k + 1, by omega, by go_num, hsh2, hx3⟩
        case measure => simp [intOf]; omega
    · obtain rfl : n = k := by omega
      have c2 : Hid (shpX xs) := fun j hj => hsh.out j (by rw [← hl.out]; exact hj)
      have h5 : Hid (∀ k, k < n → (xth xs k).kids.length ≤ 5) := fun k hk => by
        have := shape_is (c2.out k (by rw [hl.out]; exact hk))
        omega
      have hC := hid (fun w' (hx' : Ext wr w') => rTree_any A n c xs w' (hr.out.ext (hx1.out.trans (hx.out.trans hx'))) (by omega) hn3 h5)
      clear hsh hlt hk
      cases ht : treeB xs with
      | false =>
        have hw1 : W = 3 := by rw [← hW.out]; exact wX3 c1.out c2.out ht
        subst hw1
        rw [ht] at hC
        clear ht
        go_wp2_with fail
        refine (hC.out _ (Ext.refl _)).mono ?_
        rintro e w2 ⟨rfl, hx2⟩
        go_wp2
        go_ret
        exact ⟨rfl, hx1.out.trans (hx.out.trans hx2)⟩
      | true =>
        rw [ht] at hC
        have c3 := hid ht
        clear ht
        go_wp2_with fail
        refine (hC.out _ (Ext.refl _)).mono ?_
        rintro e w2 ⟨rfl, hx2⟩
        replace hx := hid (hx.out.trans hx2)
        clear hC hx2 zb lb
        obtain ⟨zb, lb⟩ := hcell.out w2 hx.out
        go_upto_region 10 with fail
        have hle0 : Hid (∀ j, j < 0 → leastN xs j ≤ (xth xs j).keys.length) := fun j hj => by omega
        replace hx := hid hx.out
        clear lb zb
        go_wp2_with fail
        go_loopw [4] (fun i wr => ∃ k : Nat, k ≤ n ∧ i = .int .i64 k ∧ Hid (∀ j, j < k → leastN xs j ≤ (xth xs j).keys.length) ∧ Hid (Ext w1 wr)) (fun i _ => n - (intOf i).toNat)
        case atStart => exact ⟨0, by omega, rfl, hle0, hx⟩
        case round =>
          clear hx hle0
          obtain ⟨k, hk, rfl, hfu, hx⟩ := hrel
          obtain ⟨zb, lb⟩ := hcell.out wr hx.out
          by_cases hlt : k < n
          · obtain ⟨ad0, A1, c1', A2, c2', A3, c3', rfl, y0, -, y2, r1, -, r3⟩ := (hr.out.ext (hx1.out.trans hx.out)).at_ hlt
            have m1 := (Rd.max r1).1
            have m3 := (Rd.max r3).1
            have hki : (k : Int) < (n : Int) := by omega
            have hfs := hid (fun (h : leastN xs k ≤ (xth xs k).keys.length) j (hj : j < k + 1) => (by
              by_cases e : j = k
              · rw [e]; exact h
              · exact hfu.out j (by omega) : leastN xs j ≤ (xth xs j).keys.length))
            have hnf := hid (fun (h : ¬ leastN xs k ≤ (xth xs k).keys.length) => wX4 c1.out c2.out c3.out (fun hf => h (hf k (by rw [hl.out]; exact hlt))))
            rw [hW.out] at hnf
            clear hfu r1 r3
            rcases Nat.eq_zero_or_pos k with rfl | hk0
            · have hls : leastN xs 0 = min 1 (xth xs 0).kids.length := rfl
              rw [hls] at hfs hnf
              clear hls
              generalize (xth xs 0).keys.length = a at *
              generalize (xth xs 0).kids.length = d at *
              have y0' : wr.cell? ad0 = some (.slice A1 a c1') := by rw [Nat.zero_mul, show ad0.add 0 = ad0 by unfold Addr.add; simp] at y0; exact y0
              have y2' : wr.cell? ⟨ad0.block, ad0.off + 2, none⟩ = some (.slice A3 d c3') := by rw [Nat.zero_mul, show ad0.add 0 = ad0 by unfold Addr.add; simp] at y2; exact y2
              rcases Nat.eq_zero_or_pos d with rfl | hd0
              · have hfs2 := hid (hfs.out (by omega))
                clear hfs hnf
                go_wp2
                go_roundw
                case rel => exact ⟨0 + 1, by omega, by go_num, hfs2, hx⟩
                case measure => simp [intOf]; omega
              · have hd1 : (1 : Int) ≤ (d : Int) := by omega
                have hmn : min (1 : Int) (d : Int) = 1 := by omega
                have hmn2 : min 1 d = 1 := by omega
                rw [hmn2] at hfs hnf
                clear hmn2
                rcases Nat.eq_zero_or_pos a with rfl | ha0
                · have hw1 := hnf.out (by omega)
                  subst hw1
                  clear hfs hnf
                  go_wp2
                  go_ret
                  exact ⟨rfl, hx1.out.trans hx.out⟩
                · have hfs2 := hid (hfs.out (by omega))
                  have ha1 : ¬ (a : Int) < 1 := by omega
                  have ha2 : ¬ a < 1 := by omega
                  clear hfs hnf
                  go_wp2
                  go_roundw
                  case rel => exact ⟨0 + 1, by omega, by go_num, hfs2, hx⟩
                  case measure => simp [intOf]; omega
            · have hls : leastN xs k = 2 := if_neg (by omega)
              rw [hls] at hfs hnf
              clear hls
              generalize (xth xs k).keys.length = a at *
              generalize (xth xs k).kids.length = d at *
              have hk1 : ((k : Int) == 0) = false := by rw [beq_eq_false_iff_ne]; omega
              have hk2 : ¬ k = 0 := by omega
              by_cases ha : 2 ≤ a
              · have hfs2 := hid (hfs.out ha)
                have ha1 : ¬ (a : Int) < 2 := by omega
                have ha2 : ¬ a < 2 := by omega
                clear hfs hnf
                go_wp2
                go_roundw
                case rel => exact ⟨k + 1, by omega, by go_num, hfs2, hx⟩
                case measure => simp [intOf]; omega
              · have hw1 := hnf.out ha
                subst hw1
                have ha1 : (a : Int) < 2 := by omega
                have ha2 : a < 2 := by omega
                clear hfs hnf
                go_wp2
                go_ret
                exact ⟨rfl, hx1.out.trans hx.out⟩
          · obtain rfl : n = k := by omega
            have c4 : Hid (fullP xs) := fun j hj => hfu.out j (by rw [← hl.out]; exact hj)
            have tp := treeB_iff.1 c3.out
            have hUT := hid (tree_ut tp (by rw [hl.out]; exact hn4))
            have okN : Hid (okP n (allK xs)) := by have := tp.1; rw [hl.out] at this; exact this
            have hsl := hid (sub_le tp (by rw [hl.out]; exact hn4) hUT.out)
            have hC := hid (fun w' (hx' : Ext wr w') => rDepths_any A n c xs okN.out xs.length 0 0 w' (hr.out.ext (hx1.out.trans (hx.out.trans hx'))) hUT.out (by omega) (by have := hl.out; omega) (by have := hsl.out; have := hl.out; omega))
            have hds := hid (dps_same hUT.out)
            have hdl : (dps xs xs.length 0 0).length ≤ 2400 := by have := dps_len (xs := xs) (f := xs.length) (k := 0) (d := 0); have := hsl.out; have := hl.out; omega
            generalize dps xs xs.length 0 0 = D at *
            clear hfu hlt hk tp
            go_wp2_with fail
            refine (hC.out _ (Ext.refl _)).mono ?_
            rintro e wd ⟨v, rfl, own2, hx2⟩
            obtain ⟨Ad, cd, rfl, hrd⟩ := own_rd own2
            have hrD : Hid (RdI wd Ad D.length cd D) := hrd
            have hxd := hid (hx.out.trans hx2)
            clear hC hx2 zb lb own2 hrd hx
            go_wp2_with fail
            go_loopw [7] (fun i wr => ∃ k : Nat, k ≤ D.length ∧ i = .int .i64 k ∧ Hid (∀ j, j < k → ith D j = ith D 0) ∧ Hid (Ext wd wr)) (fun i _ => D.length - (intOf i).toNat)
            case atStart => exact ⟨0, by omega, rfl, fun j hj => by omega, Ext.refl _⟩
            case round =>
              obtain ⟨k, hk, rfl, hde, hx⟩ := hrel
              by_cases hlt : k < D.length
              · obtain ⟨da, rfl, z0⟩ := rdi_at (hrD.out.ext hx.out) hlt
                obtain ⟨da', e0, z1⟩ := rdi_at (hrD.out.ext hx.out) (k := 0) (by omega)
                injection e0 with e0
                subst e0
                rw [show da.add 0 = da by unfold Addr.add; simp] at z1
                have hki : (k : Int) < (D.length : Int) := by omega
                have hk0 : 0 < D.length := by omega
                have hx9 := hid hx.out.drew_right
                by_cases he : ith D k = ith D 0
                · have hde2 : Hid (∀ j, j < k + 1 → ith D j = ith D 0) := fun j hj => by
                    by_cases e : j = k
                    · rw [e]; exact he
                    · exact hde.out j (by omega)
                  rw [he] at z0
                  clear he hde
                  obtain ⟨u0, hu0⟩ : ∃ u0, u0 = ith D 0 := ⟨_, rfl⟩
                  obtain ⟨u, hu⟩ : ∃ u, u = u0 := ⟨_, rfl⟩
                  rw [← hu0] at z0 z1
                  subst hu
                  clear hu0
                  go_upto_region 22 with fail
                  have I0 : (fun w' : World => w'.cell? (da.add k) = some (.int .i64 u) ∧ w'.cell? da = some (.int .i64 u)) wr.drew := ⟨z0, z1⟩
                  refine region_J (fun w' : World => w'.cell? (da.add k) = some (.int .i64 u) ∧ w'.cell? da = some (.int .i64 u)) 8 (by kernel_rfl) ?_
                  clear z0 z1
                  generalize wr.drew = w9 at *
                  refine J_takeO 0 (v := ?vr10) rfl (by kernel_rfl) (by kernel_rfl) (by kernel_rfl) (by kernel_rfl) (fun _ _ _ h => h) (Or.inl ⟨by rfl, ?yr10⟩) I0 ?rr10
                  case yr10 => (intro w hSw; obtain ⟨_, _⟩ := hSw; (go_simp; with_reducible rfl))
                  simp only [Act.put, List.getElem_toArray, List.getElem_cons_zero, List.getElem_cons_succ, List.setIfInBounds_toArray, List.set_cons_zero, List.set_cons_succ]
                  refine J_takeO 1 (v := ?vr11) rfl (by kernel_rfl) (by kernel_rfl) (by kernel_rfl) (by kernel_rfl) (fun _ _ _ h => h) (Or.inl ⟨by rfl, ?yr11⟩) I0 ?rr11
                  case yr11 => (intro w hSw; obtain ⟨_, _⟩ := hSw; (go_simp; with_reducible rfl))
                  simp only [Act.put, List.getElem_toArray, List.getElem_cons_zero, List.getElem_cons_succ, List.setIfInBounds_toArray, List.set_cons_zero, List.set_cons_succ]
                  refine J_takeO 2 (v := ?vr12) rfl (by kernel_rfl) (by kernel_rfl) (by kernel_rfl) (by kernel_rfl) (fun _ _ _ h => h) (Or.inl ⟨by rfl, ?yr12⟩) I0 ?rr12
                  case yr12 => (intro w hSw; obtain ⟨_, _⟩ := hSw; (go_simp; with_reducible rfl))
                  simp only [Act.put, List.getElem_toArray, List.getElem_cons_zero, List.getElem_cons_succ, List.setIfInBounds_toArray, List.set_cons_zero, List.set_cons_succ]
                  refine J_takeO 3 (v := ?vr13) rfl (by kernel_rfl) (by kernel_rfl) (by kernel_rfl) (by kernel_rfl) (fun _ _ _ h => h) (Or.inl ⟨by rfl, ?yr13⟩) I0 ?rr13
                  case yr13 => (intro w hSw; obtain ⟨_, _⟩ := hSw; (go_simp; with_reducible rfl))
                  simp only [Act.put, List.getElem_toArray, List.getElem_cons_zero, List.getElem_cons_succ, List.setIfInBounds_toArray, List.set_cons_zero, List.set_cons_succ]
                  refine J_takeO 4 (v := ?vr14) rfl (by kernel_rfl) (by kernel_rfl) (by kernel_rfl) (by kernel_rfl) (fun _ _ _ h => h) (Or.inl ⟨by rfl, ?yr14⟩) I0 ?rr14
                  case yr14 => (intro w hSw; obtain ⟨_, _⟩ := hSw; (go_simp; with_reducible rfl))
                  simp only [Act.put, List.getElem_toArray, List.getElem_cons_zero, List.getElem_cons_succ, List.setIfInBounds_toArray, List.set_cons_zero, List.set_cons_succ]
                  refine J_takeO 5 (v := ?vr15) rfl (by kernel_rfl) (by kernel_rfl) (by kernel_rfl) (by kernel_rfl) (fun _ _ _ h => h) (Or.inl ⟨by rfl, ?yr15⟩) I0 ?rr15
                  case yr15 => (intro w hSw; obtain ⟨_, _⟩ := hSw; (go_simp; with_reducible rfl))
                  simp only [Act.put, List.getElem_toArray, List.getElem_cons_zero, List.getElem_cons_succ, List.setIfInBounds_toArray, List.set_cons_zero, List.set_cons_succ]
                  refine J_takeO 6 (v := ?vr16) rfl (by kernel_rfl) (by kernel_rfl) (by kernel_rfl) (by kernel_rfl) (fun _ _ _ h => h) (Or.inl ⟨by rfl, ?yr16⟩) I0 ?rr16
                  case yr16 => (intro w hSw; obtain ⟨_, _⟩ := hSw; (go_simp; with_reducible rfl))
                  simp only [Act.put, List.getElem_toArray, List.getElem_cons_zero, List.getElem_cons_succ, List.setIfInBounds_toArray, List.set_cons_zero, List.set_cons_succ]
                  refine J_takeO 7 (v := ?vr17) rfl (by kernel_rfl) (by kernel_rfl) (by kernel_rfl) (by kernel_rfl) (fun _ _ _ h => h) (Or.inl ⟨by rfl, ?yr17⟩) I0 ?rr17
                  case yr17 => (intro w hSw; obtain ⟨_, _⟩ := hSw; (go_simp; with_reducible rfl))
                  simp only [Act.put, List.getElem_toArray, List.getElem_cons_zero, List.getElem_cons_succ, List.setIfInBounds_toArray, List.set_cons_zero, List.set_cons_succ]
                  refine J_done (by kernel_rfl) (OnlyOn.normal ?_)
                  go_wp2
                  go_roundw
                  case rel => exact ⟨k + 1, by omega, by go_num, hde2, hx9⟩
                  case measure => simp [intOf]; omega
                · have hw1 : W = 5 := by rw [← hW.out]; exact wX5 c1.out c2.out c3.out c4.out (fun h => he (hds.out.1 h k hlt))
                  subst hw1
                  have hne : (ith D k != ith D 0) = true := by simpa using he
                  clear he hde
                  generalize ith D k = u at *
                  generalize ith D 0 = u0 at *
                  go_upto_region 22 with fail
                  have I0 : (fun w' : World => w'.cell? (da.add k) = some (.int .i64 u) ∧ w'.cell? da = some (.int .i64 u0)) wr.drew := ⟨z0, z1⟩
                  refine region_J (fun w' : World => w'.cell? (da.add k) = some (.int .i64 u) ∧ w'.cell? da = some (.int .i64 u0)) 8 (by kernel_rfl) ?_
                  clear z0 z1
                  generalize wr.drew = w9 at *
                  refine J_takeO 0 (v := ?vr20) rfl (by kernel_rfl) (by kernel_rfl) (by kernel_rfl) (by kernel_rfl) (fun _ _ _ h => h) (Or.inl ⟨by rfl, ?yr20⟩) I0 ?rr20
                  case yr20 => (intro w hSw; obtain ⟨_, _⟩ := hSw; (go_simp; with_reducible rfl))
                  simp only [Act.put, List.getElem_toArray, List.getElem_cons_zero, List.getElem_cons_succ, List.setIfInBounds_toArray, List.set_cons_zero, List.set_cons_succ]
                  refine J_takeO 1 (v := ?vr21) rfl (by kernel_rfl) (by kernel_rfl) (by kernel_rfl) (by kernel_rfl) (fun _ _ _ h => h) (Or.inl ⟨by rfl, ?yr21⟩) I0 ?rr21
                  case yr21 => (intro w hSw; obtain ⟨_, _⟩ := hSw; (go_simp; with_reducible rfl))
                  simp only [Act.put, List.getElem_toArray, List.getElem_cons_zero, List.getElem_cons_succ, List.setIfInBounds_toArray, List.set_cons_zero, List.set_cons_succ]
                  refine J_takeO 2 (v := ?vr22) rfl (by kernel_rfl) (by kernel_rfl) (by kernel_rfl) (by kernel_rfl) (fun _ _ _ h => h) (Or.inl ⟨by rfl, ?yr22⟩) I0 ?rr22
                  case yr22 => (intro w hSw; obtain ⟨_, _⟩ := hSw; (go_simp; with_reducible rfl))
                  simp only [Act.put, List.getElem_toArray, List.getElem_cons_zero, List.getElem_cons_succ, List.setIfInBounds_toArray, List.set_cons_zero, List.set_cons_succ]
                  refine J_takeO 3 (v := ?vr23) rfl (by kernel_rfl) (by kernel_rfl) (by kernel_rfl) (by kernel_rfl) (fun _ _ _ h => h) (Or.inl ⟨by rfl, ?yr23⟩) I0 ?rr23
                  case yr23 => (intro w hSw; obtain ⟨_, _⟩ := hSw; (go_simp; with_reducible rfl))
                  simp only [Act.put, List.getElem_toArray, List.getElem_cons_zero, List.getElem_cons_succ, List.setIfInBounds_toArray, List.set_cons_zero, List.set_cons_succ]
                  refine J_takeO 4 (v := ?vr24) rfl (by kernel_rfl) (by kernel_rfl) (by kernel_rfl) (by kernel_rfl) (fun _ _ _ h => h) (Or.inl ⟨by rfl, ?yr24⟩) I0 ?rr24
                  case yr24 => (intro w hSw; obtain ⟨_, _⟩ := hSw; (go_simp; with_reducible rfl))
                  simp only [Act.put, List.getElem_toArray, List.getElem_cons_zero, List.getElem_cons_succ, List.setIfInBounds_toArray, List.set_cons_zero, List.set_cons_succ]
                  refine J_takeO 5 (v := ?vr25) rfl (by kernel_rfl) (by kernel_rfl) (by kernel_rfl) (by kernel_rfl) (fun _ _ _ h => h) (Or.inl ⟨by rfl, ?yr25⟩) I0 ?rr25
                  case yr25 => (intro w hSw; obtain ⟨_, _⟩ := hSw; (go_simp; with_reducible rfl))
                  simp only [Act.put, List.getElem_toArray, List.getElem_cons_zero, List.getElem_cons_succ, List.setIfInBounds_toArray, List.set_cons_zero, List.set_cons_succ]
                  refine J_takeO 6 (v := ?vr26) rfl (by kernel_rfl) (by kernel_rfl) (by kernel_rfl) (by kernel_rfl) (fun _ _ _ h => h) (Or.inl ⟨by rfl, ?yr26⟩) I0 ?rr26
                  case yr26 => (intro w hSw; obtain ⟨_, _⟩ := hSw; (go_simp; with_reducible rfl))
                  simp only [Act.put, List.getElem_toArray, List.getElem_cons_zero, List.getElem_cons_succ, List.setIfInBounds_toArray, List.set_cons_zero, List.set_cons_succ]
                  refine J_takeO 7 (v := ?vr27) rfl (by kernel_rfl) (by kernel_rfl) (by kernel_rfl) (by kernel_rfl) (fun _ _ _ h => h) (Or.inl ⟨by rfl, ?yr27⟩) I0 ?rr27
                  case yr27 => (intro w hSw; obtain ⟨_, _⟩ := hSw; (go_simp; with_reducible rfl))
                  simp only [Act.put, List.getElem_toArray, List.getElem_cons_zero, List.getElem_cons_succ, List.setIfInBounds_toArray, List.set_cons_zero, List.set_cons_succ]
                  refine J_done (by kernel_rfl) (OnlyOn.normal ?_)
                  go_wp2
                  go_ret
                  exact ⟨rfl, hx1.out.trans (hxd.out.trans hx9.out)⟩
              · obtain rfl : k = D.length := by omega
                have c5 := hid (hds.out.2 hde.out)
                obtain ⟨hh, hUD⟩ := c5.out
                have hLX : Hid (flat hh (btx xs hh 0) = entX xs) := by unfold Hid entX; rw [hX_is hUD]
                have hLb := btx_len c2.out hUD hUT.out
                have hC := hid (fun w' (hx' : Ext wr w') => rEntriesU_any n xs okN.out c2.out hh A c w' (hr.out.ext (hx1.out.trans (hxd.out.trans (hx.out.trans hx')))) hUD (by have := hsl.out; have := hl.out; omega))
                rw [hLX.out] at hC
                rw [hLX.out] at hLb
                have hLb2 : (entX xs).length ≤ 100000 := by have := hsl.out; have := hl.out; omega
                have cw6 := hid (wX6 c1.out c2.out c3.out c4.out c5.out)
                have cw7 := hid (wX7 c1.out c2.out c3.out c4.out c5.out)
                have cw0 : Hid ((∀ x ∈ entX xs, okT x = true) → Srt (entX xs) → wrongX xs = 0) := fun h6 h7 => wrong_none.2 ⟨c1.out.1, c1.out.2, c2.out, treeB_iff.1 c3.out, c4.out, c5.out, h6, h7⟩
                rw [hW.out] at cw6 cw7 cw0
                obtain ⟨zb, lb⟩ := hcell.out wr (hxd.out.trans hx.out)
                clear hde hlt hk hLX hUD hLb hds c5
                generalize entX xs = L at *
                go_wp2_with fail
                refine (hC.out _ (Ext.refl _)).mono ?_
                rintro e we ⟨K1, k1, K2, k2, rfl, hr1, hr2, hx2, -, -⟩
                have hxe := hid (hx1.out.trans (hxd.out.trans (hx.out.trans hx2)))
                replace hr1 := hid hr1
                replace hr2 := hid hr2
                clear hC hx2 zb lb hx hxd hrD hUT hsl
                go_wp2_with fail
                go_loopw [10] (fun i wr => ∃ k : Nat, k ≤ L.length ∧ i = .int .i64 k ∧ Hid (∀ j, j < k → okT (tth L j) = true) ∧ Hid (Ext we wr)) (fun i _ => L.length - (intOf i).toNat)
                case atStart => exact ⟨0, by omega, rfl, fun j hj => by omega, Ext.refl _⟩
                case round =>
                  obtain ⟨k, hk, rfl, hoks, hx⟩ := hrel
                  by_cases hlt : k < L.length
                  · obtain ⟨ka, rfl, z0⟩ := rds_at (hr1.out.ext hx.out) hlt
                    obtain ⟨ra, rfl, z1⟩ := rdi_at (hr2.out.ext hx.out) hlt
                    rw [(tth_key hlt).1] at z0
                    rw [(tth_key hlt).2] at z1
                    have hki : (k : Int) < (L.length : Int) := by omega
                    have hx9 := hid hx.out.drew_right
                    cases hok : okT (tth L k) with
                    | true =>
                      have hoks2 : Hid (∀ j, j < k + 1 → okT (tth L j) = true) := fun j hj => by
                        by_cases e : j = k
                        · rw [e]; exact hok
                        · exact hoks.out j (by omega)
                      have hE := hid (fun w' => risEntry_any (tth L k).key (tth L k).no w')
                      rw [show okT ⟨(tth L k).key, (tth L k).no⟩ = true from hok] at hE
                      clear hok hoks
                      generalize (tth L k).key = s at *
                      generalize (tth L k).no = u at *
                      go_upto_region 28 with fail
                      have I0 : (fun w' : World => w'.cell? (ka.add k) = some (.string s) ∧ w'.cell? (ra.add k) = some (.int .i64 u)) wr.drew := ⟨z0, z1⟩
                      refine region_J (fun w' : World => w'.cell? (ka.add k) = some (.string s) ∧ w'.cell? (ra.add k) = some (.int .i64 u)) 10 (by kernel_rfl) ?_
                      clear z0 z1
                      generalize wr.drew = w9 at *
                      refine J_takeO 0 (v := ?vr30) rfl (by kernel_rfl) (by kernel_rfl) (by kernel_rfl) (by kernel_rfl) (fun _ _ _ h => h) (Or.inl ⟨by rfl, ?yr30⟩) I0 ?rr30
                      case yr30 => (intro w hSw; obtain ⟨_, _⟩ := hSw; (go_simp; with_reducible rfl))
                      simp only [Act.put, List.getElem_toArray, List.getElem_cons_zero, List.getElem_cons_succ, List.setIfInBounds_toArray, List.set_cons_zero, List.set_cons_succ]
                      refine J_takeO 1 (v := ?vr31) rfl (by kernel_rfl) (by kernel_rfl) (by kernel_rfl) (by kernel_rfl) (fun _ _ _ h => h) (Or.inl ⟨by rfl, ?yr31⟩) I0 ?rr31
                      case yr31 => (intro w hSw; obtain ⟨_, _⟩ := hSw; (go_simp; with_reducible rfl))
                      simp only [Act.put, List.getElem_toArray, List.getElem_cons_zero, List.getElem_cons_succ, List.setIfInBounds_toArray, List.set_cons_zero, List.set_cons_succ]
                      refine J_takeO 2 (v := ?vr32) rfl (by kernel_rfl) (by kernel_rfl) (by kernel_rfl) (by kernel_rfl) (fun _ _ _ h => h) (Or.inl ⟨by rfl, ?yr32⟩) I0 ?rr32
                      case yr32 => (intro w hSw; obtain ⟨_, _⟩ := hSw; (go_simp; with_reducible rfl))
                      simp only [Act.put, List.getElem_toArray, List.getElem_cons_zero, List.getElem_cons_succ, List.setIfInBounds_toArray, List.set_cons_zero, List.set_cons_succ]
                      refine J_takeO 3 (v := ?vr33) rfl (by kernel_rfl) (by kernel_rfl) (by kernel_rfl) (by kernel_rfl) (fun _ _ _ h => h) (Or.inl ⟨by rfl, ?yr33⟩) I0 ?rr33
                      case yr33 => (intro w hSw; obtain ⟨_, _⟩ := hSw; (go_simp; with_reducible rfl))
                      simp only [Act.put, List.getElem_toArray, List.getElem_cons_zero, List.getElem_cons_succ, List.setIfInBounds_toArray, List.set_cons_zero, List.set_cons_succ]
                      refine J_takeO 4 (v := ?vr34) rfl (by kernel_rfl) (by kernel_rfl) (by kernel_rfl) (by kernel_rfl) (fun _ _ _ h => h) (Or.inl ⟨by rfl, ?yr34⟩) I0 ?rr34
                      case yr34 => (intro w hSw; obtain ⟨_, _⟩ := hSw; (go_simp; with_reducible rfl))
                      simp only [Act.put, List.getElem_toArray, List.getElem_cons_zero, List.getElem_cons_succ, List.setIfInBounds_toArray, List.set_cons_zero, List.set_cons_succ]
                      refine J_takeO 5 (v := ?vr35) rfl (by kernel_rfl) (by kernel_rfl) (by kernel_rfl) (by kernel_rfl) (fun _ _ _ h => h) (Or.inl ⟨by rfl, ?yr35⟩) I0 ?rr35
                      case yr35 => (intro w hSw; obtain ⟨_, _⟩ := hSw; (go_simp; with_reducible rfl))
                      simp only [Act.put, List.getElem_toArray, List.getElem_cons_zero, List.getElem_cons_succ, List.setIfInBounds_toArray, List.set_cons_zero, List.set_cons_succ]
                      refine J_takeO 6 (v := ?vr36) rfl (by kernel_rfl) (by kernel_rfl) (by kernel_rfl) (by kernel_rfl) (fun _ _ _ h => h) (Or.inl ⟨by rfl, ?yr36⟩) I0 ?rr36
                      case yr36 => (intro w hSw; obtain ⟨_, _⟩ := hSw; (go_simp; with_reducible rfl))
                      simp only [Act.put, List.getElem_toArray, List.getElem_cons_zero, List.getElem_cons_succ, List.setIfInBounds_toArray, List.set_cons_zero, List.set_cons_succ]
                      refine J_takeO 7 (v := ?vr37) rfl (by kernel_rfl) (by kernel_rfl) (by kernel_rfl) (by kernel_rfl) (fun _ _ _ h => h) (Or.inl ⟨by rfl, ?yr37⟩) I0 ?rr37
                      case yr37 => (intro w hSw; obtain ⟨_, _⟩ := hSw; (go_simp; with_reducible rfl))
                      simp only [Act.put, List.getElem_toArray, List.getElem_cons_zero, List.getElem_cons_succ, List.setIfInBounds_toArray, List.set_cons_zero, List.set_cons_succ]
                      refine J_one 8 rfl (by kernel_rfl) (fun K hK => ?_)
                      go_simp
                      refine (hE.out _).mono ?_
                      rintro e' w' ⟨rfl, rfl⟩
                      refine hK _ _ ⟨fun _ => I0, ?_⟩
                      clear hK K
                      try simp only [Act.put, List.getElem_toArray, List.getElem_cons_zero, List.getElem_cons_succ, List.setIfInBounds_toArray, List.set_cons_zero, List.set_cons_succ]
                      refine J_one 9 rfl (by kernel_rfl) (fun K hK => ?_)
                      go_simp
                      refine hK _ _ ⟨fun _ => I0, ?_⟩
                      clear hK K
                      try simp only [Act.put, List.setIfInBounds_toArray, List.set_cons_zero, List.set_cons_succ]
                      refine J_done (by kernel_rfl) (OnlyOn.normal ?_)
                      go_wp2
                      go_roundw
                      case rel => exact ⟨k + 1, by omega, by go_num, hoks2, hx9⟩
                      case measure => simp [intOf]; omega
                    | false =>
                      have hw1 : W = 6 := cw6.out (fun h => by rw [h _ (by rw [tth_get hlt]; exact List.getElem_mem _)] at hok; cases hok)
                      subst hw1
                      have hE := hid (fun w' => risEntry_any (tth L k).key (tth L k).no w')
                      rw [show okT ⟨(tth L k).key, (tth L k).no⟩ = false from hok] at hE
                      clear hok hoks
                      generalize (tth L k).key = s at *
                      generalize (tth L k).no = u at *
                      go_upto_region 28 with fail
                      have I0 : (fun w' : World => w'.cell? (ka.add k) = some (.string s) ∧ w'.cell? (ra.add k) = some (.int .i64 u)) wr.drew := ⟨z0, z1⟩
                      refine region_J (fun w' : World => w'.cell? (ka.add k) = some (.string s) ∧ w'.cell? (ra.add k) = some (.int .i64 u)) 10 (by kernel_rfl) ?_
                      clear z0 z1
                      generalize wr.drew = w9 at *
                      refine J_takeO 0 (v := ?vr40) rfl (by kernel_rfl) (by kernel_rfl) (by kernel_rfl) (by kernel_rfl) (fun _ _ _ h => h) (Or.inl ⟨by rfl, ?yr40⟩) I0 ?rr40
                      case yr40 => (intro w hSw; obtain ⟨_, _⟩ := hSw; (go_simp; with_reducible rfl))
                      simp only [Act.put, List.getElem_toArray, List.getElem_cons_zero, List.getElem_cons_succ, List.setIfInBounds_toArray, List.set_cons_zero, List.set_cons_succ]
                      refine J_takeO 1 (v := ?vr41) rfl (by kernel_rfl) (by kernel_rfl) (by kernel_rfl) (by kernel_rfl) (fun _ _ _ h => h) (Or.inl ⟨by rfl, ?yr41⟩) I0 ?rr41
                      case yr41 => (intro w hSw; obtain ⟨_, _⟩ := hSw; (go_simp; with_reducible rfl))
                      simp only [Act.put, List.getElem_toArray, List.getElem_cons_zero, List.getElem_cons_succ, List.setIfInBounds_toArray, List.set_cons_zero, List.set_cons_succ]
                      refine J_takeO 2 (v := ?vr42) rfl (by kernel_rfl) (by kernel_rfl) (by kernel_rfl) (by kernel_rfl) (fun _ _ _ h => h) (Or.inl ⟨by rfl, ?yr42⟩) I0 ?rr42
                      case yr42 => (intro w hSw; obtain ⟨_, _⟩ := hSw; (go_simp; with_reducible rfl))
                      simp only [Act.put, List.getElem_toArray, List.getElem_cons_zero, List.getElem_cons_succ, List.setIfInBounds_toArray, List.set_cons_zero, List.set_cons_succ]
                      refine J_takeO 3 (v := ?vr43) rfl (by kernel_rfl) (by kernel_rfl) (by kernel_rfl) (by kernel_rfl) (fun _ _ _ h => h) (Or.inl ⟨by rfl, ?yr43⟩) I0 ?rr43
                      case yr43 => (intro w hSw; obtain ⟨_, _⟩ := hSw; (go_simp; with_reducible rfl))
                      simp only [Act.put, List.getElem_toArray, List.getElem_cons_zero, List.getElem_cons_succ, List.setIfInBounds_toArray, List.set_cons_zero, List.set_cons_succ]
                      refine J_takeO 4 (v := ?vr44) rfl (by kernel_rfl) (by kernel_rfl) (by kernel_rfl) (by kernel_rfl) (fun _ _ _ h => h) (Or.inl ⟨by rfl, ?yr44⟩) I0 ?rr44
                      case yr44 => (intro w hSw; obtain ⟨_, _⟩ := hSw; (go_simp; with_reducible rfl))
                      simp only [Act.put, List.getElem_toArray, List.getElem_cons_zero, List.getElem_cons_succ, List.setIfInBounds_toArray, List.set_cons_zero, List.set_cons_succ]
                      refine J_takeO 5 (v := ?vr45) rfl (by kernel_rfl) (by kernel_rfl) (by kernel_rfl) (by kernel_rfl) (fun _ _ _ h => h) (Or.inl ⟨by rfl, ?yr45⟩) I0 ?rr45
                      case yr45 => (intro w hSw; obtain ⟨_, _⟩ := hSw; (go_simp; with_reducible rfl))
                      simp only [Act.put, List.getElem_toArray, List.getElem_cons_zero, List.getElem_cons_succ, List.setIfInBounds_toArray, List.set_cons_zero, List.set_cons_succ]
                      refine J_takeO 6 (v := ?vr46) rfl (by kernel_rfl) (by kernel_rfl) (by kernel_rfl) (by kernel_rfl) (fun _ _ _ h => h) (Or.inl ⟨by rfl, ?yr46⟩) I0 ?rr46
                      case yr46 => (intro w hSw; obtain ⟨_, _⟩ := hSw; (go_simp; with_reducible rfl))
                      simp only [Act.put, List.getElem_toArray, List.getElem_cons_zero, List.getElem_cons_succ, List.setIfInBounds_toArray, List.set_cons_zero, List.set_cons_succ]
                      refine J_takeO 7 (v := ?vr47) rfl (by kernel_rfl) (by kernel_rfl) (by kernel_rfl) (by kernel_rfl) (fun _ _ _ h => h) (Or.inl ⟨by rfl, ?yr47⟩) I0 ?rr47
                      case yr47 => (intro w hSw; obtain ⟨_, _⟩ := hSw; (go_simp; with_reducible rfl))
                      simp only [Act.put, List.getElem_toArray, List.getElem_cons_zero, List.getElem_cons_succ, List.setIfInBounds_toArray, List.set_cons_zero, List.set_cons_succ]
                      refine J_one 8 rfl (by kernel_rfl) (fun K hK => ?_)
                      go_simp
                      refine (hE.out _).mono ?_
                      rintro e' w' ⟨rfl, rfl⟩
                      refine hK _ _ ⟨fun _ => I0, ?_⟩
                      clear hK K
                      try simp only [Act.put, List.getElem_toArray, List.getElem_cons_zero, List.getElem_cons_succ, List.setIfInBounds_toArray, List.set_cons_zero, List.set_cons_succ]
                      refine J_one 9 rfl (by kernel_rfl) (fun K hK => ?_)
                      go_simp
                      refine hK _ _ ⟨fun _ => I0, ?_⟩
                      clear hK K
                      try simp only [Act.put, List.setIfInBounds_toArray, List.set_cons_zero, List.set_cons_succ]
                      refine J_done (by kernel_rfl) (OnlyOn.normal ?_)
                      go_wp2
                      go_ret
                      exact ⟨rfl, hxe.out.trans hx9.out⟩
                  · obtain rfl : k = L.length := by omega
                    have c6 : Hid (∀ x ∈ L, okT x = true) := fun x hx => by
                      obtain ⟨j, hj, rfl⟩ := List.mem_iff_getElem.1 hx
                      rw [← tth_get hj]
                      exact hoks.out j hj
                    clear hoks
                    go_upto_region 31 with fail
                    go_loopw [11] (fun i wr => ∃ k : Nat, Hid (1 ≤ k) ∧ i = .int .i64 k ∧ Hid (∀ t, t + 1 < k → t + 1 < L.length → cmpT (tth L t) (tth L (t + 1)) < 0) ∧ Hid (Ext we wr)) (fun i _ => L.length + 1 - (intOf i).toNat)
                    case atStart => exact ⟨1, by unfold Hid; omega, rfl, fun j hj => by omega, hx⟩
                    case round =>
                      clear hx
                      obtain ⟨k, hk1, rfl, hso, hx⟩ := hrel
                      obtain ⟨j, hj⟩ : ∃ j, k = j + 1 := ⟨k - 1, by have := hk1.out; omega⟩
                      replace hj := hid hj
                      by_cases hlt : k < L.length
                      · obtain ⟨ka, rfl, z0⟩ := rds_at (hr1.out.ext hx.out) (k := j) (by have := hj.out; omega)
                        obtain ⟨ra, rfl, z1⟩ := rdi_at (hr2.out.ext hx.out) (k := j) (by have := hj.out; omega)
                        obtain ⟨ka', e2, z2⟩ := rds_at (hr1.out.ext hx.out) hlt
                        injection e2 with e2
                        subst e2
                        obtain ⟨ra', e3, z3⟩ := rdi_at (hr2.out.ext hx.out) hlt
                        injection e3 with e3
                        subst e3
                        rw [(tth_key (by have := hj.out; omega)).1] at z0 z2
                        rw [(tth_key (by have := hj.out; omega)).2] at z1 z3
                        have hki : (k : Int) < (L.length : Int) := by omega
                        have hki2 : (j : Int) < (L.length : Int) := by have := hj.out; omega
                        have hwj : IntKind.i64.wrap ((k : Int) - 1) = (j : Int) := by rw [show (k : Int) - 1 = j by have := hj.out; omega]; exact IntWalk.i64_in _ (by have := hj.out; omega)
                        have hx9 := hid hx.out.drew_right
                        have hE := hid (fun w' => rLess_any (tth L j).key (tth L k).key (tth L j).no (tth L k).no w')
                        by_cases hc : cmpT (tth L j) (tth L k) < 0
                        · have hso2 : Hid (∀ t, t + 1 < k + 1 → t + 1 < L.length → cmpT (tth L t) (tth L (t + 1)) < 0) := fun t ht ht2 => by
                            by_cases e : t = j
                            · rw [e, ← hj.out]; exact hc
                            · exact hso.out t (by have := hj.out; omega) ht2
                          rw [show decide (cmpT ⟨(tth L j).key, (tth L j).no⟩ ⟨(tth L k).key, (tth L k).no⟩ < 0) = true from decide_eq_true hc] at hE
                          clear hc hso
                          generalize (tth L j).key = s at *
                          generalize (tth L j).no = u at *
                          generalize (tth L k).key = s' at *
                          generalize (tth L k).no = u' at *
                          go_upto_region 33 with fail
                          have I0 : (fun w' : World => w'.cell? (ka.add j) = some (.string s) ∧ w'.cell? (ra.add j) = some (.int .i64 u) ∧ w'.cell? (ka.add k) = some (.string s') ∧ w'.cell? (ra.add k) = some (.int .i64 u')) wr.drew := ⟨z0, z1, z2, z3⟩
                          refine region_J (fun w' : World => w'.cell? (ka.add j) = some (.string s) ∧ w'.cell? (ra.add j) = some (.int .i64 u) ∧ w'.cell? (ka.add k) = some (.string s') ∧ w'.cell? (ra.add k) = some (.int .i64 u')) 20 (by kernel_rfl) ?_
                          clear z0 z1 z2 z3
                          generalize wr.drew = w9 at *
                          refine J_takeO 0 (v := ?vr50) rfl (by kernel_rfl) (by kernel_rfl) (by kernel_rfl) (by kernel_rfl) (fun _ _ _ h => h) (Or.inl ⟨by rfl, ?yr50⟩) I0 ?rr50
                          case yr50 => (intro w hSw; obtain ⟨_, _, _, _⟩ := hSw; (go_simp; with_reducible rfl))
                          simp only [Act.put, List.getElem_toArray, List.getElem_cons_zero, List.getElem_cons_succ, List.setIfInBounds_toArray, List.set_cons_zero, List.set_cons_succ]
                          refine J_takeO 1 (v := ?vr51) rfl (by kernel_rfl) (by kernel_rfl) (by kernel_rfl) (by kernel_rfl) (fun _ _ _ h => h) (Or.inl ⟨by rfl, ?yr51⟩) I0 ?rr51
                          case yr51 => (intro w hSw; obtain ⟨_, _, _, _⟩ := hSw; (go_simp; with_reducible rfl))
                          simp only [Act.put, List.getElem_toArray, List.getElem_cons_zero, List.getElem_cons_succ, List.setIfInBounds_toArray, List.set_cons_zero, List.set_cons_succ]
                          refine J_takeO 2 (v := ?vr52) rfl (by kernel_rfl) (by kernel_rfl) (by kernel_rfl) (by kernel_rfl) (fun _ _ _ h => h) (Or.inl ⟨by rfl, ?yr52⟩) I0 ?rr52
                          case yr52 => (intro w hSw; obtain ⟨_, _, _, _⟩ := hSw; (go_simp; with_reducible rfl))
                          simp only [Act.put, List.getElem_toArray, List.getElem_cons_zero, List.getElem_cons_succ, List.setIfInBounds_toArray, List.set_cons_zero, List.set_cons_succ]
                          refine J_takeO 3 (v := ?vr53) rfl (by kernel_rfl) (by kernel_rfl) (by kernel_rfl) (by kernel_rfl) (fun _ _ _ h => h) (Or.inl ⟨by rfl, ?yr53⟩) I0 ?rr53
                          case yr53 => (intro w hSw; obtain ⟨_, _, _, _⟩ := hSw; (go_simp; with_reducible rfl))
                          simp only [Act.put, List.getElem_toArray, List.getElem_cons_zero, List.getElem_cons_succ, List.setIfInBounds_toArray, List.set_cons_zero, List.set_cons_succ]
                          refine J_takeO 4 (v := ?vr54) rfl (by kernel_rfl) (by kernel_rfl) (by kernel_rfl) (by kernel_rfl) (fun _ _ _ h => h) (Or.inl ⟨by rfl, ?yr54⟩) I0 ?rr54
                          case yr54 => (intro w hSw; obtain ⟨_, _, _, _⟩ := hSw; (go_simp; with_reducible rfl))
                          simp only [Act.put, List.getElem_toArray, List.getElem_cons_zero, List.getElem_cons_succ, List.setIfInBounds_toArray, List.set_cons_zero, List.set_cons_succ]
                          refine J_takeO 5 (v := ?vr55) rfl (by kernel_rfl) (by kernel_rfl) (by kernel_rfl) (by kernel_rfl) (fun _ _ _ h => h) (Or.inl ⟨by rfl, ?yr55⟩) I0 ?rr55
                          case yr55 => (intro w hSw; obtain ⟨_, _, _, _⟩ := hSw; (go_simp; with_reducible rfl))
                          simp only [Act.put, List.getElem_toArray, List.getElem_cons_zero, List.getElem_cons_succ, List.setIfInBounds_toArray, List.set_cons_zero, List.set_cons_succ]
                          refine J_takeO 6 (v := ?vr56) rfl (by kernel_rfl) (by kernel_rfl) (by kernel_rfl) (by kernel_rfl) (fun _ _ _ h => h) (Or.inl ⟨by rfl, ?yr56⟩) I0 ?rr56
                          case yr56 => (intro w hSw; obtain ⟨_, _, _, _⟩ := hSw; (go_simp; with_reducible rfl))
                          simp only [Act.put, List.getElem_toArray, List.getElem_cons_zero, List.getElem_cons_succ, List.setIfInBounds_toArray, List.set_cons_zero, List.set_cons_succ]
                          refine J_takeO 7 (v := ?vr57) rfl (by kernel_rfl) (by kernel_rfl) (by kernel_rfl) (by kernel_rfl) (fun _ _ _ h => h) (Or.inl ⟨by rfl, ?yr57⟩) I0 ?rr57
                          case yr57 => (intro w hSw; obtain ⟨_, _, _, _⟩ := hSw; (go_simp; with_reducible rfl))
                          simp only [Act.put, List.getElem_toArray, List.getElem_cons_zero, List.getElem_cons_succ, List.setIfInBounds_toArray, List.set_cons_zero, List.set_cons_succ]
                          refine J_takeO 8 (v := ?vr58) rfl (by kernel_rfl) (by kernel_rfl) (by kernel_rfl) (by kernel_rfl) (fun _ _ _ h => h) (Or.inl ⟨by rfl, ?yr58⟩) I0 ?rr58
                          case yr58 => (intro w hSw; obtain ⟨_, _, _, _⟩ := hSw; (go_simp; with_reducible rfl))
                          simp only [Act.put, List.getElem_toArray, List.getElem_cons_zero, List.getElem_cons_succ, List.setIfInBounds_toArray, List.set_cons_zero, List.set_cons_succ]
                          refine J_takeO 9 (v := ?vr59) rfl (by kernel_rfl) (by kernel_rfl) (by kernel_rfl) (by kernel_rfl) (fun _ _ _ h => h) (Or.inl ⟨by rfl, ?yr59⟩) I0 ?rr59
                          case yr59 => (intro w hSw; obtain ⟨_, _, _, _⟩ := hSw; (go_simp; with_reducible rfl))
                          simp only [Act.put, List.getElem_toArray, List.getElem_cons_zero, List.getElem_cons_succ, List.setIfInBounds_toArray, List.set_cons_zero, List.set_cons_succ]
                          refine J_takeO 10 (v := ?vr510) rfl (by kernel_rfl) (by kernel_rfl) (by kernel_rfl) (by kernel_rfl) (fun _ _ _ h => h) (Or.inl ⟨by rfl, ?yr510⟩) I0 ?rr510
                          case yr510 => (intro w hSw; obtain ⟨_, _, _, _⟩ := hSw; (go_simp; with_reducible rfl))
                          simp only [Act.put, List.getElem_toArray, List.getElem_cons_zero, List.getElem_cons_succ, List.setIfInBounds_toArray, List.set_cons_zero, List.set_cons_succ]
                          refine J_takeO 11 (v := ?vr511) rfl (by kernel_rfl) (by kernel_rfl) (by kernel_rfl) (by kernel_rfl) (fun _ _ _ h => h) (Or.inl ⟨by rfl, ?yr511⟩) I0 ?rr511
                          case yr511 => (intro w hSw; obtain ⟨_, _, _, _⟩ := hSw; (go_simp; with_reducible rfl))
                          simp only [Act.put, List.getElem_toArray, List.getElem_cons_zero, List.getElem_cons_succ, List.setIfInBounds_toArray, List.set_cons_zero, List.set_cons_succ]
                          refine J_takeO 12 (v := ?vr512) rfl (by kernel_rfl) (by kernel_rfl) (by kernel_rfl) (by kernel_rfl) (fun _ _ _ h => h) (Or.inl ⟨by rfl, ?yr512⟩) I0 ?rr512
                          case yr512 => (intro w hSw; obtain ⟨_, _, _, _⟩ := hSw; (go_simp; with_reducible rfl))
                          simp only [Act.put, List.getElem_toArray, List.getElem_cons_zero, List.getElem_cons_succ, List.setIfInBounds_toArray, List.set_cons_zero, List.set_cons_succ]
                          refine J_takeO 13 (v := ?vr513) rfl (by kernel_rfl) (by kernel_rfl) (by kernel_rfl) (by kernel_rfl) (fun _ _ _ h => h) (Or.inl ⟨by rfl, ?yr513⟩) I0 ?rr513
                          case yr513 => (intro w hSw; obtain ⟨_, _, _, _⟩ := hSw; (go_simp; with_reducible rfl))
                          simp only [Act.put, List.getElem_toArray, List.getElem_cons_zero, List.getElem_cons_succ, List.setIfInBounds_toArray, List.set_cons_zero, List.set_cons_succ]
                          refine J_takeO 14 (v := ?vr514) rfl (by kernel_rfl) (by kernel_rfl) (by kernel_rfl) (by kernel_rfl) (fun _ _ _ h => h) (Or.inl ⟨by rfl, ?yr514⟩) I0 ?rr514
                          case yr514 => (intro w hSw; obtain ⟨_, _, _, _⟩ := hSw; (go_simp; with_reducible rfl))
                          simp only [Act.put, List.getElem_toArray, List.getElem_cons_zero, List.getElem_cons_succ, List.setIfInBounds_toArray, List.set_cons_zero, List.set_cons_succ]
                          refine J_takeO 15 (v := ?vr515) rfl (by kernel_rfl) (by kernel_rfl) (by kernel_rfl) (by kernel_rfl) (fun _ _ _ h => h) (Or.inl ⟨by rfl, ?yr515⟩) I0 ?rr515
                          case yr515 => (intro w hSw; obtain ⟨_, _, _, _⟩ := hSw; (go_simp; with_reducible rfl))
                          simp only [Act.put, List.getElem_toArray, List.getElem_cons_zero, List.getElem_cons_succ, List.setIfInBounds_toArray, List.set_cons_zero, List.set_cons_succ]
                          refine J_takeO 16 (v := ?vr516) rfl (by kernel_rfl) (by kernel_rfl) (by kernel_rfl) (by kernel_rfl) (fun _ _ _ h => h) (Or.inl ⟨by rfl, ?yr516⟩) I0 ?rr516
                          case yr516 => (intro w hSw; obtain ⟨_, _, _, _⟩ := hSw; (go_simp; with_reducible rfl))
                          simp only [Act.put, List.getElem_toArray, List.getElem_cons_zero, List.getElem_cons_succ, List.setIfInBounds_toArray, List.set_cons_zero, List.set_cons_succ]
                          refine J_takeO 17 (v := ?vr517) rfl (by kernel_rfl) (by kernel_rfl) (by kernel_rfl) (by kernel_rfl) (fun _ _ _ h => h) (Or.inl ⟨by rfl, ?yr517⟩) I0 ?rr517
                          case yr517 => (intro w hSw; obtain ⟨_, _, _, _⟩ := hSw; (go_simp; with_reducible rfl))
                          simp only [Act.put, List.getElem_toArray, List.getElem_cons_zero, List.getElem_cons_succ, List.setIfInBounds_toArray, List.set_cons_zero, List.set_cons_succ]
                          refine J_one 18 rfl (by kernel_rfl) (fun K hK => ?_)
                          go_simp
                          refine (hE.out _).mono ?_
                          rintro e' w' ⟨rfl, rfl⟩
                          refine hK _ _ ⟨fun _ => I0, ?_⟩
                          clear hK K
                          try simp only [Act.put, List.getElem_toArray, List.getElem_cons_zero, List.getElem_cons_succ, List.setIfInBounds_toArray, List.set_cons_zero, List.set_cons_succ]
                          refine J_one 19 rfl (by kernel_rfl) (fun K hK => ?_)
                          go_simp
                          refine hK _ _ ⟨fun _ => I0, ?_⟩
                          clear hK K
                          try simp only [Act.put, List.setIfInBounds_toArray, List.set_cons_zero, List.set_cons_succ]
                          refine J_done (by kernel_rfl) (OnlyOn.normal ?_)
                          go_wp2
                          go_roundw
                          case rel => exact ⟨k + 1, by unfold Hid; omega, by go_num, hso2, hx9⟩
                          case measure => simp [intOf]; omega
                        · have hw1 : W = 7 := cw7.out c6.out (fun h => hc (by have h9 := srt_steps.1 h j (by rw [← hj.out]; exact hlt); rw [← hj.out] at h9; exact h9))
                          subst hw1
                          rw [show decide (cmpT ⟨(tth L j).key, (tth L j).no⟩ ⟨(tth L k).key, (tth L k).no⟩ < 0) = false from decide_eq_false hc] at hE
                          clear hc hso
                          generalize (tth L j).key = s at *
                          generalize (tth L j).no = u at *
                          generalize (tth L k).key = s' at *
                          generalize (tth L k).no = u' at *
                          go_upto_region 33 with fail
                          have I0 : (fun w' : World => w'.cell? (ka.add j) = some (.string s) ∧ w'.cell? (ra.add j) = some (.int .i64 u) ∧ w'.cell? (ka.add k) = some (.string s') ∧ w'.cell? (ra.add k) = some (.int .i64 u')) wr.drew := ⟨z0, z1, z2, z3⟩
                          refine region_J (fun w' : World => w'.cell? (ka.add j) = some (.string s) ∧ w'.cell? (ra.add j) = some (.int .i64 u) ∧ w'.cell? (ka.add k) = some (.string s') ∧ w'.cell? (ra.add k) = some (.int .i64 u')) 20 (by kernel_rfl) ?_
                          clear z0 z1 z2 z3
                          generalize wr.drew = w9 at *
                          refine J_takeO 0 (v := ?vr60) rfl (by kernel_rfl) (by kernel_rfl) (by kernel_rfl) (by kernel_rfl) (fun _ _ _ h => h) (Or.inl ⟨by rfl, ?yr60⟩) I0 ?rr60
                          case yr60 => (intro w hSw; obtain ⟨_, _, _, _⟩ := hSw; (go_simp; with_reducible rfl))
                          simp only [Act.put, List.getElem_toArray, List.getElem_cons_zero, List.getElem_cons_succ, List.setIfInBounds_toArray, List.set_cons_zero, List.set_cons_succ]
                          refine J_takeO 1 (v := ?vr61) rfl (by kernel_rfl) (by kernel_rfl) (by kernel_rfl) (by kernel_rfl) (fun _ _ _ h => h) (Or.inl ⟨by rfl, ?yr61⟩) I0 ?rr61
                          case yr61 => (intro w hSw; obtain ⟨_, _, _, _⟩ := hSw; (go_simp; with_reducible rfl))
                          simp only [Act.put, List.getElem_toArray, List.getElem_cons_zero, List.getElem_cons_succ, List.setIfInBounds_toArray, List.set_cons_zero, List.set_cons_succ]
                          refine J_takeO 2 (v := ?vr62) rfl (by kernel_rfl) (by kernel_rfl) (by kernel_rfl) (by kernel_rfl) (fun _ _ _ h => h) (Or.inl ⟨by rfl, ?yr62⟩) I0 ?rr62
                          case yr62 => (intro w hSw; obtain ⟨_, _, _, _⟩ := hSw; (go_simp; with_reducible rfl))
                          simp only [Act.put, List.getElem_toArray, List.getElem_cons_zero, List.getElem_cons_succ, List.setIfInBounds_toArray, List.set_cons_zero, List.set_cons_succ]
                          refine J_takeO 3 (v := ?vr63) rfl (by kernel_rfl) (by kernel_rfl) (by kernel_rfl) (by kernel_rfl) (fun _ _ _ h => h) (Or.inl ⟨by rfl, ?yr63⟩) I0 ?rr63
                          case yr63 => (intro w hSw; obtain ⟨_, _, _, _⟩ := hSw; (go_simp; with_reducible rfl))
                          simp only [Act.put, List.getElem_toArray, List.getElem_cons_zero, List.getElem_cons_succ, List.setIfInBounds_toArray, List.set_cons_zero, List.set_cons_succ]
                          refine J_takeO 4 (v := ?vr64) rfl (by kernel_rfl) (by kernel_rfl) (by kernel_rfl) (by kernel_rfl) (fun _ _ _ h => h) (Or.inl ⟨by rfl, ?yr64⟩) I0 ?rr64
                          case yr64 => (intro w hSw; obtain ⟨_, _, _, _⟩ := hSw; (go_simp; with_reducible rfl))
                          simp only [Act.put, List.getElem_toArray, List.getElem_cons_zero, List.getElem_cons_succ, List.setIfInBounds_toArray, List.set_cons_zero, List.set_cons_succ]
                          refine J_takeO 5 (v := ?vr65) rfl (by kernel_rfl) (by kernel_rfl) (by kernel_rfl) (by kernel_rfl) (fun _ _ _ h => h) (Or.inl ⟨by rfl, ?yr65⟩) I0 ?rr65
                          case yr65 => (intro w hSw; obtain ⟨_, _, _, _⟩ := hSw; (go_simp; with_reducible rfl))
                          simp only [Act.put, List.getElem_toArray, List.getElem_cons_zero, List.getElem_cons_succ, List.setIfInBounds_toArray, List.set_cons_zero, List.set_cons_succ]
                          refine J_takeO 6 (v := ?vr66) rfl (by kernel_rfl) (by kernel_rfl) (by kernel_rfl) (by kernel_rfl) (fun _ _ _ h => h) (Or.inl ⟨by rfl, ?yr66⟩) I0 ?rr66
                          case yr66 => (intro w hSw; obtain ⟨_, _, _, _⟩ := hSw; (go_simp; with_reducible rfl))
                          simp only [Act.put, List.getElem_toArray, List.getElem_cons_zero, List.getElem_cons_succ, List.setIfInBounds_toArray, List.set_cons_zero, List.set_cons_succ]
                          refine J_takeO 7 (v := ?vr67) rfl (by kernel_rfl) (by kernel_rfl) (by kernel_rfl) (by kernel_rfl) (fun _ _ _ h => h) (Or.inl ⟨by rfl, ?yr67⟩) I0 ?rr67
                          case yr67 => (intro w hSw; obtain ⟨_, _, _, _⟩ := hSw; (go_simp; with_reducible rfl))
                          simp only [Act.put, List.getElem_toArray, List.getElem_cons_zero, List.getElem_cons_succ, List.setIfInBounds_toArray, List.set_cons_zero, List.set_cons_succ]
                          refine J_takeO 8 (v := ?vr68) rfl (by kernel_rfl) (by kernel_rfl) (by kernel_rfl) (by kernel_rfl) (fun _ _ _ h => h) (Or.inl ⟨by rfl, ?yr68⟩) I0 ?rr68
                          case yr68 => (intro w hSw; obtain ⟨_, _, _, _⟩ := hSw; (go_simp; with_reducible rfl))
                          simp only [Act.put, List.getElem_toArray, List.getElem_cons_zero, List.getElem_cons_succ, List.setIfInBounds_toArray, List.set_cons_zero, List.set_cons_succ]
                          refine J_takeO 9 (v := ?vr69) rfl (by kernel_rfl) (by kernel_rfl) (by kernel_rfl) (by kernel_rfl) (fun _ _ _ h => h) (Or.inl ⟨by rfl, ?yr69⟩) I0 ?rr69
                          case yr69 => (intro w hSw; obtain ⟨_, _, _, _⟩ := hSw; (go_simp; with_reducible rfl))
                          simp only [Act.put, List.getElem_toArray, List.getElem_cons_zero, List.getElem_cons_succ, List.setIfInBounds_toArray, List.set_cons_zero, List.set_cons_succ]
                          refine J_takeO 10 (v := ?vr610) rfl (by kernel_rfl) (by kernel_rfl) (by kernel_rfl) (by kernel_rfl) (fun _ _ _ h => h) (Or.inl ⟨by rfl, ?yr610⟩) I0 ?rr610
                          case yr610 => (intro w hSw; obtain ⟨_, _, _, _⟩ := hSw; (go_simp; with_reducible rfl))
                          simp only [Act.put, List.getElem_toArray, List.getElem_cons_zero, List.getElem_cons_succ, List.setIfInBounds_toArray, List.set_cons_zero, List.set_cons_succ]
                          refine J_takeO 11 (v := ?vr611) rfl (by kernel_rfl) (by kernel_rfl) (by kernel_rfl) (by kernel_rfl) (fun _ _ _ h => h) (Or.inl ⟨by rfl, ?yr611⟩) I0 ?rr611
                          case yr611 => (intro w hSw; obtain ⟨_, _, _, _⟩ := hSw; (go_simp; with_reducible rfl))
                          simp only [Act.put, List.getElem_toArray, List.getElem_cons_zero, List.getElem_cons_succ, List.setIfInBounds_toArray, List.set_cons_zero, List.set_cons_succ]
                          refine J_takeO 12 (v := ?vr612) rfl (by kernel_rfl) (by kernel_rfl) (by kernel_rfl) (by kernel_rfl) (fun _ _ _ h => h) (Or.inl ⟨by rfl, ?yr612⟩) I0 ?rr612
                          case yr612 => (intro w hSw; obtain ⟨_, _, _, _⟩ := hSw; (go_simp; with_reducible rfl))
                          simp only [Act.put, List.getElem_toArray, List.getElem_cons_zero, List.getElem_cons_succ, List.setIfInBounds_toArray, List.set_cons_zero, List.set_cons_succ]
                          refine J_takeO 13 (v := ?vr613) rfl (by kernel_rfl) (by kernel_rfl) (by kernel_rfl) (by kernel_rfl) (fun _ _ _ h => h) (Or.inl ⟨by rfl, ?yr613⟩) I0 ?rr613
                          case yr613 => (intro w hSw; obtain ⟨_, _, _, _⟩ := hSw; (go_simp; with_reducible rfl))
                          simp only [Act.put, List.getElem_toArray, List.getElem_cons_zero, List.getElem_cons_succ, List.setIfInBounds_toArray, List.set_cons_zero, List.set_cons_succ]
                          refine J_takeO 14 (v := ?vr614) rfl (by kernel_rfl) (by kernel_rfl) (by kernel_rfl) (by kernel_rfl) (fun _ _ _ h => h) (Or.inl ⟨by rfl, ?yr614⟩) I0 ?rr614
                          case yr614 => (intro w hSw; obtain ⟨_, _, _, _⟩ := hSw; (go_simp; with_reducible rfl))
                          simp only [Act.put, List.getElem_toArray, List.getElem_cons_zero, List.getElem_cons_succ, List.setIfInBounds_toArray, List.set_cons_zero, List.set_cons_succ]
                          refine J_takeO 15 (v := ?vr615) rfl (by kernel_rfl) (by kernel_rfl) (by kernel_rfl) (by kernel_rfl) (fun _ _ _ h => h) (Or.inl ⟨by rfl, ?yr615⟩) I0 ?rr615
                          case yr615 => (intro w hSw; obtain ⟨_, _, _, _⟩ := hSw; (go_simp; with_reducible rfl))
                          simp only [Act.put, List.getElem_toArray, List.getElem_cons_zero, List.getElem_cons_succ, List.setIfInBounds_toArray, List.set_cons_zero, List.set_cons_succ]
                          refine J_takeO 16 (v := ?vr616) rfl (by kernel_rfl) (by kernel_rfl) (by kernel_rfl) (by kernel_rfl) (fun _ _ _ h => h) (Or.inl ⟨by rfl, ?yr616⟩) I0 ?rr616
                          case yr616 => (intro w hSw; obtain ⟨_, _, _, _⟩ := hSw; (go_simp; with_reducible rfl))
                          simp only [Act.put, List.getElem_toArray, List.getElem_cons_zero, List.getElem_cons_succ, List.setIfInBounds_toArray, List.set_cons_zero, List.set_cons_succ]
                          refine J_takeO 17 (v := ?vr617) rfl (by kernel_rfl) (by kernel_rfl) (by kernel_rfl) (by kernel_rfl) (fun _ _ _ h => h) (Or.inl ⟨by rfl, ?yr617⟩) I0 ?rr617
                          case yr617 => (intro w hSw; obtain ⟨_, _, _, _⟩ := hSw; (go_simp; with_reducible rfl))
                          simp only [Act.put, List.getElem_toArray, List.getElem_cons_zero, List.getElem_cons_succ, List.setIfInBounds_toArray, List.set_cons_zero, List.set_cons_succ]
                          refine J_one 18 rfl (by kernel_rfl) (fun K hK => ?_)
                          go_simp
                          refine (hE.out _).mono ?_
                          rintro e' w' ⟨rfl, rfl⟩
                          refine hK _ _ ⟨fun _ => I0, ?_⟩
                          clear hK K
                          try simp only [Act.put, List.getElem_toArray, List.getElem_cons_zero, List.getElem_cons_succ, List.setIfInBounds_toArray, List.set_cons_zero, List.set_cons_succ]
                          refine J_one 19 rfl (by kernel_rfl) (fun K hK => ?_)
                          go_simp
                          refine hK _ _ ⟨fun _ => I0, ?_⟩
                          clear hK K
                          try simp only [Act.put, List.setIfInBounds_toArray, List.set_cons_zero, List.set_cons_succ]
                          refine J_done (by kernel_rfl) (OnlyOn.normal ?_)
                          go_wp2
                          go_ret
                          exact ⟨rfl, hxe.out.trans hx9.out⟩
                      · have hw1 := cw0.out c6.out (srt_steps.2 (fun t ht => hso.out t (by have := hj.out; omega) ht))
                        subst hw1
                        have hki : ¬ (k : Int) < (L.length : Int) := by omega
                        go_wp2
                        go_ret
                        exact ⟨rfl, hxe.out.trans hx.out⟩
end Go.Proofs.YtpijfiaecicpfaaGreat

namespace Go.Proofs.YtpijfiaecicpfaaGreat
open Go.RowKit Go.Shelf
set_option linter.unusedVariables false
set_option linter.unusedSimpArgs false
/-- An index that has been made since a world. -/
def TA (w0 w : World) (t : Nat) (L : List Te) : Prop := w0.heap.size ≤ t ∧ Ext w0 w ∧ ∃ h p T fT, TreeAt 0 w t L h p T fT ∧ ∀ a, a < w0.heap.size → fT a = 0
section
variable {w0 w w' : World} {t : Nat} {L : List Te}
theorem TA.ext (H : TA w0 w t L) (hx : Ext w w') : TA w0 w' t L := by
  obtain ⟨h1, h2, h, p, T, fT, h3, h4⟩ := H
  exact ⟨h1, h2.trans hx, h, p, T, fT, h3.ext hx, h4⟩
theorem TA.turn {h p : Nat} {T : BT} {fT : Nat → Nat} {L' : List Te} (H : TreeAt 0 w t L h p T fT) (h1 : w0.heap.size ≤ t) (hx : Ext w0 w) (h4 : ∀ a, a < w0.heap.size → fT a = 0) (ht : TreeTurned 0 w w' t fT L') : TA w0 w' t L' := by
  obtain ⟨h', p', T', f', H', k1, k2⟩ := ht
  refine ⟨h1, hx.trans' k2 (fun a ha => ?_), h', p', T', f', H', fun a ha => ?_⟩
  · show one1 t a + fT a = 0
    rw [h4 a ha, show one1 t a = 0 from if_neg (by omega)]
  · have := k1 a (Nat.lt_of_lt_of_le ha hx.size)
    have := h4 a ha
    omega
theorem TA.lt (H : TA w0 w t L) : t < w.heap.size := by
  obtain ⟨h1, h2, h, p, T, fT, h3, h4⟩ := H
  exact h3.lt
theorem TA.le (H : TA w0 w t L) : L.length ≤ 10000 := by
  obtain ⟨h1, h2, h, p, T, fT, h3, h4⟩ := H
  exact h3.le
theorem TA.sr (H : TA w0 w t L) : Srt L := by
  obtain ⟨h1, h2, h, p, T, fT, h3, h4⟩ := H
  exact h3.sr
theorem New_TA (w0 w : World) (hx : Ext w0 w) : Calls Tryz.prog 7 #[] w fun e w' => ∃ t, e = .returned (.pointer (some ⟨t, 0, none⟩)) ∧ TA w0 w' t [] ∧ Ext w w' := by
  refine (New_any w).mono ?_
  rintro e w' ⟨t, rfl, h1, h2, p, fT, h3, h4⟩
  exact ⟨t, rfl, ⟨Nat.le_trans hx.size h1, hx.trans h2, 0, p, _, fT, h3, fun a ha => h4 a (Nat.lt_of_lt_of_le ha hx.size)⟩, h2⟩
theorem Put_TA (H : TA w0 w t L) (s : ByteArray) (n : Int) : Calls Tryz.prog 16 #[.pointer (some ⟨t, 0, none⟩), .string s, .int .i64 n] w fun e w' => e = .returned (.int .i64 (putEr L ⟨s, n⟩)) ∧ TA w0 w' t (putLs L ⟨s, n⟩) := by
  obtain ⟨h1, h2, h, p, T, fT, h3, h4⟩ := H
  refine (Put_any t L h p T fT s n w h3).mono ?_
  rintro e w' ⟨rfl, ht⟩
  exact ⟨rfl, TA.turn h3 h1 h2 h4 ht⟩
theorem Len_TA (H : TA w0 w t L) : Calls Tryz.prog 18 #[.pointer (some ⟨t, 0, none⟩)] w (Give (.int .i64 L.length) w) := by
  obtain ⟨h1, h2, h, p, T, fT, h3, h4⟩ := H
  exact Len_any t L h p T fT w h3
theorem Rank_TA (H : TA w0 w t L) (s : ByteArray) (i : Int) : Calls Tryz.prog 17 #[.pointer (some ⟨t, 0, none⟩), .string s, .int .i64 i] w (Give (.int .i64 (rankT L ⟨s, i⟩)) w) := by
  obtain ⟨h1, h2, h, p, T, fT, h3, h4⟩ := H
  exact Rank_any t L h p T fT s i w h3
end
def seqK (k : Nat) : List Te := (List.range k).map fun (j : Nat) => ⟨⟨#[107]⟩, (j : Int) + 1⟩
theorem seq_put : ∀ k, k < 5 → putEr (seqK k) ⟨⟨#[107]⟩, (k : Int) + 1⟩ = 0 ∧ putLs (seqK k) ⟨⟨#[107]⟩, (k : Int) + 1⟩ = seqK (k + 1)
  | 0, _ => ⟨rfl, rfl⟩
  | 1, _ => ⟨rfl, rfl⟩
  | 2, _ => ⟨rfl, rfl⟩
  | 3, _ => ⟨rfl, rfl⟩
  | 4, _ => ⟨rfl, rfl⟩
  | k + 5, h => by omega
theorem seq_rank : rankT (seqK 5) ⟨⟨#[]⟩, 0⟩ = 0 := rfl
set_option maxRecDepth 100000 in
set_option maxHeartbeats 4000000 in
theorem known_any (w : World) : Calls Tryz.prog 6 #[] w (Give (.bool true) w) := by
  have hN := hid (New_TA w w (Ext.refl w))
  go_enter Tryz.func6, Tryz.ntmps6
  go_wp2_with fail
  refine hN.out.mono ?_
  rintro e w1 ⟨t, rfl, hT, -⟩
  replace hT := hid hT
  go_wp2_with fail
  go_loopw [2] (fun i wr => ∃ k : Nat, k ≤ 5 ∧ i = .int .i64 ((k : Int) + 1) ∧ Hid (TA w wr t (seqK k))) (fun i _ => 6 - (intOf i).toNat)
  case atStart => exact ⟨0, by omega, rfl, hT⟩
  case round =>
    obtain ⟨k, hk, rfl, hT⟩ := hrel
    by_cases hlt : k < 5
    · have hP := hid (Put_TA hT.out ⟨#[107]⟩ ((k : Int) + 1))
      obtain ⟨q1, q2⟩ := seq_put k hlt
      rw [q1, q2] at hP
      have hle : (k : Int) + 1 ≤ 5 := by omega
      clear q1 q2
      go_wp2_with fail
      refine hP.out.mono ?_
      rintro e w2 ⟨rfl, hT2⟩
      replace hT2 := hid hT2
      clear hP hT
      go_wp2_with fail
      go_roundw
      case rel => exact ⟨k + 1, by omega, by go_num, hT2⟩
      case measure => simp [intOf]; omega
    · obtain rfl : k = 5 := by omega
      have hR := hid (fun w' (hx : Ext wr w') => Rank_TA (hT.out.ext hx) ⟨#[]⟩ 0)
      rw [seq_rank] at hR
      have hL := hid (fun w' (hx : Ext wr w') => Len_TA (hT.out.ext hx))
      rw [show (seqK 5).length = 5 from rfl] at hL
      obtain ⟨h1, h2, h, p, T, fT, h3, h4⟩ := hT.out
      have hI := hid (Index_any t _ h p T fT wr h3)
      obtain ⟨x, b, c, hl, hx1, hx2⟩ := five h3.sh h3.l4 h3.l1 (by rw [h3.fl]; rfl)
      rw [hl] at hI
      clear h3 h4 hl hT
      replace h2 := hid h2
      go_wp2_with fail
      refine hI.out.mono ?_
      rintro e w2 ⟨v, rfl, ⟨vs, g, own2, nl2, -⟩, hx⟩
      obtain ⟨v1, ⟨uk, ur, ud⟩, v2, g0, g1, g2, rfl, hl1, -, c1, -, -⟩ := NL.cut (x1 := []) (x := x) (x2 := [b, c]) nl2
      obtain rfl := List.length_eq_zero_iff.1 hl1
      obtain ⟨gb, cb, rfl, -, hgb, hc3, hcb, -⟩ := own_sliceK own2 (by show 0 < 3; decide)
      have y0 := own2.cells (g := gb) rfl 0 uk rfl
      have y2 := own2.cells (g := gb) rfl 2 ud rfl
      rw [lit_add] at y0 y2
      obtain ⟨Ak, ck, rfl, -⟩ := own_form (show w2.ownsRow wr.heap.size 9 1 uk x.keys.length (strv x.keys) from c1.1)
      obtain ⟨Ad, cd, rfl, -⟩ := own_form (show w2.ownsRow wr.heap.size 3 1 ud x.kids.length (ints x.kids) from c1.2.2.1)
      rw [hx1] at y0
      rw [hx2] at y2
      replace hx := hid hx
      clear own2 nl2 c1 hI hx1 hx2 hl1
      have hA := heap_alloc_new w2 (.cells #[.slice (some ⟨gb, 0, none⟩) 3 cb] 40)
      have hxa := (Ext.refl w2).alloc_right (.cells #[.slice (some ⟨gb, 0, none⟩) 3 cb] 40)
      have za : (w2.alloc (.cells #[.slice (some ⟨gb, 0, none⟩) 3 cb] 40)).cell? ⟨w2.heap.size, 0, none⟩ = some (.slice (some ⟨gb, 0, none⟩) 3 cb) := by rw [Lib.cell_of_heap hA]; rfl
      replace y0 := hxa.cell y0
      replace y2 := hxa.cell y2
      replace hx := hid (hx.out.trans hxa)
      have lz := World.block_lt_of_cell? _ _ za
      dsimp only at lz
      have ly := World.block_lt_of_cell? _ _ y0
      dsimp only at ly
      clear hA hxa
      go_upto_region 8 with fail
      generalize w2.alloc (.cells #[.slice (some ⟨gb, 0, none⟩) 3 cb] 40) = w3 at *
      go_wp2_with fail
      refine (hR.out w3 hx.out).mono ?_
      rintro e w4 ⟨rfl, hx4⟩
      have hx4' := hid (hx.out.trans hx4)
      clear hx4
      go_wp2_with fail
      refine (hL.out w4 hx4'.out).mono ?_
      rintro e w5 ⟨rfl, hx5⟩
      have hx5' := hid (h2.out.trans (hx4'.out.trans hx5))
      clear hx5
      go_wp2
      go_ret
      exact ⟨rfl, hx5'.out⟩
end Go.Proofs.YtpijfiaecicpfaaGreat

