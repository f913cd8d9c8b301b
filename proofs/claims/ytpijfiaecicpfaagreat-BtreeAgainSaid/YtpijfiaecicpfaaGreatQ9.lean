/-
  Taking an entry out, plainly: nodes that join, that lend; the last entry; the entry itself. No program in sight; The methods of no index; The reference's Check and Len; what two lists have in common; holds; The reference's Entries, wrong and Check; What 'known' of the statements asks.
-/
import Derived.Test.YtpijfiaecicpfaaGreatQ8
import Derived.Test.YtpijfiaecicpfaaGreatQ6
import Derived.Test.YtpijfiaecicpfaaGreatQ1
import Derived.Test.YtpijfiaecicpfaaGreatQ2
set_option maxRecDepth 100000
set_option maxHeartbeats 40000000
set_option linter.unusedVariables false
set_option linter.unusedSimpArgs false
namespace Go.Proofs.YtpijfiaecicpfaaGreat
open Go.RowKit Go.Shelf
theorem rEntries_any (n : Nat) (xs : List Nx) (hok : okP n (allK xs)) (hs : shpX xs) : ∀ (h k : Nat) (A : Option Addr) (c : Nat) (w : World), RX w A n c xs → UD xs h k → (flat h (btx xs h k)).length ≤ 100000 → Calls Tryz.prog 62 #[.agg #[.slice A n c], .int .i64 k] w (GiveE (flat h (btx xs h k)) w) := by
  intro h
  induction h with
  | zero =>
    intro k A c w hr hU hb
    have hl := hr.len
    have hk0 : (xth xs k).kids.length = 0 := by rw [← kd_len, hU.2]; rfl
    have hE : gE (ents (xth xs k)) (fun _ => []) ((ents (xth xs k)).length + 1) = flat 0 (btx xs 0 k) := gE_leaf (fun _ => rfl)
    rw [← hE]
    exact rEnt_step A n c xs k (fun _ => []) w hr (by have := hU.1; omega) (hs k hU.1) (fun q hq => by omega) (fun _ _ => rfl) (by unfold Hid; rw [hE]; exact hb)
  | succ h ih =>
    intro k A c w hr hU hb
    have hl := hr.len
    have s1 := shape_is (hs k hU.1)
    have hsh := btx_shw hs hU
    have okA : okP xs.length (allK xs) := by rw [hl]; exact hok
    have hE : gE (ents (xth xs k)) (fun q => flat h (btx xs h (kdn xs k q))) ((ents (xth xs k)).length + 1) = flat (h + 1) (btx xs (h + 1) k) := gE_node hsh.1 (fun i K hK => by
      rw [List.getElem?_map] at hK
      cases e : (kd xs k)[i]? with
      | none => rw [e] at hK; cases hK
      | some u =>
        rw [e] at hK
        injection hK with hK
        rw [← hK, show kdn xs k i = u by simp [kdn, List.getD, e]])
    have hk0 : (xth xs k).kids.length ≠ 0 := fun e => hU.2.1 (List.eq_nil_of_length_eq_zero (by rw [kd_len]; exact e))
    rw [← hE]
    refine rEnt_step A n c xs k _ w hr (by have := hU.1; omega) (hs k hU.1) (fun q hq w' hx => ?_) (fun e => absurd e hk0) (by unfold Hid; rw [hE]; exact hb)
    obtain ⟨e1, e2, e3⟩ := kdn_is okA hq
    rw [e1]
    refine ih _ A c w' (hr.ext hx) (hU.2.2 _ e2) ?_
    have h1 : (gE (ents (xth xs k)) (fun q => flat h (btx xs h (kdn xs k q))) (q + 1)).length ≤ _ := gE_len (j := (ents (xth xs k)).length + 1) (by rw [ents_len s1.1]; omega)
    rw [hE, gE, List.length_append, List.length_append] at h1
    omega
theorem rEntriesU_any (n : Nat) (xs : List Nx) (hok : okP n (allK xs)) (hs : shpX xs) (h : Nat) (A : Option Addr) (c : Nat) (w : World) (hr : RX w A n c xs) (hU : UD xs h 0) (hb : (flat h (btx xs h 0)).length ≤ 100000) : Calls Tryz.prog 40 #[.agg #[.slice A n c]] w (GiveE (flat h (btx xs h 0)) w) := by
  have hC := hid (fun w' (hx : Ext w w') => rEntries_any n xs hok hs h 0 A c w' (hr.ext hx) hU hb)
  clear hr hok hs hU hb
  have hx1 := hid ((Ext.refl w).alloc_right (.cells #[.slice A n c] 40))
  go_enter Tryz.func40, Tryz.ntmps40
  go_wp2_with fail
  refine (hC.out _ hx1.out).mono ?_
  rintro e w2 ⟨A1, c1, A2, c2, rfl, h1, h2, hx, f1, f2⟩
  have hfin : Hid (GiveE (flat h (btx xs h 0)) w (.returned (.tuple #[.slice A1 (flat h (btx xs h 0)).length c1, .slice A2 (flat h (btx xs h 0)).length c2])) w2) := ⟨A1, c1, A2, c2, rfl, h1, h2, hx1.out.trans hx, f1.mono hx1.out.size, f2.mono hx1.out.size⟩
  clear h1 h2 hx f1 f2
  go_wp2
  go_ret2
  exact hfin.out
section
variable {xs : List Nx}
theorem wX1 (h : xs.length < 1 ∨ 2400 < xs.length) : wrongX xs = 1 := by unfold wrongX; rw [if_pos h]
theorem wX2 (h1 : 1 ≤ xs.length ∧ xs.length ≤ 2400) (h : ¬ shpX xs) : wrongX xs = 2 := by unfold wrongX; rw [if_neg (by omega), if_pos (cdec_not.2 h)]
theorem wX3 (h1 : 1 ≤ xs.length ∧ xs.length ≤ 2400) (h2 : shpX xs) (h : treeB xs = false) : wrongX xs = 3 := by unfold wrongX; rw [if_neg (by omega), if_neg (fun hc => cdec_not.1 hc h2), if_pos h]
theorem wX4 (h1 : 1 ≤ xs.length ∧ xs.length ≤ 2400) (h2 : shpX xs) (h3 : treeB xs = true) (h : ¬ fullP xs) : wrongX xs = 4 := by unfold wrongX; rw [if_neg (by omega), if_neg (fun hc => cdec_not.1 hc h2), if_neg (by rw [h3]; decide), if_pos (cdec_not.2 h)]
theorem wX5 (h1 : 1 ≤ xs.length ∧ xs.length ≤ 2400) (h2 : shpX xs) (h3 : treeB xs = true) (h4 : fullP xs) (h : ¬ ∃ h, UD xs h 0) : wrongX xs = 5 := by unfold wrongX; rw [if_neg (by omega), if_neg (fun hc => cdec_not.1 hc h2), if_neg (by rw [h3]; decide), if_neg (fun hc => cdec_not.1 hc h4), if_pos (cdec_not.2 h)]
theorem wX6 (h1 : 1 ≤ xs.length ∧ xs.length ≤ 2400) (h2 : shpX xs) (h3 : treeB xs = true) (h4 : fullP xs) (h5 : ∃ h, UD xs h 0) (h : ¬ ∀ x ∈ entX xs, okT x = true) : wrongX xs = 6 := by unfold wrongX; rw [if_neg (by omega), if_neg (fun hc => cdec_not.1 hc h2), if_neg (by rw [h3]; decide), if_neg (fun hc => cdec_not.1 hc h4), if_neg (fun hc => cdec_not.1 hc h5), if_pos (cdec_not.2 h)]
theorem wX7 (h1 : 1 ≤ xs.length ∧ xs.length ≤ 2400) (h2 : shpX xs) (h3 : treeB xs = true) (h4 : fullP xs) (h5 : ∃ h, UD xs h 0) (h6 : ∀ x ∈ entX xs, okT x = true) (h : ¬ Srt (entX xs)) : wrongX xs = 7 := by unfold wrongX; rw [if_neg (by omega), if_neg (fun hc => cdec_not.1 hc h2), if_neg (by rw [h3]; decide), if_neg (fun hc => cdec_not.1 hc h4), if_neg (fun hc => cdec_not.1 hc h5), if_neg (fun hc => cdec_not.1 hc h6), if_pos (cdec_not.2 h)]
end
theorem tth_key {l : List Te} {k : Nat} (h : k < l.length) : sth (l.map Te.key) k = (tth l k).key ∧ ith (l.map Te.no) k = (tth l k).no := by
  rw [sth_get (by simpa using h), ith_get (by simpa using h), tth_get h, List.getElem_map, List.getElem_map]
  exact ⟨rfl, rfl⟩
def leastN (xs : List Nx) (k : Nat) : Nat := if k = 0 then min 1 (xth xs 0).kids.length else 2
theorem rwrong_any (A : Option Addr) (n c : Nat) (xs : List Nx) (w : World) (hr : RX w A n c xs) : Calls Tryz.prog 61 #[.agg #[.slice A n c]] w (Give (.int .i64 (wrongX xs)) w) := by
  have hl := hid hr.len
  have hm := RX.max hr
  have hx1 := (Ext.refl w).alloc_right (.cells #[.slice A n c] 40)
  have hb0 := heap_alloc_new w (.cells #[.slice A n c] 40)
  have zb : (w.alloc (.cells #[.slice A n c] 40)).cell? ⟨w.heap.size, 0, none⟩ = some (.slice A n c) := by rw [Lib.cell_of_heap hb0]; rfl
  have lb := World.block_lt_of_cell? _ _ zb
  dsimp only at lb
  replace hr := hid hr
  replace hx1 := hid hx1
  have hW : Hid (∃ W, wrongX xs = W) := ⟨_, rfl⟩
  obtain ⟨W, hW⟩ := hW.out
  rw [hW]
  replace hW := hid hW
  clear hb0
  by_cases h1 : n < 1 ∨ 2400 < n
  · have hw1 : W = 1 := by rw [← hW.out]; exact wX1 (by rw [hl.out]; exact h1)
    subst hw1
    rcases h1 with h1 | h1
    · obtain rfl : n = 0 := by omega
      go_enter Tryz.func61, Tryz.ntmps61
      go_wp2
      go_ret
      exact ⟨rfl, hx1.out⟩
    · have h2 : ¬ n < 1 := by omega
      have h3 : (2400 : Int) < (n : Int) := by omega
      go_enter Tryz.func61, Tryz.ntmps61
      go_wp2
      go_ret
      exact ⟨rfl, hx1.out⟩
  have c1 : Hid (1 ≤ xs.length ∧ xs.length ≤ 2400) := by have := hl.out; unfold Hid; omega
  have hn1 : ¬ n < 1 := by omega
  have hn2 : ¬ (2400 : Int) < (n : Int) := by omega
  have hn3 : n ≤ 2400 := by omega
  have hn4 : 0 < n := by omega
  clear h1
  go_enter Tryz.func61, Tryz.ntmps61
  go_upto_region 3 with fail
  obtain ⟨b, hb⟩ : ∃ b, b = w.heap.size := ⟨_, rfl⟩
  rw [← hb] at zb lb
  simp only [← hb]
  replace hb := hid hb
  generalize w.alloc (.cells #[.slice A n c] 40) = w1 at *
  have hcell : Hid (∀ w', Ext w1 w' → w'.cell? ⟨b, 0, none⟩ = some (.slice A n c) ∧ b < w'.heap.size) := fun w' hx => ⟨hx.cell zb, Nat.lt_of_lt_of_le lb hx.size⟩
  clear zb lb
  go_wp2_with fail
  go_loopw [3] (fun i wr => ∃ k : Nat, k ≤ n ∧ i = .int .i64 k ∧ Hid (∀ j, j < k → shapeB (xth xs j) = true) ∧ Hid (Ext w1 wr)) (fun i _ => n - (intOf i).toNat)
  case atStart => exact ⟨0, by omega, rfl, fun j hj => by omega, Ext.refl _⟩
  case round =>
    obtain ⟨k, hk, rfl, hsh, hx⟩ := hrel
    obtain ⟨zb, lb⟩ := hcell.out wr hx.out
    by_cases hlt : k < n
    · obtain ⟨ad0, A1, c1', A2, c2, A3, c3, rfl, y0, y1, y2, r1, r2, r3⟩ := (hr.out.ext (hx1.out.trans hx.out)).at_ hlt
      have m1 := (Rd.max r1).1
      have m2 := (Rd.max r2).1
      have m3 := (Rd.max r3).1
      have hki : (k : Int) < (n : Int) := by omega
      cases hsk : shapeB (xth xs k) with
      | false =>
        have hC := hid (fun w' => rShaped_any A1 A2 A3 _ _ _ c1' c2 c3 w' m1 m2 m3)
        rw [show shapeN _ _ _ = false from hsk] at hC
        have hw1 : W = 2 := by rw [← hW.out]; exact wX2 c1.out (fun h => by rw [h k (by rw [hl.out]; exact hlt)] at hsk; cases hsk)
        subst hw1
        clear hsk hsh r1 r2 r3
        go_wp2_with fail
        refine (hC.out _).mono ?_
        rintro e w2 ⟨rfl, hx2⟩
        go_wp2
        go_ret
        exact ⟨rfl, hx1.out.trans (hx.out.trans hx2)⟩
      | true =>
        have hC := hid (fun w' => rShaped_any A1 A2 A3 _ _ _ c1' c2 c3 w' m1 m2 m3)
        rw [show shapeN _ _ _ = true from hsk] at hC
        have hsh2 : Hid (∀ j, j < k + 1 → shapeB (xth xs j) = true) := fun j hj => by
          by_cases e : j = k
          · rw [e]; exact hsk
          · exact hsh.out j (by omega)
        clear hsk hsh r1 r2 r3
        go_wp2_with fail
        refine (hC.out _).mono ?_
        rintro e w2 ⟨rfl, hx2⟩
        have hx3 := hid (hx.out.trans hx2)
        clear hx2 hC
        go_wp2_with fail
        go_roundw
        case rel => exact ⟨k + 1, by omega, by go_num, hsh2, hx3⟩
        case measure => simp [intOf]; omega
    · obtain rfl : n = k := by omega
      have c2 : Hid (shpX xs) := fun j hj => hsh.out j (by rw [← hl.out]; exact hj)
      have h5 : Hid (∀ k, k < n → (xth xs k).kids.length ≤ 5) := fun k hk => by
        have := shape_is (c2.out k (by rw [hl.out]; exact hk))
        omega
      have hC := hid (fun w' (hx' : Ext wr w') => rTree_any A n c xs w' (hr.out.ext (hx1.out.trans (hx.out.trans hx'))) (by omega) hn3 h5)
      clear hsh hlt hk
      cases ht : treeB xs with
      | false =>
        have hw1 : W = 3 := by rw [← hW.out]; exact wX3 c1.out c2.out ht
        subst hw1
        rw [ht] at hC
        clear ht
        go_wp2_with fail
        refine (hC.out _ (Ext.refl _)).mono ?_
        rintro e w2 ⟨rfl, hx2⟩
        go_wp2
        go_ret
        exact ⟨rfl, hx1.out.trans (hx.out.trans hx2)⟩
      | true =>
        rw [ht] at hC
        have c3 := hid ht
        clear ht
        go_wp2_with fail
        refine (hC.out _ (Ext.refl _)).mono ?_
        rintro e w2 ⟨rfl, hx2⟩
        replace hx := hid (hx.out.trans hx2)
        clear hC hx2 zb lb
        obtain ⟨zb, lb⟩ := hcell.out w2 hx.out
        go_upto_region 10 with fail
        have hle0 : Hid (∀ j, j < 0 → leastN xs j ≤ (xth xs j).keys.length) := fun j hj => by omega
        replace hx := hid hx.out
        clear lb zb
        go_wp2_with fail
        go_loopw [4] (fun i wr => ∃ k : Nat, k ≤ n ∧ i = .int .i64 k ∧ Hid (∀ j, j < k → leastN xs j ≤ (xth xs j).keys.length) ∧ Hid (Ext w1 wr)) (fun i _ => n - (intOf i).toNat)
        case atStart => exact ⟨0, by omega, rfl, hle0, hx⟩
        case round =>
          clear hx hle0
          obtain ⟨k, hk, rfl, hfu, hx⟩ := hrel
          obtain ⟨zb, lb⟩ := hcell.out wr hx.out
          by_cases hlt : k < n
          · obtain ⟨ad0, A1, c1', A2, c2', A3, c3', rfl, y0, -, y2, r1, -, r3⟩ := (hr.out.ext (hx1.out.trans hx.out)).at_ hlt
            have m1 := (Rd.max r1).1
            have m3 := (Rd.max r3).1
            have hki : (k : Int) < (n : Int) := by omega
            have hfs := hid (fun (h : leastN xs k ≤ (xth xs k).keys.length) j (hj : j < k + 1) => (by
              by_cases e : j = k
              · rw [e]; exact h
              · exact hfu.out j (by omega) : leastN xs j ≤ (xth xs j).keys.length))
            have hnf := hid (fun (h : ¬ leastN xs k ≤ (xth xs k).keys.length) => wX4 c1.out c2.out c3.out (fun hf => h (hf k (by rw [hl.out]; exact hlt))))
            rw [hW.out] at hnf
            clear hfu r1 r3
            rcases Nat.eq_zero_or_pos k with rfl | hk0
            · have hls : leastN xs 0 = min 1 (xth xs 0).kids.length := rfl
              rw [hls] at hfs hnf
              clear hls
              generalize (xth xs 0).keys.length = a at *
              generalize (xth xs 0).kids.length = d at *
              have y0' : wr.cell? ad0 = some (.slice A1 a c1') := by rw [Nat.zero_mul, show ad0.add 0 = ad0 by unfold Addr.add; simp] at y0; exact y0
              have y2' : wr.cell? ⟨ad0.block, ad0.off + 2, none⟩ = some (.slice A3 d c3') := by rw [Nat.zero_mul, show ad0.add 0 = ad0 by unfold Addr.add; simp] at y2; exact y2
              rcases Nat.eq_zero_or_pos d with rfl | hd0
              · have hfs2 := hid (hfs.out (by omega))
                clear hfs hnf
                go_wp2
                go_roundw
                case rel => exact ⟨0 + 1, by omega, by go_num, hfs2, hx⟩
                case measure => simp [intOf]; omega
              · have hd1 : (1 : Int) ≤ (d : Int) := by omega
                have hmn : min (1 : Int) (d : Int) = 1 := by omega
                have hmn2 : min 1 d = 1 := by omega
                rw [hmn2] at hfs hnf
                clear hmn2
                rcases Nat.eq_zero_or_pos a with rfl | ha0
                · have hw1 := hnf.out (by omega)
                  subst hw1
                  clear hfs hnf
                  go_wp2
                  go_ret
                  exact ⟨rfl, hx1.out.trans hx.out⟩
                · have hfs2 := hid (hfs.out (by omega))
                  have ha1 : ¬ (a : Int) < 1 := by omega
                  have ha2 : ¬ a < 1 := by omega
                  clear hfs hnf
                  go_wp2
                  go_roundw
                  case rel => exact ⟨0 + 1, by omega, by go_num, hfs2, hx⟩
                  case measure => simp [intOf]; omega
            · have hls : leastN xs k = 2 := if_neg (by omega)
              rw [hls] at hfs hnf
              clear hls
              generalize (xth xs k).keys.length = a at *
              generalize (xth xs k).kids.length = d at *
              have hk1 : ((k : Int) == 0) = false := by rw [beq_eq_false_iff_ne]; omega
              have hk2 : ¬ k = 0 := by omega
              by_cases ha : 2 ≤ a
              · have hfs2 := hid (hfs.out ha)
                have ha1 : ¬ (a : Int) < 2 := by omega
                have ha2 : ¬ a < 2 := by omega
                clear hfs hnf
                go_wp2
                go_roundw
                case rel => exact ⟨k + 1, by omega, by go_num, hfs2, hx⟩
                case measure => simp [intOf]; omega
              · have hw1 := hnf.out ha
                subst hw1
                have ha1 : (a : Int) < 2 := by omega
                have ha2 : a < 2 := by omega
                clear hfs hnf
                go_wp2
                go_ret
                exact ⟨rfl, hx1.out.trans hx.out⟩
          · obtain rfl : n = k := by omega
            have c4 : Hid (fullP xs) := fun j hj => hfu.out j (by rw [← hl.out]; exact hj)
            have tp := treeB_iff.1 c3.out
            have hUT := hid (tree_ut tp (by rw [hl.out]; exact hn4))
            have okN : Hid (okP n (allK xs)) := by have := tp.1; rw [hl.out] at this; exact this
            have hsl := hid (sub_le tp (by rw [hl.out]; exact hn4) hUT.out)
            have hC := hid (fun w' (hx' : Ext wr w') => rDepths_any A n c xs okN.out xs.length 0 0 w' (hr.out.ext (hx1.out.trans (hx.out.trans hx'))) hUT.out (by omega) (by have := hl.out; omega) (by have := hsl.out; have := hl.out; omega))
            have hds := hid (dps_same hUT.out)
            have hdl : (dps xs xs.length 0 0).length ≤ 2400 := by have := dps_len (xs := xs) (f := xs.length) (k := 0) (d := 0); have := hsl.out; have := hl.out; omega
            generalize dps xs xs.length 0 0 = D at *
            clear hfu hlt hk tp
            go_wp2_with fail
            refine (hC.out _ (Ext.refl _)).mono ?_
            rintro e wd ⟨v, rfl, own2, hx2⟩
            obtain ⟨Ad, cd, rfl, hrd⟩ := own_rd own2
            have hrD : Hid (RdI wd Ad D.length cd D) := hrd
            have hxd := hid (hx.out.trans hx2)
            clear hC hx2 zb lb own2 hrd hx
            go_wp2_with fail
            go_loopw [7] (fun i wr => ∃ k : Nat, k ≤ D.length ∧ i = .int .i64 k ∧ Hid (∀ j, j < k → ith D j = ith D 0) ∧ Hid (Ext wd wr)) (fun i _ => D.length - (intOf i).toNat)
            case atStart => exact ⟨0, by omega, rfl, fun j hj => by omega, Ext.refl _⟩
            case round =>
              obtain ⟨k, hk, rfl, hde, hx⟩ := hrel
              by_cases hlt : k < D.length
              · obtain ⟨da, rfl, z0⟩ := rdi_at (hrD.out.ext hx.out) hlt
                obtain ⟨da', e0, z1⟩ := rdi_at (hrD.out.ext hx.out) (k := 0) (by omega)
                injection e0 with e0
                subst e0
                rw [show da.add 0 = da by unfold Addr.add; simp] at z1
                have hki : (k : Int) < (D.length : Int) := by omega
                have hk0 : 0 < D.length := by omega
                have hx9 := hid hx.out.drew_right
                by_cases he : ith D k = ith D 0
                · have hde2 : Hid (∀ j, j < k + 1 → ith D j = ith D 0) := fun j hj => by
                    by_cases e : j = k
                    · rw [e]; exact he
                    · exact hde.out j (by omega)
                  rw [he] at z0
                  clear he hde
                  obtain ⟨u0, hu0⟩ : ∃ u0, u0 = ith D 0 := ⟨_, rfl⟩
                  obtain ⟨u, hu⟩ : ∃ u, u = u0 := ⟨_, rfl⟩
                  rw [← hu0] at z0 z1
                  subst hu
                  clear hu0
                  go_upto_region 22 with fail
                  have I0 : (fun w' : World => w'.cell? (da.add k) = some (.int .i64 u) ∧ w'.cell? da = some (.int .i64 u)) wr.drew := ⟨z0, z1⟩
                  refine region_J (fun w' : World => w'.cell? (da.add k) = some (.int .i64 u) ∧ w'.cell? da = some (.int .i64 u)) 8 (by kernel_rfl) ?_
                  clear z0 z1
                  generalize wr.drew = w9 at *
                  refine JO 0 (v := ?vr10) I0 ?yr10 ?rr10
                  case yr10 => (intro w h; obtain ⟨_, _⟩ := h; go_simp; with_reducible rfl)
                  simp only [Act.put, lyA, lyB, lyC, lyD, lyE, lyF]
                  refine JO 1 (v := ?vr11) I0 ?yr11 ?rr11
                  case yr11 => (intro w h; obtain ⟨_, _⟩ := h; go_simp; with_reducible rfl)
                  simp only [Act.put, lyA, lyB, lyC, lyD, lyE, lyF]
                  refine JO 2 (v := ?vr12) I0 ?yr12 ?rr12
                  case yr12 => (intro w h; obtain ⟨_, _⟩ := h; go_simp; with_reducible rfl)
                  simp only [Act.put, lyA, lyB, lyC, lyD, lyE, lyF]
                  refine JO 3 (v := ?vr13) I0 ?yr13 ?rr13
                  case yr13 => (intro w h; obtain ⟨_, _⟩ := h; go_simp; with_reducible rfl)
                  simp only [Act.put, lyA, lyB, lyC, lyD, lyE, lyF]
                  refine JO 4 (v := ?vr14) I0 ?yr14 ?rr14
                  case yr14 => (intro w h; obtain ⟨_, _⟩ := h; go_simp; with_reducible rfl)
                  simp only [Act.put, lyA, lyB, lyC, lyD, lyE, lyF]
                  refine JO 5 (v := ?vr15) I0 ?yr15 ?rr15
                  case yr15 => (intro w h; obtain ⟨_, _⟩ := h; go_simp; with_reducible rfl)
                  simp only [Act.put, lyA, lyB, lyC, lyD, lyE, lyF]
                  refine JO 6 (v := ?vr16) I0 ?yr16 ?rr16
                  case yr16 => (intro w h; obtain ⟨_, _⟩ := h; go_simp; with_reducible rfl)
                  simp only [Act.put, lyA, lyB, lyC, lyD, lyE, lyF]
                  refine JO 7 (v := ?vr17) I0 ?yr17 ?rr17
                  case yr17 => (intro w h; obtain ⟨_, _⟩ := h; go_simp; with_reducible rfl)
                  simp only [Act.put, lyA, lyB, lyC, lyD, lyE, lyF]
                  refine J_done (by kernel_rfl) (OnlyOn.normal ?_)
                  go_wp2
                  go_roundw
                  case rel => exact ⟨k + 1, by omega, by go_num, hde2, hx9⟩
                  case measure => simp [intOf]; omega
                · have hw1 : W = 5 := by rw [← hW.out]; exact wX5 c1.out c2.out c3.out c4.out (fun h => he (hds.out.1 h k hlt))
                  subst hw1
                  have hne : (ith D k != ith D 0) = true := by simpa using he
                  clear he hde
                  generalize ith D k = u at *
                  generalize ith D 0 = u0 at *
                  go_upto_region 22 with fail
                  have I0 : (fun w' : World => w'.cell? (da.add k) = some (.int .i64 u) ∧ w'.cell? da = some (.int .i64 u0)) wr.drew := ⟨z0, z1⟩
                  refine region_J (fun w' : World => w'.cell? (da.add k) = some (.int .i64 u) ∧ w'.cell? da = some (.int .i64 u0)) 8 (by kernel_rfl) ?_
                  clear z0 z1
                  generalize wr.drew = w9 at *
                  refine JO 0 (v := ?vr20) I0 ?yr20 ?rr20
                  case yr20 => (intro w h; obtain ⟨_, _⟩ := h; go_simp; with_reducible rfl)
                  simp only [Act.put, lyA, lyB, lyC, lyD, lyE, lyF]
                  refine JO 1 (v := ?vr21) I0 ?yr21 ?rr21
                  case yr21 => (intro w h; obtain ⟨_, _⟩ := h; go_simp; with_reducible rfl)
                  simp only [Act.put, lyA, lyB, lyC, lyD, lyE, lyF]
                  refine JO 2 (v := ?vr22) I0 ?yr22 ?rr22
                  case yr22 => (intro w h; obtain ⟨_, _⟩ := h; go_simp; with_reducible rfl)
                  simp only [Act.put, lyA, lyB, lyC, lyD, lyE, lyF]
                  refine JO 3 (v := ?vr23) I0 ?yr23 ?rr23
                  case yr23 => (intro w h; obtain ⟨_, _⟩ := h; go_simp; with_reducible rfl)
                  simp only [Act.put, lyA, lyB, lyC, lyD, lyE, lyF]
                  refine JO 4 (v := ?vr24) I0 ?yr24 ?rr24
                  case yr24 => (intro w h; obtain ⟨_, _⟩ := h; go_simp; with_reducible rfl)
                  simp only [Act.put, lyA, lyB, lyC, lyD, lyE, lyF]
                  refine JO 5 (v := ?vr25) I0 ?yr25 ?rr25
                  case yr25 => (intro w h; obtain ⟨_, _⟩ := h; go_simp; with_reducible rfl)
                  simp only [Act.put, lyA, lyB, lyC, lyD, lyE, lyF]
                  refine JO 6 (v := ?vr26) I0 ?yr26 ?rr26
                  case yr26 => (intro w h; obtain ⟨_, _⟩ := h; go_simp; with_reducible rfl)
                  simp only [Act.put, lyA, lyB, lyC, lyD, lyE, lyF]
                  refine JO 7 (v := ?vr27) I0 ?yr27 ?rr27
                  case yr27 => (intro w h; obtain ⟨_, _⟩ := h; go_simp; with_reducible rfl)
                  simp only [Act.put, lyA, lyB, lyC, lyD, lyE, lyF]
                  refine J_done (by kernel_rfl) (OnlyOn.normal ?_)
                  go_wp2
                  go_ret
                  exact ⟨rfl, hx1.out.trans (hxd.out.trans hx9.out)⟩
              · obtain rfl : k = D.length := by omega
                have c5 := hid (hds.out.2 hde.out)
                obtain ⟨hh, hUD⟩ := c5.out
                have hLX : Hid (flat hh (btx xs hh 0) = entX xs) := by unfold Hid entX; rw [hX_is hUD]
                have hLb := btx_len c2.out hUD hUT.out
                have hC := hid (fun w' (hx' : Ext wr w') => rEntriesU_any n xs okN.out c2.out hh A c w' (hr.out.ext (hx1.out.trans (hxd.out.trans (hx.out.trans hx')))) hUD (by have := hsl.out; have := hl.out; omega))
                rw [hLX.out] at hC
                rw [hLX.out] at hLb
                have hLb2 : (entX xs).length ≤ 100000 := by have := hsl.out; have := hl.out; omega
                have cw6 := hid (wX6 c1.out c2.out c3.out c4.out c5.out)
                have cw7 := hid (wX7 c1.out c2.out c3.out c4.out c5.out)
                have cw0 : Hid ((∀ x ∈ entX xs, okT x = true) → Srt (entX xs) → wrongX xs = 0) := fun h6 h7 => wrong_none.2 ⟨c1.out.1, c1.out.2, c2.out, treeB_iff.1 c3.out, c4.out, c5.out, h6, h7⟩
                rw [hW.out] at cw6 cw7 cw0
                obtain ⟨zb, lb⟩ := hcell.out wr (hxd.out.trans hx.out)
                clear hde hlt hk hLX hUD hLb hds c5
                generalize entX xs = L at *
                go_wp2_with fail
                refine (hC.out _ (Ext.refl _)).mono ?_
                rintro e we ⟨K1, k1, K2, k2, rfl, hr1, hr2, hx2, -, -⟩
                have hxe := hid (hx1.out.trans (hxd.out.trans (hx.out.trans hx2)))
                replace hr1 := hid hr1
                replace hr2 := hid hr2
                clear hC hx2 zb lb hx hxd hrD hUT hsl
                go_wp2_with fail
                go_loopw [10] (fun i wr => ∃ k : Nat, k ≤ L.length ∧ i = .int .i64 k ∧ Hid (∀ j, j < k → okT (tth L j) = true) ∧ Hid (Ext we wr)) (fun i _ => L.length - (intOf i).toNat)
                case atStart => exact ⟨0, by omega, rfl, fun j hj => by omega, Ext.refl _⟩
                case round =>
                  obtain ⟨k, hk, rfl, hoks, hx⟩ := hrel
                  by_cases hlt : k < L.length
                  · obtain ⟨ka, rfl, z0⟩ := rds_at (hr1.out.ext hx.out) hlt
                    obtain ⟨ra, rfl, z1⟩ := rdi_at (hr2.out.ext hx.out) hlt
                    rw [(tth_key hlt).1] at z0
                    rw [(tth_key hlt).2] at z1
                    have hki : (k : Int) < (L.length : Int) := by omega
                    have hx9 := hid hx.out.drew_right
                    cases hok : okT (tth L k) with
                    | true =>
                      have hoks2 : Hid (∀ j, j < k + 1 → okT (tth L j) = true) := fun j hj => by
                        by_cases e : j = k
                        · rw [e]; exact hok
                        · exact hoks.out j (by omega)
                      have hE := hid (fun w' => risEntry_any (tth L k).key (tth L k).no w')
                      rw [show okT ⟨(tth L k).key, (tth L k).no⟩ = true from hok] at hE
                      clear hok hoks
                      generalize (tth L k).key = s at *
                      generalize (tth L k).no = u at *
                      go_upto_region 28 with fail
                      have I0 : (fun w' : World => w'.cell? (ka.add k) = some (.string s) ∧ w'.cell? (ra.add k) = some (.int .i64 u)) wr.drew := ⟨z0, z1⟩
                      refine region_J (fun w' : World => w'.cell? (ka.add k) = some (.string s) ∧ w'.cell? (ra.add k) = some (.int .i64 u)) 10 (by kernel_rfl) ?_
                      clear z0 z1
                      generalize wr.drew = w9 at *
                      refine JO 0 (v := ?vr30) I0 ?yr30 ?rr30
                      case yr30 => (intro w h; obtain ⟨_, _⟩ := h; go_simp; with_reducible rfl)
                      simp only [Act.put, lyA, lyB, lyC, lyD, lyE, lyF]
                      refine JO 1 (v := ?vr31) I0 ?yr31 ?rr31
                      case yr31 => (intro w h; obtain ⟨_, _⟩ := h; go_simp; with_reducible rfl)
                      simp only [Act.put, lyA, lyB, lyC, lyD, lyE, lyF]
                      refine JO 2 (v := ?vr32) I0 ?yr32 ?rr32
                      case yr32 => (intro w h; obtain ⟨_, _⟩ := h; go_simp; with_reducible rfl)
                      simp only [Act.put, lyA, lyB, lyC, lyD, lyE, lyF]
                      refine JO 3 (v := ?vr33) I0 ?yr33 ?rr33
                      case yr33 => (intro w h; obtain ⟨_, _⟩ := h; go_simp; with_reducible rfl)
                      simp only [Act.put, lyA, lyB, lyC, lyD, lyE, lyF]
                      refine JO 4 (v := ?vr34) I0 ?yr34 ?rr34
                      case yr34 => (intro w h; obtain ⟨_, _⟩ := h; go_simp; with_reducible rfl)
                      simp only [Act.put, lyA, lyB, lyC, lyD, lyE, lyF]
                      refine JO 5 (v := ?vr35) I0 ?yr35 ?rr35
                      case yr35 => (intro w h; obtain ⟨_, _⟩ := h; go_simp; with_reducible rfl)
                      simp only [Act.put, lyA, lyB, lyC, lyD, lyE, lyF]
                      refine JO 6 (v := ?vr36) I0 ?yr36 ?rr36
                      case yr36 => (intro w h; obtain ⟨_, _⟩ := h; go_simp; with_reducible rfl)
                      simp only [Act.put, lyA, lyB, lyC, lyD, lyE, lyF]
                      refine JO 7 (v := ?vr37) I0 ?yr37 ?rr37
                      case yr37 => (intro w h; obtain ⟨_, _⟩ := h; go_simp; with_reducible rfl)
                      simp only [Act.put, lyA, lyB, lyC, lyD, lyE, lyF]
                      refine J_one 8 rfl (by kernel_rfl) (fun K hK => ?_)
                      go_simp
                      refine (hE.out _).mono ?_
                      rintro e' w' ⟨rfl, rfl⟩
                      refine hK _ _ ⟨fun _ => I0, ?_⟩
                      clear hK K
                      try simp only [Act.put, lyA, lyB, lyC, lyD, lyE, lyF]
                      refine J_one 9 rfl (by kernel_rfl) (fun K hK => ?_)
                      go_simp
                      refine hK _ _ ⟨fun _ => I0, ?_⟩
                      clear hK K
                      try simp only [Act.put, lyD, lyE, lyF]
                      refine J_done (by kernel_rfl) (OnlyOn.normal ?_)
                      go_wp2
                      go_roundw
                      case rel => exact ⟨k + 1, by omega, by go_num, hoks2, hx9⟩
                      case measure => simp [intOf]; omega
                    | false =>
                      have hw1 : W = 6 := cw6.out (fun h => by rw [h _ (by rw [tth_get hlt]; exact List.getElem_mem _)] at hok; cases hok)
                      subst hw1
                      have hE := hid (fun w' => risEntry_any (tth L k).key (tth L k).no w')
                      rw [show okT ⟨(tth L k).key, (tth L k).no⟩ = false from hok] at hE
                      clear hok hoks
                      generalize (tth L k).key = s at *
                      generalize (tth L k).no = u at *
                      go_upto_region 28 with fail
                      have I0 : (fun w' : World => w'.cell? (ka.add k) = some (.string s) ∧ w'.cell? (ra.add k) = some (.int .i64 u)) wr.drew := ⟨z0, z1⟩
                      refine region_J (fun w' : World => w'.cell? (ka.add k) = some (.string s) ∧ w'.cell? (ra.add k) = some (.int .i64 u)) 10 (by kernel_rfl) ?_
                      clear z0 z1
                      generalize wr.drew = w9 at *
                      refine JO 0 (v := ?vr40) I0 ?yr40 ?rr40
                      case yr40 => (intro w h; obtain ⟨_, _⟩ := h; go_simp; with_reducible rfl)
                      simp only [Act.put, lyA, lyB, lyC, lyD, lyE, lyF]
                      refine JO 1 (v := ?vr41) I0 ?yr41 ?rr41
                      case yr41 => (intro w h; obtain ⟨_, _⟩ := h; go_simp; with_reducible rfl)
                      simp only [Act.put, lyA, lyB, lyC, lyD, lyE, lyF]
                      refine JO 2 (v := ?vr42) I0 ?yr42 ?rr42
                      case yr42 => (intro w h; obtain ⟨_, _⟩ := h; go_simp; with_reducible rfl)
                      simp only [Act.put, lyA, lyB, lyC, lyD, lyE, lyF]
                      refine JO 3 (v := ?vr43) I0 ?yr43 ?rr43
                      case yr43 => (intro w h; obtain ⟨_, _⟩ := h; go_simp; with_reducible rfl)
                      simp only [Act.put, lyA, lyB, lyC, lyD, lyE, lyF]
                      refine JO 4 (v := ?vr44) I0 ?yr44 ?rr44
                      case yr44 => (intro w h; obtain ⟨_, _⟩ := h; go_simp; with_reducible rfl)
                      simp only [Act.put, lyA, lyB, lyC, lyD, lyE, lyF]
                      refine JO 5 (v := ?vr45) I0 ?yr45 ?rr45
                      case yr45 => (intro w h; obtain ⟨_, _⟩ := h; go_simp; with_reducible rfl)
                      simp only [Act.put, lyA, lyB, lyC, lyD, lyE, lyF]
                      refine JO 6 (v := ?vr46) I0 ?yr46 ?rr46
                      case yr46 => (intro w h; obtain ⟨_, _⟩ := h; go_simp; with_reducible rfl)
                      simp only [Act.put, lyA, lyB, lyC, lyD, lyE, lyF]
                      refine JO 7 (v := ?vr47) I0 ?yr47 ?rr47
                      case yr47 => (intro w h; obtain ⟨_, _⟩ := h; go_simp; with_reducible rfl)
                      simp only [Act.put, lyA, lyB, lyC, lyD, lyE, lyF]
                      refine J_one 8 rfl (by kernel_rfl) (fun K hK => ?_)
                      go_simp
                      refine (hE.out _).mono ?_
                      rintro e' w' ⟨rfl, rfl⟩
                      refine hK _ _ ⟨fun _ => I0, ?_⟩
                      clear hK K
                      try simp only [Act.put, lyA, lyB, lyC, lyD, lyE, lyF]
                      refine J_one 9 rfl (by kernel_rfl) (fun K hK => ?_)
                      go_simp
                      refine hK _ _ ⟨fun _ => I0, ?_⟩
                      clear hK K
                      try simp only [Act.put, lyD, lyE, lyF]
                      refine J_done (by kernel_rfl) (OnlyOn.normal ?_)
                      go_wp2
                      go_ret
                      exact ⟨rfl, hxe.out.trans hx9.out⟩
                  · obtain rfl : k = L.length := by omega
                    have c6 : Hid (∀ x ∈ L, okT x = true) := fun x hx => by
                      obtain ⟨j, hj, rfl⟩ := List.mem_iff_getElem.1 hx
                      rw [← tth_get hj]
                      exact hoks.out j hj
                    clear hoks
                    go_upto_region 31 with fail
                    go_loopw [11] (fun i wr => ∃ k : Nat, Hid (1 ≤ k) ∧ i = .int .i64 k ∧ Hid (∀ t, t + 1 < k → t + 1 < L.length → cmpT (tth L t) (tth L (t + 1)) < 0) ∧ Hid (Ext we wr)) (fun i _ => L.length + 1 - (intOf i).toNat)
                    case atStart => exact ⟨1, by unfold Hid; omega, rfl, fun j hj => by omega, hx⟩
                    case round =>
                      clear hx
                      obtain ⟨k, hk1, rfl, hso, hx⟩ := hrel
                      obtain ⟨j, hj⟩ : ∃ j, k = j + 1 := ⟨k - 1, by have := hk1.out; omega⟩
                      replace hj := hid hj
                      by_cases hlt : k < L.length
                      · obtain ⟨ka, rfl, z0⟩ := rds_at (hr1.out.ext hx.out) (k := j) (by have := hj.out; omega)
                        obtain ⟨ra, rfl, z1⟩ := rdi_at (hr2.out.ext hx.out) (k := j) (by have := hj.out; omega)
                        obtain ⟨ka', e2, z2⟩ := rds_at (hr1.out.ext hx.out) hlt
                        injection e2 with e2
                        subst e2
                        obtain ⟨ra', e3, z3⟩ := rdi_at (hr2.out.ext hx.out) hlt
                        injection e3 with e3
                        subst e3
                        rw [(tth_key (by have := hj.out; omega)).1] at z0 z2
                        rw [(tth_key (by have := hj.out; omega)).2] at z1 z3
                        have hki : (k : Int) < (L.length : Int) := by omega
                        have hki2 : (j : Int) < (L.length : Int) := by have := hj.out; omega
                        have hwj : IntKind.i64.wrap ((k : Int) - 1) = (j : Int) := by rw [show (k : Int) - 1 = j by have := hj.out; omega]; exact IntWalk.i64_in _ (by have := hj.out; omega)
                        have hx9 := hid hx.out.drew_right
                        have hE := hid (fun w' => rLess_any (tth L j).key (tth L k).key (tth L j).no (tth L k).no w')
                        by_cases hc : cmpT (tth L j) (tth L k) < 0
                        · have hso2 : Hid (∀ t, t + 1 < k + 1 → t + 1 < L.length → cmpT (tth L t) (tth L (t + 1)) < 0) := fun t ht ht2 => by
                            by_cases e : t = j
                            · rw [e, ← hj.out]; exact hc
                            · exact hso.out t (by have := hj.out; omega) ht2
                          rw [show decide (cmpT ⟨(tth L j).key, (tth L j).no⟩ ⟨(tth L k).key, (tth L k).no⟩ < 0) = true from decide_eq_true hc] at hE
                          clear hc hso
                          generalize (tth L j).key = s at *
                          generalize (tth L j).no = u at *
                          generalize (tth L k).key = s' at *
                          generalize (tth L k).no = u' at *
                          go_upto_region 33 with fail
                          have I0 : (fun w' : World => w'.cell? (ka.add j) = some (.string s) ∧ w'.cell? (ra.add j) = some (.int .i64 u) ∧ w'.cell? (ka.add k) = some (.string s') ∧ w'.cell? (ra.add k) = some (.int .i64 u')) wr.drew := ⟨z0, z1, z2, z3⟩
                          refine region_J (fun w' : World => w'.cell? (ka.add j) = some (.string s) ∧ w'.cell? (ra.add j) = some (.int .i64 u) ∧ w'.cell? (ka.add k) = some (.string s') ∧ w'.cell? (ra.add k) = some (.int .i64 u')) 20 (by kernel_rfl) ?_
                          clear z0 z1 z2 z3
                          generalize wr.drew = w9 at *
                          refine JO 0 (v := ?vr50) I0 ?yr50 ?rr50
                          case yr50 => (intro w h; obtain ⟨_, _, _, _⟩ := h; go_simp; with_reducible rfl)
                          simp only [Act.put, lyA, lyB, lyC, lyD, lyE, lyF]
                          refine JO 1 (v := ?vr51) I0 ?yr51 ?rr51
                          case yr51 => (intro w h; obtain ⟨_, _, _, _⟩ := h; go_simp; with_reducible rfl)
                          simp only [Act.put, lyA, lyB, lyC, lyD, lyE, lyF]
                          refine JO 2 (v := ?vr52) I0 ?yr52 ?rr52
                          case yr52 => (intro w h; obtain ⟨_, _, _, _⟩ := h; go_simp; with_reducible rfl)
                          simp only [Act.put, lyA, lyB, lyC, lyD, lyE, lyF]
                          refine JO 3 (v := ?vr53) I0 ?yr53 ?rr53
                          case yr53 => (intro w h; obtain ⟨_, _, _, _⟩ := h; go_simp; with_reducible rfl)
                          simp only [Act.put, lyA, lyB, lyC, lyD, lyE, lyF]
                          refine JO 4 (v := ?vr54) I0 ?yr54 ?rr54
                          case yr54 => (intro w h; obtain ⟨_, _, _, _⟩ := h; go_simp; with_reducible rfl)
                          simp only [Act.put, lyA, lyB, lyC, lyD, lyE, lyF]
                          refine JO 5 (v := ?vr55) I0 ?yr55 ?rr55
                          case yr55 => (intro w h; obtain ⟨_, _, _, _⟩ := h; go_simp; with_reducible rfl)
                          simp only [Act.put, lyA, lyB, lyC, lyD, lyE, lyF]
                          refine JO 6 (v := ?vr56) I0 ?yr56 ?rr56
                          case yr56 => (intro w h; obtain ⟨_, _, _, _⟩ := h; go_simp; with_reducible rfl)
                          simp only [Act.put, lyA, lyB, lyC, lyD, lyE, lyF]
                          refine JO 7 (v := ?vr57) I0 ?yr57 ?rr57
                          case yr57 => (intro w h; obtain ⟨_, _, _, _⟩ := h; go_simp; with_reducible rfl)
                          simp only [Act.put, lyA, lyB, lyC, lyD, lyE, lyF]
                          refine JO 8 (v := ?vr58) I0 ?yr58 ?rr58
                          case yr58 => (intro w h; obtain ⟨_, _, _, _⟩ := h; go_simp; with_reducible rfl)
                          simp only [Act.put, lyA, lyB, lyC, lyD, lyE, lyF]
                          refine JO 9 (v := ?vr59) I0 ?yr59 ?rr59
                          case yr59 => (intro w h; obtain ⟨_, _, _, _⟩ := h; go_simp; with_reducible rfl)
                          simp only [Act.put, lyA, lyB, lyC, lyD, lyE, lyF]
                          refine JO 10 (v := ?vr510) I0 ?yr510 ?rr510
                          case yr510 => (intro w h; obtain ⟨_, _, _, _⟩ := h; go_simp; with_reducible rfl)
                          simp only [Act.put, lyA, lyB, lyC, lyD, lyE, lyF]
                          refine JO 11 (v := ?vr511) I0 ?yr511 ?rr511
                          case yr511 => (intro w h; obtain ⟨_, _, _, _⟩ := h; go_simp; with_reducible rfl)
                          simp only [Act.put, lyA, lyB, lyC, lyD, lyE, lyF]
                          refine JO 12 (v := ?vr512) I0 ?yr512 ?rr512
                          case yr512 => (intro w h; obtain ⟨_, _, _, _⟩ := h; go_simp; with_reducible rfl)
                          simp only [Act.put, lyA, lyB, lyC, lyD, lyE, lyF]
                          refine JO 13 (v := ?vr513) I0 ?yr513 ?rr513
                          case yr513 => (intro w h; obtain ⟨_, _, _, _⟩ := h; go_simp; with_reducible rfl)
                          simp only [Act.put, lyA, lyB, lyC, lyD, lyE, lyF]
                          refine JO 14 (v := ?vr514) I0 ?yr514 ?rr514
                          case yr514 => (intro w h; obtain ⟨_, _, _, _⟩ := h; go_simp; with_reducible rfl)
                          simp only [Act.put, lyA, lyB, lyC, lyD, lyE, lyF]
                          refine JO 15 (v := ?vr515) I0 ?yr515 ?rr515
                          case yr515 => (intro w h; obtain ⟨_, _, _, _⟩ := h; go_simp; with_reducible rfl)
                          simp only [Act.put, lyA, lyB, lyC, lyD, lyE, lyF]
                          refine JO 16 (v := ?vr516) I0 ?yr516 ?rr516
                          case yr516 => (intro w h; obtain ⟨_, _, _, _⟩ := h; go_simp; with_reducible rfl)
                          simp only [Act.put, lyA, lyB, lyC, lyD, lyE, lyF]
                          refine JO 17 (v := ?vr517) I0 ?yr517 ?rr517
                          case yr517 => (intro w h; obtain ⟨_, _, _, _⟩ := h; go_simp; with_reducible rfl)
                          simp only [Act.put, lyA, lyB, lyC, lyD, lyE, lyF]
                          refine J_one 18 rfl (by kernel_rfl) (fun K hK => ?_)
                          go_simp
                          refine (hE.out _).mono ?_
                          rintro e' w' ⟨rfl, rfl⟩
                          refine hK _ _ ⟨fun _ => I0, ?_⟩
                          clear hK K
                          try simp only [Act.put, lyA, lyB, lyC, lyD, lyE, lyF]
                          refine J_one 19 rfl (by kernel_rfl) (fun K hK => ?_)
                          go_simp
                          refine hK _ _ ⟨fun _ => I0, ?_⟩
                          clear hK K
                          try simp only [Act.put, lyD, lyE, lyF]
                          refine J_done (by kernel_rfl) (OnlyOn.normal ?_)
                          go_wp2
                          go_roundw
                          case rel => exact ⟨k + 1, by unfold Hid; omega, by go_num, hso2, hx9⟩
                          case measure => simp [intOf]; omega
                        · have hw1 : W = 7 := cw7.out c6.out (fun h => hc (by have h9 := srt_steps.1 h j (by rw [← hj.out]; exact hlt); rw [← hj.out] at h9; exact h9))
                          subst hw1
                          rw [show decide (cmpT ⟨(tth L j).key, (tth L j).no⟩ ⟨(tth L k).key, (tth L k).no⟩ < 0) = false from decide_eq_false hc] at hE
                          clear hc hso
                          generalize (tth L j).key = s at *
                          generalize (tth L j).no = u at *
                          generalize (tth L k).key = s' at *
                          generalize (tth L k).no = u' at *
                          go_upto_region 33 with fail
                          have I0 : (fun w' : World => w'.cell? (ka.add j) = some (.string s) ∧ w'.cell? (ra.add j) = some (.int .i64 u) ∧ w'.cell? (ka.add k) = some (.string s') ∧ w'.cell? (ra.add k) = some (.int .i64 u')) wr.drew := ⟨z0, z1, z2, z3⟩
                          refine region_J (fun w' : World => w'.cell? (ka.add j) = some (.string s) ∧ w'.cell? (ra.add j) = some (.int .i64 u) ∧ w'.cell? (ka.add k) = some (.string s') ∧ w'.cell? (ra.add k) = some (.int .i64 u')) 20 (by kernel_rfl) ?_
                          clear z0 z1 z2 z3
                          generalize wr.drew = w9 at *
                          refine JO 0 (v := ?vr60) I0 ?yr60 ?rr60
                          case yr60 => (intro w h; obtain ⟨_, _, _, _⟩ := h; go_simp; with_reducible rfl)
                          simp only [Act.put, lyA, lyB, lyC, lyD, lyE, lyF]
                          refine JO 1 (v := ?vr61) I0 ?yr61 ?rr61
                          case yr61 => (intro w h; obtain ⟨_, _, _, _⟩ := h; go_simp; with_reducible rfl)
                          simp only [Act.put, lyA, lyB, lyC, lyD, lyE, lyF]
                          refine JO 2 (v := ?vr62) I0 ?yr62 ?rr62
                          case yr62 => (intro w h; obtain ⟨_, _, _, _⟩ := h; go_simp; with_reducible rfl)
                          simp only [Act.put, lyA, lyB, lyC, lyD, lyE, lyF]
                          refine JO 3 (v := ?vr63) I0 ?yr63 ?rr63
                          case yr63 => (intro w h; obtain ⟨_, _, _, _⟩ := h; go_simp; with_reducible rfl)
                          simp only [Act.put, lyA, lyB, lyC, lyD, lyE, lyF]
                          refine JO 4 (v := ?vr64) I0 ?yr64 ?rr64
                          case yr64 => (intro w h; obtain ⟨_, _, _, _⟩ := h; go_simp; with_reducible rfl)
                          simp only [Act.put, lyA, lyB, lyC, lyD, lyE, lyF]
                          refine JO 5 (v := ?vr65) I0 ?yr65 ?rr65
                          case yr65 => (intro w h; obtain ⟨_, _, _, _⟩ := h; go_simp; with_reducible rfl)
                          simp only [Act.put, lyA, lyB, lyC, lyD, lyE, lyF]
                          refine JO 6 (v := ?vr66) I0 ?yr66 ?rr66
                          case yr66 => (intro w h; obtain ⟨_, _, _, _⟩ := h; go_simp; with_reducible rfl)
                          simp only [Act.put, lyA, lyB, lyC, lyD, lyE, lyF]
                          refine JO 7 (v := ?vr67) I0 ?yr67 ?rr67
                          case yr67 => (intro w h; obtain ⟨_, _, _, _⟩ := h; go_simp; with_reducible rfl)
                          simp only [Act.put, lyA, lyB, lyC, lyD, lyE, lyF]
                          refine JO 8 (v := ?vr68) I0 ?yr68 ?rr68
                          case yr68 => (intro w h; obtain ⟨_, _, _, _⟩ := h; go_simp; with_reducible rfl)
                          simp only [Act.put, lyA, lyB, lyC, lyD, lyE, lyF]
                          refine JO 9 (v := ?vr69) I0 ?yr69 ?rr69
                          case yr69 => (intro w h; obtain ⟨_, _, _, _⟩ := h; go_simp; with_reducible rfl)
                          simp only [Act.put, lyA, lyB, lyC, lyD, lyE, lyF]
                          refine JO 10 (v := ?vr610) I0 ?yr610 ?rr610
                          case yr610 => (intro w h; obtain ⟨_, _, _, _⟩ := h; go_simp; with_reducible rfl)
                          simp only [Act.put, lyA, lyB, lyC, lyD, lyE, lyF]
                          refine JO 11 (v := ?vr611) I0 ?yr611 ?rr611
                          case yr611 => (intro w h; obtain ⟨_, _, _, _⟩ := h; go_simp; with_reducible rfl)
                          simp only [Act.put, lyA, lyB, lyC, lyD, lyE, lyF]
                          refine JO 12 (v := ?vr612) I0 ?yr612 ?rr612
                          case yr612 => (intro w h; obtain ⟨_, _, _, _⟩ := h; go_simp; with_reducible rfl)
                          simp only [Act.put, lyA, lyB, lyC, lyD, lyE, lyF]
                          refine JO 13 (v := ?vr613) I0 ?yr613 ?rr613
                          case yr613 => (intro w h; obtain ⟨_, _, _, _⟩ := h; go_simp; with_reducible rfl)
                          simp only [Act.put, lyA, lyB, lyC, lyD, lyE, lyF]
                          refine JO 14 (v := ?vr614) I0 ?yr614 ?rr614
                          case yr614 => (intro w h; obtain ⟨_, _, _, _⟩ := h; go_simp; with_reducible rfl)
                          simp only [Act.put, lyA, lyB, lyC, lyD, lyE, lyF]
                          refine JO 15 (v := ?vr615) I0 ?yr615 ?rr615
                          case yr615 => (intro w h; obtain ⟨_, _, _, _⟩ := h; go_simp; with_reducible rfl)
                          simp only [Act.put, lyA, lyB, lyC, lyD, lyE, lyF]
                          refine JO 16 (v := ?vr616) I0 ?yr616 ?rr616
                          case yr616 => (intro w h; obtain ⟨_, _, _, _⟩ := h; go_simp; with_reducible rfl)
                          simp only [Act.put, lyA, lyB, lyC, lyD, lyE, lyF]
                          refine JO 17 (v := ?vr617) I0 ?yr617 ?rr617
                          case yr617 => (intro w h; obtain ⟨_, _, _, _⟩ := h; go_simp; with_reducible rfl)
                          simp only [Act.put, lyA, lyB, lyC, lyD, lyE, lyF]
                          refine J_one 18 rfl (by kernel_rfl) (fun K hK => ?_)
                          go_simp
                          refine (hE.out _).mono ?_
                          rintro e' w' ⟨rfl, rfl⟩
                          refine hK _ _ ⟨fun _ => I0, ?_⟩
                          clear hK K
                          try simp only [Act.put, lyA, lyB, lyC, lyD, lyE, lyF]
                          refine J_one 19 rfl (by kernel_rfl) (fun K hK => ?_)
                          go_simp
                          refine hK _ _ ⟨fun _ => I0, ?_⟩
                          clear hK K
                          try simp only [Act.put, lyD, lyE, lyF]
                          refine J_done (by kernel_rfl) (OnlyOn.normal ?_)
                          go_wp2
                          go_ret
                          exact ⟨rfl, hxe.out.trans hx9.out⟩
                      · have hw1 := cw0.out c6.out (srt_steps.2 (fun t ht => hso.out t (by have := hj.out; omega) ht))
                        subst hw1
                        have hki : ¬ (k : Int) < (L.length : Int) := by omega
                        go_wp2
                        go_ret
                        exact ⟨rfl, hxe.out.trans hx.out⟩
open Go.RowKit Go.Shelf
def TA (w0 w : World) (t : Nat) (L : List Te) : Prop := w0.heap.size ≤ t ∧ Ext w0 w ∧ ∃ h p T fT, TreeAt 0 w t L h p T fT ∧ ∀ a, a < w0.heap.size → fT a = 0
section
variable {w0 w w' : World} {t : Nat} {L : List Te}
theorem TA.ext (H : TA w0 w t L) (hx : Ext w w') : TA w0 w' t L := by
  obtain ⟨h1, h2, h, p, T, fT, h3, h4⟩ := H
  exact ⟨h1, h2.trans hx, h, p, T, fT, h3.ext hx, h4⟩
theorem TA.turn {h p : Nat} {T : BT} {fT : Nat → Nat} {L' : List Te} (H : TreeAt 0 w t L h p T fT) (h1 : w0.heap.size ≤ t) (hx : Ext w0 w) (h4 : ∀ a, a < w0.heap.size → fT a = 0) (ht : TreeTurned 0 w w' t fT L') : TA w0 w' t L' := by
  obtain ⟨h', p', T', f', H', k1, k2⟩ := ht
  refine ⟨h1, hx.trans' k2 (fun a ha => ?_), h', p', T', f', H', fun a ha => ?_⟩
  · show one1 t a + fT a = 0
    rw [h4 a ha, show one1 t a = 0 from if_neg (by omega)]
  · have := k1 a (Nat.lt_of_lt_of_le ha hx.size)
    have := h4 a ha
    omega
theorem TA.lt (H : TA w0 w t L) : t < w.heap.size := by
  obtain ⟨h1, h2, h, p, T, fT, h3, h4⟩ := H
  exact h3.lt
theorem TA.le (H : TA w0 w t L) : L.length ≤ 10000 := by
  obtain ⟨h1, h2, h, p, T, fT, h3, h4⟩ := H
  exact h3.le
theorem TA.sr (H : TA w0 w t L) : Srt L := by
  obtain ⟨h1, h2, h, p, T, fT, h3, h4⟩ := H
  exact h3.sr
theorem New_TA (w0 w : World) (hx : Ext w0 w) : Calls Tryz.prog 7 #[] w fun e w' => ∃ t, e = .returned (.pointer (some ⟨t, 0, none⟩)) ∧ TA w0 w' t [] ∧ Ext w w' := by
  refine (New_any w).mono ?_
  rintro e w' ⟨t, rfl, h1, h2, p, fT, h3, h4⟩
  exact ⟨t, rfl, ⟨Nat.le_trans hx.size h1, hx.trans h2, 0, p, _, fT, h3, fun a ha => h4 a (Nat.lt_of_lt_of_le ha hx.size)⟩, h2⟩
theorem Put_TA (H : TA w0 w t L) (s : ByteArray) (n : Int) : Calls Tryz.prog 16 #[.pointer (some ⟨t, 0, none⟩), .string s, .int .i64 n] w fun e w' => e = .returned (.int .i64 (putEr L ⟨s, n⟩)) ∧ TA w0 w' t (putLs L ⟨s, n⟩) := by
  obtain ⟨h1, h2, h, p, T, fT, h3, h4⟩ := H
  refine (Put_any t L h p T fT s n w h3).mono ?_
  rintro e w' ⟨rfl, ht⟩
  exact ⟨rfl, TA.turn h3 h1 h2 h4 ht⟩
theorem Len_TA (H : TA w0 w t L) : Calls Tryz.prog 18 #[.pointer (some ⟨t, 0, none⟩)] w (Give (.int .i64 L.length) w) := by
  obtain ⟨h1, h2, h, p, T, fT, h3, h4⟩ := H
  exact Len_any t L h p T fT w h3
theorem Rank_TA (H : TA w0 w t L) (s : ByteArray) (i : Int) : Calls Tryz.prog 17 #[.pointer (some ⟨t, 0, none⟩), .string s, .int .i64 i] w (Give (.int .i64 (rankT L ⟨s, i⟩)) w) := by
  obtain ⟨h1, h2, h, p, T, fT, h3, h4⟩ := H
  exact Rank_any t L h p T fT s i w h3
end
def seqK (k : Nat) : List Te := (List.range k).map fun (j : Nat) => ⟨⟨#[107]⟩, (j : Int) + 1⟩
theorem seq_put : ∀ k, k < 5 → putEr (seqK k) ⟨⟨#[107]⟩, (k : Int) + 1⟩ = 0 ∧ putLs (seqK k) ⟨⟨#[107]⟩, (k : Int) + 1⟩ = seqK (k + 1)
  | 0, _ => ⟨rfl, rfl⟩
  | 1, _ => ⟨rfl, rfl⟩
  | 2, _ => ⟨rfl, rfl⟩
  | 3, _ => ⟨rfl, rfl⟩
  | 4, _ => ⟨rfl, rfl⟩
  | k + 5, h => by omega
theorem seq_rank : rankT (seqK 5) ⟨⟨#[]⟩, 0⟩ = 0 := rfl
theorem known_any (w : World) : Calls Tryz.prog 6 #[] w (Give (.bool true) w) := by
  have hN := hid (New_TA w w (Ext.refl w))
  go_enter Tryz.func6, Tryz.ntmps6
  go_wp2_with fail
  refine hN.out.mono ?_
  rintro e w1 ⟨t, rfl, hT, -⟩
  replace hT := hid hT
  go_wp2_with fail
  go_loopw [2] (fun i wr => ∃ k : Nat, k ≤ 5 ∧ i = .int .i64 ((k : Int) + 1) ∧ Hid (TA w wr t (seqK k))) (fun i _ => 6 - (intOf i).toNat)
  case atStart => exact ⟨0, by omega, rfl, hT⟩
  case round =>
    obtain ⟨k, hk, rfl, hT⟩ := hrel
    by_cases hlt : k < 5
    · have hP := hid (Put_TA hT.out ⟨#[107]⟩ ((k : Int) + 1))
      obtain ⟨q1, q2⟩ := seq_put k hlt
      rw [q1, q2] at hP
      have hle : (k : Int) + 1 ≤ 5 := by omega
      clear q1 q2
      go_wp2_with fail
      refine hP.out.mono ?_
      rintro e w2 ⟨rfl, hT2⟩
      replace hT2 := hid hT2
      clear hP hT
      go_wp2_with fail
      go_roundw
      case rel => exact ⟨k + 1, by omega, by go_num, hT2⟩
      case measure => simp [intOf]; omega
    · obtain rfl : k = 5 := by omega
      have hR := hid (fun w' (hx : Ext wr w') => Rank_TA (hT.out.ext hx) ⟨#[]⟩ 0)
      rw [seq_rank] at hR
      have hL := hid (fun w' (hx : Ext wr w') => Len_TA (hT.out.ext hx))
      rw [show (seqK 5).length = 5 from rfl] at hL
      obtain ⟨h1, h2, h, p, T, fT, h3, h4⟩ := hT.out
      have hI := hid (Index_any t _ h p T fT wr h3)
      obtain ⟨x, b, c, hl, hx1, hx2⟩ := five h3.sh h3.l4 h3.l1 (by rw [h3.fl]; rfl)
      rw [hl] at hI
      clear h3 h4 hl hT
      replace h2 := hid h2
      go_wp2_with fail
      refine hI.out.mono ?_
      rintro e w2 ⟨v, rfl, ⟨vs, g, own2, nl2, -⟩, hx⟩
      obtain ⟨v1, ⟨uk, ur, ud⟩, v2, g0, g1, g2, rfl, hl1, -, c1, -, -⟩ := NL.cut (x1 := []) (x := x) (x2 := [b, c]) nl2
      obtain rfl := List.length_eq_zero_iff.1 hl1
      obtain ⟨gb, cb, rfl, -, hgb, hc3, hcb, -⟩ := own_sliceK own2 (by show 0 < 3; decide)
      have y0 := own2.cells (g := gb) rfl 0 uk rfl
      have y2 := own2.cells (g := gb) rfl 2 ud rfl
      rw [lit_add] at y0 y2
      obtain ⟨Ak, ck, rfl, -⟩ := own_form (show w2.ownsRow wr.heap.size 9 1 uk x.keys.length (strv x.keys) from c1.1)
      obtain ⟨Ad, cd, rfl, -⟩ := own_form (show w2.ownsRow wr.heap.size 3 1 ud x.kids.length (ints x.kids) from c1.2.2.1)
      rw [hx1] at y0
      rw [hx2] at y2
      replace hx := hid hx
      clear own2 nl2 c1 hI hx1 hx2 hl1
      have hA := heap_alloc_new w2 (.cells #[.slice (some ⟨gb, 0, none⟩) 3 cb] 40)
      have hxa := (Ext.refl w2).alloc_right (.cells #[.slice (some ⟨gb, 0, none⟩) 3 cb] 40)
      have za : (w2.alloc (.cells #[.slice (some ⟨gb, 0, none⟩) 3 cb] 40)).cell? ⟨w2.heap.size, 0, none⟩ = some (.slice (some ⟨gb, 0, none⟩) 3 cb) := by rw [Lib.cell_of_heap hA]; rfl
      replace y0 := hxa.cell y0
      replace y2 := hxa.cell y2
      replace hx := hid (hx.out.trans hxa)
      have lz := World.block_lt_of_cell? _ _ za
      dsimp only at lz
      have ly := World.block_lt_of_cell? _ _ y0
      dsimp only at ly
      clear hA hxa
      go_upto_region 8 with fail
      generalize w2.alloc (.cells #[.slice (some ⟨gb, 0, none⟩) 3 cb] 40) = w3 at *
      go_wp2_with fail
      refine (hR.out w3 hx.out).mono ?_
      rintro e w4 ⟨rfl, hx4⟩
      have hx4' := hid (hx.out.trans hx4)
      clear hx4
      go_wp2_with fail
      refine (hL.out w4 hx4'.out).mono ?_
      rintro e w5 ⟨rfl, hx5⟩
      have hx5' := hid (h2.out.trans (hx4'.out.trans hx5))
      clear hx5
      go_wp2
      go_ret
      exact ⟨rfl, hx5'.out⟩
open Go.RowKit Go.Shelf
theorem sTexts_any (A : Option Addr) (n c : Nat) (B : Option Addr) (d : Nat) (l : List ByteArray) (w : World) (ha : Rd w 1 A n c (strv l)) (hb : Rd w 1 B n d (strv l)) : Calls Tryz.prog 34 #[.slice A n c, .slice B n d] w (Give (.bool true) w) := by
  have hm := Rd.max ha
  replace ha := hid ha
  replace hb := hid hb
  go_enter Tryz.func34, Tryz.ntmps34
  go_wp2_with fail
  go_loopw [5] (fun i wr => ∃ k : Nat, k ≤ n ∧ i = .int .i64 k ∧ Hid (Ext w wr)) (fun i _ => n - (intOf i).toNat)
  case atStart => exact ⟨0, by omega, rfl, Ext.refl _⟩
  case round =>
    obtain ⟨k, hk, rfl, hx⟩ := hrel
    by_cases hlt : k < n
    · obtain ⟨ad, rfl, x0⟩ := rds_at (ha.out.ext hx.out) hlt
      obtain ⟨bd, rfl, y0⟩ := rds_at (hb.out.ext hx.out) hlt
      have hx9 := hid hx.out.drew_right
      have hki : (k : Int) < (n : Int) := by omega
      generalize sth l k = z0 at *
      clear ha hb
      go_upto_region 6 with fail
      have I0 : (fun w' : World => w'.cell? (ad.add k) = some (.string z0) ∧ w'.cell? (bd.add k) = some (.string z0)) wr.drew := ⟨x0, y0⟩
      refine region_J (fun w' : World => w'.cell? (ad.add k) = some (.string z0) ∧ w'.cell? (bd.add k) = some (.string z0)) 9 (by kernel_rfl) ?_
      clear x0 y0
      generalize wr.drew = w9 at *
      refine JO 0 (v := ?va0) I0 ?ya0 ?ra0
      case ya0 => (intro w h; obtain ⟨_, _⟩ := h; go_simp; with_reducible rfl)
      simp only [Act.put, lyA, lyB, lyC, lyD, lyE, lyF]
      refine JO 1 (v := ?va1) I0 ?ya1 ?ra1
      case ya1 => (intro w h; obtain ⟨_, _⟩ := h; go_simp; with_reducible rfl)
      simp only [Act.put, lyA, lyB, lyC, lyD, lyE, lyF]
      refine JO 2 (v := ?va2) I0 ?ya2 ?ra2
      case ya2 => (intro w h; obtain ⟨_, _⟩ := h; go_simp; with_reducible rfl)
      simp only [Act.put, lyA, lyB, lyC, lyD, lyE, lyF]
      refine JO 3 (v := ?va3) I0 ?ya3 ?ra3
      case ya3 => (intro w h; obtain ⟨_, _⟩ := h; go_simp; with_reducible rfl)
      simp only [Act.put, lyA, lyB, lyC, lyD, lyE, lyF]
      refine JO 4 (v := ?va4) I0 ?ya4 ?ra4
      case ya4 => (intro w h; obtain ⟨_, _⟩ := h; go_simp; with_reducible rfl)
      simp only [Act.put, lyA, lyB, lyC, lyD, lyE, lyF]
      refine JO 5 (v := ?va5) I0 ?ya5 ?ra5
      case ya5 => (intro w h; obtain ⟨_, _⟩ := h; go_simp; with_reducible rfl)
      simp only [Act.put, lyA, lyB, lyC, lyD, lyE, lyF]
      refine JO 6 (v := ?va6) I0 ?ya6 ?ra6
      case ya6 => (intro w h; obtain ⟨_, _⟩ := h; go_simp; with_reducible rfl)
      simp only [Act.put, lyA, lyB, lyC, lyD, lyE, lyF]
      refine JO 7 (v := ?va7) I0 ?ya7 ?ra7
      case ya7 => (intro w h; obtain ⟨_, _⟩ := h; go_simp; with_reducible rfl)
      simp only [Act.put, lyA, lyB, lyC, lyD, lyE, lyF]
      refine JO 8 (v := ?va8) I0 ?ya8 ?ra8
      case ya8 => (intro w h; obtain ⟨_, _⟩ := h; go_simp; with_reducible rfl)
      simp only [Act.put, lyA, lyB, lyC, lyD, lyE, lyF]
      refine J_done (by kernel_rfl) (OnlyOn.normal ?_)
      go_wp2
      go_roundw
      case rel => exact ⟨k + 1, by omega, by go_num, hx9⟩
      case measure => simp [intOf]; omega
    · obtain rfl : k = n := by omega
      go_wp2
      go_ret
      exact ⟨rfl, hx.out⟩
theorem sInts_any (A : Option Addr) (n c : Nat) (B : Option Addr) (d : Nat) (l : List Int) (w : World) (ha : RdI w A n c l) (hb : RdI w B n d l) : Calls Tryz.prog 35 #[.slice A n c, .slice B n d] w (Give (.bool true) w) := by
  have hm := Rd.max ha
  replace ha := hid ha
  replace hb := hid hb
  go_enter Tryz.func35, Tryz.ntmps35
  go_wp2_with fail
  go_loopw [5] (fun i wr => ∃ k : Nat, k ≤ n ∧ i = .int .i64 k ∧ Hid (Ext w wr)) (fun i _ => n - (intOf i).toNat)
  case atStart => exact ⟨0, by omega, rfl, Ext.refl _⟩
  case round =>
    obtain ⟨k, hk, rfl, hx⟩ := hrel
    by_cases hlt : k < n
    · obtain ⟨ad, rfl, x0⟩ := rdi_at (ha.out.ext hx.out) hlt
      obtain ⟨bd, rfl, y0⟩ := rdi_at (hb.out.ext hx.out) hlt
      have hx9 := hid hx.out.drew_right
      have hki : (k : Int) < (n : Int) := by omega
      generalize ith l k = z0 at *
      clear ha hb
      go_upto_region 6 with fail
      have I0 : (fun w' : World => w'.cell? (ad.add k) = some (.int .i64 z0) ∧ w'.cell? (bd.add k) = some (.int .i64 z0)) wr.drew := ⟨x0, y0⟩
      refine region_J (fun w' : World => w'.cell? (ad.add k) = some (.int .i64 z0) ∧ w'.cell? (bd.add k) = some (.int .i64 z0)) 9 (by kernel_rfl) ?_
      clear x0 y0
      generalize wr.drew = w9 at *
      refine JO 0 (v := ?va0) I0 ?ya0 ?ra0
      case ya0 => (intro w h; obtain ⟨_, _⟩ := h; go_simp; with_reducible rfl)
      simp only [Act.put, lyA, lyB, lyC, lyD, lyE, lyF]
      refine JO 1 (v := ?va1) I0 ?ya1 ?ra1
      case ya1 => (intro w h; obtain ⟨_, _⟩ := h; go_simp; with_reducible rfl)
      simp only [Act.put, lyA, lyB, lyC, lyD, lyE, lyF]
      refine JO 2 (v := ?va2) I0 ?ya2 ?ra2
      case ya2 => (intro w h; obtain ⟨_, _⟩ := h; go_simp; with_reducible rfl)
      simp only [Act.put, lyA, lyB, lyC, lyD, lyE, lyF]
      refine JO 3 (v := ?va3) I0 ?ya3 ?ra3
      case ya3 => (intro w h; obtain ⟨_, _⟩ := h; go_simp; with_reducible rfl)
      simp only [Act.put, lyA, lyB, lyC, lyD, lyE, lyF]
      refine JO 4 (v := ?va4) I0 ?ya4 ?ra4
      case ya4 => (intro w h; obtain ⟨_, _⟩ := h; go_simp; with_reducible rfl)
      simp only [Act.put, lyA, lyB, lyC, lyD, lyE, lyF]
      refine JO 5 (v := ?va5) I0 ?ya5 ?ra5
      case ya5 => (intro w h; obtain ⟨_, _⟩ := h; go_simp; with_reducible rfl)
      simp only [Act.put, lyA, lyB, lyC, lyD, lyE, lyF]
      refine JO 6 (v := ?va6) I0 ?ya6 ?ra6
      case ya6 => (intro w h; obtain ⟨_, _⟩ := h; go_simp; with_reducible rfl)
      simp only [Act.put, lyA, lyB, lyC, lyD, lyE, lyF]
      refine JO 7 (v := ?va7) I0 ?ya7 ?ra7
      case ya7 => (intro w h; obtain ⟨_, _⟩ := h; go_simp; with_reducible rfl)
      simp only [Act.put, lyA, lyB, lyC, lyD, lyE, lyF]
      refine JO 8 (v := ?va8) I0 ?ya8 ?ra8
      case ya8 => (intro w h; obtain ⟨_, _⟩ := h; go_simp; with_reducible rfl)
      simp only [Act.put, lyA, lyB, lyC, lyD, lyE, lyF]
      refine J_done (by kernel_rfl) (OnlyOn.normal ?_)
      go_wp2
      go_roundw
      case rel => exact ⟨k + 1, by omega, by go_num, hx9⟩
      case measure => simp [intOf]; omega
    · obtain rfl : k = n := by omega
      go_wp2
      go_ret
      exact ⟨rfl, hx.out⟩
noncomputable def chkE (xs : List Nx) : Int := if wrongX xs = 0 then 0 else 11
theorem rCheck_any (A : Option Addr) (n c : Nat) (xs : List Nx) (w : World) (hr : RX w A n c xs) : Calls Tryz.prog 39 #[.agg #[.slice A n c]] w (Give (.tuple #[.int .i64 (wrongX xs), .int .i64 (chkE xs)]) w) := by
  have hx1 := hid ((Ext.refl w).alloc_right (.cells #[.slice A n c] 40))
  have hC := hid (fun w' (hx : Ext w w') => rwrong_any A n c xs w' (hr.ext hx))
  have hrg := wrong_rng xs
  have hE : Hid (chkE xs = if wrongX xs = 0 then 0 else 11) := rfl
  generalize chkE xs = E at *
  generalize wrongX xs = W at *
  by_cases h0 : W = 0
  · subst h0
    have hE0 : E = 0 := by rw [hE.out, if_pos rfl]
    subst hE0
    clear hE hr
    go_enter Tryz.func39, Tryz.ntmps39
    go_wp2_with fail
    refine (hC.out _ hx1.out).mono ?_
    rintro e w2 ⟨rfl, hx2⟩
    go_wp2
    go_ret2
    exact ⟨rfl, hx1.out.trans hx2⟩
  · have hE0 : E = 11 := by rw [hE.out, if_neg h0]
    subst hE0
    have h1 : 0 < W := by omega
    clear hE hr h0
    go_enter Tryz.func39, Tryz.ntmps39
    go_wp2_with fail
    refine (hC.out _ hx1.out).mono ?_
    rintro e w2 ⟨rfl, hx2⟩
    go_wp2
    go_ret2
    exact ⟨rfl, hx1.out.trans hx2⟩
theorem entX_len {xs : List Nx} (h0 : wrongX xs = 0) : (entX xs).length ≤ 9600 := by
  obtain ⟨c1, c1', c2, c3, -, ⟨h, hU⟩, -, -⟩ := wrong_none.1 h0
  have hT := tree_ut c3 (by omega)
  have h1 := btx_len c2 hU hT
  have h2 := sub_le c3 (by omega) hT
  unfold entX
  rw [hX_is hU]
  omega
theorem rEntriesX_any (A : Option Addr) (n c : Nat) (xs : List Nx) (w : World) (hr : RX w A n c xs) (h0 : wrongX xs = 0) : Calls Tryz.prog 40 #[.agg #[.slice A n c]] w (GiveE (entX xs) w) := by
  obtain ⟨c1, c1', c2, c3, -, ⟨h, hU⟩, -, -⟩ := wrong_none.1 h0
  have h3 := entX_len h0
  have hl := hr.len
  have h4 := c3.1
  rw [hl] at h4
  unfold entX at h3 ⊢
  rw [hX_is hU] at h3 ⊢
  exact rEntriesU_any n xs h4 c2 h A c w hr hU (by omega)
def RTr (w : World) (r : Nat) (L : List Te) : Prop := ∃ A1 c1 A2 c2, w.heap[r]? = some (.cells #[.slice A1 L.length c1, .slice A2 L.length c2] 31 (0, 0)) ∧ Rd w 1 A1 L.length c1 (strv (L.map Te.key)) ∧ RdI w A2 L.length c2 (L.map Te.no)
theorem RTr.ext {w w' : World} {r : Nat} {L : List Te} (h : RTr w r L) (hx : Ext w w') : RTr w' r L := by
  obtain ⟨A1, c1, A2, c2, h1, h2, h3⟩ := h
  exact ⟨A1, c1, A2, c2, (hx.block (Array.getElem?_eq_some_iff.1 h1).1).trans h1, h2.ext hx, h3.ext hx⟩
theorem rLen_any (r : Nat) (L : List Te) (w : World) (h : RTr w r L) : Calls Tryz.prog 38 #[.pointer (some ⟨r, 0, none⟩)] w fun e w' => e = .returned (.int .i64 L.length) ∧ w = w' := by
  obtain ⟨A1, c1, A2, c2, h1, -, -⟩ := h
  have z0 : w.cell? ⟨r, 0, none⟩ = some (.slice A1 L.length c1) := by rw [Lib.cell_of_heap h1]; rfl
  have lr := (Array.getElem?_eq_some_iff.1 h1).1
  clear h1
  go_enter Tryz.func38, Tryz.ntmps38
  go_wp2
  go_ret
  exact ⟨rfl, rfl⟩
theorem holds_any (t : Nat) (L : List Te) (h p : Nat) (T : BT) (fT : Nat → Nat) (r : Nat) (w : World) (H : TreeAt 0 w t L h p T fT) (hn : (lst h T 0).length ≤ 2400) (hR : RTr w r L) : Calls Tryz.prog 9 #[.pointer (some ⟨t, 0, none⟩), .pointer (some ⟨r, 0, none⟩)] w (Give (.bool true) w) := by
  have hI := hid (Index_any t L h p T fT w H)
  obtain ⟨hw0, hent⟩ := lst_right H.sh H.l4 H.l1 hn (by rw [H.fl]; exact H.ok) (by rw [H.fl]; exact H.sr)
  rw [H.fl] at hent
  have hL := hid (fun w' (hx : Ext w w') => Len_any t L h p T fT w' (H.ext hx))
  have hrl := hid (fun w' (hx : Ext w w') => rLen_any r L w' (hR.ext hx))
  have hck := hid (fun w' A n c (hr : RX w' A n c (lst h T 0)) => rCheck_any A n c _ w' hr)
  have hen := hid (fun w' A n c (hr : RX w' A n c (lst h T 0)) => rEntriesX_any A n c _ w' hr hw0)
  rw [hent] at hen
  rw [show chkE (lst h T 0) = 0 from if_pos hw0, hw0] at hck
  have hLl := H.le
  have hRw := hid hR
  clear hw0 hent H hn hR
  generalize lst h T 0 = xs at *
  go_enter Tryz.func9, Tryz.ntmps9
  go_wp2_with fail
  refine hI.out.mono ?_
  rintro e w2 ⟨v, rfl, hIX, hx2⟩
  obtain ⟨A, c, rfl, hRX⟩ := hIX.reads
  clear hIX hI
  have hxb := (Ext.refl w2).alloc_right (.cells #[.slice A xs.length c] 40)
  have hb0 := heap_alloc_new w2 (.cells #[.slice A xs.length c] 40)
  have zb : (w2.alloc (.cells #[.slice A xs.length c] 40)).cell? ⟨w2.heap.size, 0, none⟩ = some (.slice A xs.length c) := by rw [Lib.cell_of_heap hb0]; rfl
  replace hRX := hid (hRX.ext hxb)
  have hx := hid (hx2.trans hxb)
  clear hxb hb0 hx2
  go_upto_region 2 with fail
  generalize hb : w2.heap.size = b at *
  generalize w2.alloc (.cells #[.slice A xs.length c] 40) = w3 at *
  replace hb := hid hb
  have lb := World.block_lt_of_cell? _ _ zb
  dsimp only at lb
  go_wp2_with fail
  refine (hck.out _ _ _ _ hRX.out).mono ?_
  rintro e w4 ⟨rfl, hx4⟩
  replace hRX := hid (hRX.out.ext hx4)
  replace hx := hid (hx.out.trans hx4)
  replace zb := hx4.cell zb
  replace lb := Nat.lt_of_lt_of_le lb hx4.size
  clear hx4 hck
  go_wp2_with fail
  refine (hL.out _ hx.out).mono ?_
  rintro e w5 ⟨rfl, hx5⟩
  replace hRX := hid (hRX.out.ext hx5)
  replace hx := hid (hx.out.trans hx5)
  replace zb := hx5.cell zb
  replace lb := Nat.lt_of_lt_of_le lb hx5.size
  clear hx5 hL
  go_wp2_with fail
  refine (hrl.out _ hx.out).mono ?_
  rintro e w5' ⟨rfl, rfl⟩
  clear hrl
  go_wp2_with fail
  refine (hen.out _ _ _ _ hRX.out).mono ?_
  rintro e w6 ⟨K1, k1, K2, k2, rfl, hk1, hk2, hx6, -, -⟩
  replace hx := hid (hx.out.trans hx6)
  obtain ⟨A1, c1, A2, c2, e1, e2, e3⟩ := hRw.out.ext hx.out
  have z0 : w6.cell? ⟨r, 0, none⟩ = some (.slice A1 L.length c1) := by rw [Lib.cell_of_heap e1]; rfl
  have z1 : w6.cell? ⟨r, 1, none⟩ = some (.slice A2 L.length c2) := by rw [Lib.cell_of_heap e1]; rfl
  have lr := (Array.getElem?_eq_some_iff.1 e1).1
  have hT1 := hid (fun w' (hx : Ext w6 w') => sTexts_any K1 L.length k1 A1 c1 _ w' (hk1.ext hx) (e2.ext hx))
  have hT2 := hid (fun w' (hx : Ext w6 w') => sInts_any K2 L.length k2 A2 c2 _ w' (hk2.ext hx) (e3.ext hx))
  clear hx6 hk1 hk2 e1 e2 e3 hen zb lb
  go_wp2_with fail
  refine (hT1.out _ (Ext.refl _)).mono ?_
  rintro e w7 ⟨rfl, hx7⟩
  replace z1 := hx7.cell z1
  replace lr := Nat.lt_of_lt_of_le lr hx7.size
  go_wp2_with fail
  refine (hT2.out _ hx7).mono ?_
  rintro e w8 ⟨rfl, hx8⟩
  go_wp2
  go_ret
  exact ⟨rfl, hx.out.trans (hx7.trans hx8)⟩
open Go.RowKit Go.Shelf
theorem told_no (A : Option Addr) (n c : Nat) (i : Int) (w : World) (h : i < 0 ∨ (n : Int) ≤ i) : Calls Tryz.prog 55 #[.slice A n c, .int .i64 i] w fun e w' => e = .returned (.tuple #[.string ⟨#[]⟩, .int .i64 0, .bool false]) ∧ w = w' := by
  by_cases h1 : i < 0
  · clear h
    go_enter Tryz.func55, Tryz.ntmps55
    go_wp2
    go_ret3
    exact ⟨rfl, rfl⟩
  · have h2 : (n : Int) ≤ i := by omega
    clear h
    go_enter Tryz.func55, Tryz.ntmps55
    go_wp2
    go_ret3
    exact ⟨rfl, rfl⟩
theorem len_toListB (s : ByteArray) : s.toList.length = s.size := by
  rw [ByteArray.toList_eq]; rfl
theorem empty_is {s : ByteArray} (h : s.toList.isEmpty = true) : s = ⟨#[]⟩ := by
  obtain ⟨⟨l⟩⟩ := s
  have : (⟨⟨l⟩⟩ : ByteArray).toList.length = 0 := by rw [List.isEmpty_iff.1 h]; rfl
  rw [len_toListB] at this
  have h2 : l.length = 0 := this
  rw [List.length_eq_zero_iff.1 h2]
def kth (ks : List BT) (i : Nat) : BT := ks.getD i (.nd [] [])
theorem kth_get {ks : List BT} {i : Nat} (h : i < ks.length) : kth ks i = ks[i] := by simp [kth, List.getD, h]
def joinT (l : List Te) (ks : List BT) (i : Nat) : BT :=
  .nd (l.take i ++ l.drop (i + 1)) (ks.take i ++ .nd ((kth ks i).l ++ tth l i :: (kth ks (i + 1)).l) ((kth ks i).ks ++ (kth ks (i + 1)).ks) :: ks.drop (i + 2))
def leftT (l : List Te) (ks : List BT) (i : Nat) : BT :=
  .nd (l.take i ++ tth (kth ks i).l ((kth ks i).l.length - 1) :: l.drop (i + 1))
    (ks.take i ++ .nd ((kth ks i).l.take ((kth ks i).l.length - 1)) ((kth ks i).ks.take ((kth ks i).ks.length - 1)) :: .nd (tth l i :: (kth ks (i + 1)).l) ((kth ks i).ks.drop ((kth ks i).ks.length - 1) ++ (kth ks (i + 1)).ks) :: ks.drop (i + 2))
def rightT (l : List Te) (ks : List BT) (i : Nat) : BT :=
  .nd (l.take i ++ tth (kth ks (i + 1)).l 0 :: l.drop (i + 1))
    (ks.take i ++ .nd ((kth ks i).l ++ [tth l i]) ((kth ks i).ks ++ (kth ks (i + 1)).ks.take 1) :: .nd ((kth ks (i + 1)).l.drop 1) ((kth ks (i + 1)).ks.drop 1) :: ks.drop (i + 2))
def fillT (l : List Te) (ks : List BT) (i : Nat) : BT :=
  if 2 ≤ (kth ks i).l.length then .nd l ks else if 0 < i ∧ 2 < (kth ks (i - 1)).l.length then leftT l ks (i - 1)
  else if i < l.length ∧ 2 < (kth ks (i + 1)).l.length then rightT l ks i else if 0 < i then joinT l ks (i - 1) else joinT l ks i
theorem tlW_join {x : Te} {rl : List Te} {r : List Te} {rs : List (List Te)} : ∀ {ll : List Te} {ms : List (List Te)}, ms.length = ll.length → tlW (ll ++ x :: rl) (ms ++ r :: rs) = tlW ll ms ++ x :: wv rl (r :: rs)
  | [], [], _ => rfl
  | y :: ll, m :: ms, h => by
    have ih := tlW_join (x := x) (rl := rl) (r := r) (rs := rs) (ll := ll) (ms := ms) (by simpa using h)
    show y :: (m ++ tlW (ll ++ x :: rl) (ms ++ r :: rs)) = (y :: (m ++ tlW ll ms)) ++ x :: wv rl (r :: rs)
    rw [ih]
    simp
theorem wv_join {x : Te} {ll rl : List Te} {lm rm : List (List Te)} (h : lm.length = ll.length + 1) (hr : rm.length = rl.length + 1) : wv (ll ++ x :: rl) (lm ++ rm) = wv ll lm ++ x :: wv rl rm := by
  match lm, rm, h, hr with
  | m :: ms, r :: rs, h, hr =>
    show m ++ tlW (ll ++ x :: rl) (ms ++ r :: rs) = (m ++ tlW ll ms) ++ x :: wv rl (r :: rs)
    rw [tlW_join (by simpa using h)]
    simp
theorem joinK {x : Te} : ∀ {h : Nat} {ll rl : List Te} {lk rk : List BT}, Shp h (.nd ll lk) → Shp h (.nd rl rk) → Shp h (.nd (ll ++ x :: rl) (lk ++ rk)) ∧ flat h (.nd (ll ++ x :: rl) (lk ++ rk)) = flat h (.nd ll lk) ++ x :: flat h (.nd rl rk)
  | 0, ll, rl, lk, rk, h1, h2 => by
    obtain rfl : lk = [] := h1
    obtain rfl : rk = [] := h2
    exact ⟨rfl, rfl⟩
  | h + 1, ll, rl, lk, rk, h1, h2 => by
    refine ⟨⟨?_, fun k hk => ?_⟩, ?_⟩
    · have a := h1.1
      have b := h2.1
      simp only [List.length_append, List.length_cons]
      omega
    · rcases List.mem_append.1 hk with hk | hk
      · exact h1.2 k hk
      · exact h2.2 k hk
    · show wv (ll ++ x :: rl) ((lk ++ rk).map (flat h)) = wv ll (lk.map (flat h)) ++ x :: wv rl (rk.map (flat h))
      rw [List.map_append]
      exact wv_join (by rw [List.length_map]; exact h1.1) (by rw [List.length_map]; exact h2.1)
theorem cutLast : ∀ {h : Nat} {ll : List Te} {lk : List BT}, Shp h (.nd ll lk) → 1 ≤ ll.length → Shp h (.nd (ll.take (ll.length - 1)) (lk.take (lk.length - 1))) ∧ Shp h (.nd [] (lk.drop (lk.length - 1))) ∧ ll = ll.take (ll.length - 1) ++ tth ll (ll.length - 1) :: [] ∧ lk = lk.take (lk.length - 1) ++ lk.drop (lk.length - 1)
  | h, ll, lk, hs, h1 => by
    have e1 : ll = ll.take (ll.length - 1) ++ tth ll (ll.length - 1) :: [] := by
      have e := list_cut (l := ll) (i := ll.length - 1) (by omega)
      rw [show ll.length - 1 + 1 = ll.length by omega, List.drop_length] at e
      rw [tth_get (by omega)]
      exact e
    refine ⟨?_, ?_, e1, (List.take_append_drop _ _).symm⟩
    · cases h with
      | zero => obtain rfl : lk = [] := hs; rfl
      | succ h =>
        have a := hs.1
        exact ⟨by rw [List.length_take, List.length_take]; omega, fun k hk => hs.2 k (List.mem_of_mem_take hk)⟩
    · cases h with
      | zero => obtain rfl : lk = [] := hs; rfl
      | succ h =>
        have a := hs.1
        exact ⟨by rw [List.length_drop, List.length_nil]; omega, fun k hk => hs.2 k (List.mem_of_mem_drop hk)⟩
theorem cutFirst : ∀ {h : Nat} {ll : List Te} {lk : List BT}, Shp h (.nd ll lk) → 1 ≤ ll.length → Shp h (.nd (ll.drop 1) (lk.drop 1)) ∧ Shp h (.nd [] (lk.take 1)) ∧ ll = [] ++ tth ll 0 :: ll.drop 1 ∧ lk = lk.take 1 ++ lk.drop 1
  | h, ll, lk, hs, h1 => by
    have e1 : ll = [] ++ tth ll 0 :: ll.drop 1 := by
      have e := list_cut (l := ll) (i := 0) (by omega)
      rw [tth_get (by omega)]
      exact e
    refine ⟨?_, ?_, e1, (List.take_append_drop _ _).symm⟩
    · cases h with
      | zero => obtain rfl : lk = [] := hs; rfl
      | succ h =>
        have a := hs.1
        exact ⟨by rw [List.length_drop, List.length_drop]; omega, fun k hk => hs.2 k (List.mem_of_mem_drop hk)⟩
    · cases h with
      | zero => obtain rfl : lk = [] := hs; rfl
      | succ h =>
        have a := hs.1
        exact ⟨by rw [List.length_take, List.length_nil]; omega, fun k hk => hs.2 k (List.mem_of_mem_take hk)⟩
theorem leftK {x : Te} {h : Nat} {ll kl : List Te} {lk kk : List BT} (h1 : Shp h (.nd ll lk)) (h2 : Shp h (.nd kl kk)) (hn : 1 ≤ ll.length) :
    Shp h (.nd (ll.take (ll.length - 1)) (lk.take (lk.length - 1))) ∧ Shp h (.nd (x :: kl) (lk.drop (lk.length - 1) ++ kk)) ∧
    flat h (.nd (ll.take (ll.length - 1)) (lk.take (lk.length - 1))) ++ tth ll (ll.length - 1) :: flat h (.nd (x :: kl) (lk.drop (lk.length - 1) ++ kk)) = flat h (.nd ll lk) ++ x :: flat h (.nd kl kk) := by
  obtain ⟨a, b, e1, e2⟩ := cutLast h1 hn
  have j1 := joinK (x := tth ll (ll.length - 1)) a b
  have j2 := joinK (x := x) b h2
  rw [← e1, ← e2] at j1
  refine ⟨a, j2.1, ?_⟩
  rw [j1.2, show (x :: kl) = [] ++ x :: kl from rfl, j2.2]
  simp
theorem rightK {x : Te} {h : Nat} {ll rl : List Te} {lk rk : List BT} (h1 : Shp h (.nd ll lk)) (h2 : Shp h (.nd rl rk)) (hn : 1 ≤ rl.length) :
    Shp h (.nd (ll ++ [x]) (lk ++ rk.take 1)) ∧ Shp h (.nd (rl.drop 1) (rk.drop 1)) ∧
    flat h (.nd (ll ++ [x]) (lk ++ rk.take 1)) ++ tth rl 0 :: flat h (.nd (rl.drop 1) (rk.drop 1)) = flat h (.nd ll lk) ++ x :: flat h (.nd rl rk) := by
  obtain ⟨a, b, e1, e2⟩ := cutFirst h2 hn
  have j1 := joinK (x := tth rl 0) b a
  have j2 := joinK (x := x) h1 b
  rw [← e1, ← e2] at j1
  refine ⟨j2.1, a, ?_⟩
  rw [j1.2, j2.2]
  simp
theorem one_flat {h : Nat} {a b : List Te} {p q : List BT} {J : BT} (hl : a.length = p.length) : flat (h + 1) (.nd (a ++ b) (p ++ J :: q)) = wvp a (p.map (flat h)) ++ (flat h J ++ tlW b (q.map (flat h))) := by
  show wv (a ++ b) ((p ++ J :: q).map (flat h)) = _
  rw [List.map_append, List.map_cons]
  exact wv_app (by rw [List.length_map]; exact hl)
theorem pair_flat {h : Nat} {a b : List Te} {p q : List BT} {x : Te} {L K : BT} (hl : a.length = p.length) : flat (h + 1) (.nd (a ++ x :: b) (p ++ L :: K :: q)) = wvp a (p.map (flat h)) ++ ((flat h L ++ x :: flat h K) ++ tlW b (q.map (flat h))) := by
  rw [one_flat hl]
  show wvp a (p.map (flat h)) ++ (flat h L ++ (x :: (flat h K ++ tlW b (q.map (flat h))))) = _
  simp
theorem nd_eta (K : BT) : BT.nd K.l K.ks = K := by cases K; rfl
structure Near (h : Nat) (l : List Te) (ks : List BT) (i : Nat) : Prop where
  len : ks.length = l.length + 1
  le : i ≤ l.length
  n1 : 1 ≤ l.length
  rest : ∀ j, j < ks.length → j ≠ i → 2 ≤ (kth ks j).l.length ∧ (kth ks j).l.length ≤ 4 ∧ Shp h (kth ks j)
  it : 1 ≤ (kth ks i).l.length ∧ (kth ks i).l.length ≤ 4 ∧ Shp h (kth ks i)
theorem pair_cut {l : List Te} {ks : List BT} {i : Nat} (hlen : ks.length = l.length + 1) (hi : i < l.length) : l = l.take i ++ tth l i :: l.drop (i + 1) ∧ ks = ks.take i ++ kth ks i :: kth ks (i + 1) :: ks.drop (i + 2) ∧ (l.take i).length = (ks.take i).length := by
  refine ⟨?_, ?_, by rw [List.length_take, List.length_take]; omega⟩
  · rw [tth_get hi]
    exact list_cut hi
  · have e1 := list_cut (l := ks) (i := i) (by omega)
    have e2 : ks.drop (i + 1) = ks[i + 1]'(by omega) :: ks.drop (i + 2) := List.drop_eq_getElem_cons (by omega)
    rw [e2] at e1
    rw [kth_get (by omega), kth_get (by omega)]
    exact e1
theorem Near.out {h : Nat} {l : List Te} {ks : List BT} {i j : Nat} (H : Near h l ks i) (hj : i = j ∨ i = j + 1) : ∀ K, (K ∈ ks.take j ∨ K ∈ ks.drop (j + 2)) → 2 ≤ K.l.length ∧ K.l.length ≤ 4 ∧ Shp h K := by
  intro K hK
  rcases hK with hK | hK
  · obtain ⟨q, hq, rfl⟩ := List.getElem_of_mem hK
    rw [List.length_take] at hq
    rw [List.getElem_take]
    have := H.rest q (by omega) (by omega)
    rwa [kth_get (by omega)] at this
  · obtain ⟨q, hq, rfl⟩ := List.getElem_of_mem hK
    rw [List.length_drop] at hq
    rw [List.getElem_drop]
    have := H.rest (j + 2 + q) (by omega) (by omega)
    rwa [kth_get (by omega)] at this
def Filled (h : Nat) (l : List Te) (ks : List BT) (T : BT) : Prop := Shp (h + 1) T ∧ flat (h + 1) T = flat (h + 1) (.nd l ks) ∧ l.length ≤ T.l.length + 1 ∧ T.l.length ≤ l.length
section
variable {h : Nat} {l : List Te} {ks : List BT} {i j : Nat}
theorem two_ok {L' K' : BT} {x' : Te} (H : Near h l ks i) (hj : j < l.length) (hij : i = j ∨ i = j + 1) (hL : 2 ≤ L'.l.length ∧ L'.l.length ≤ 4 ∧ Shp h L') (hK : 2 ≤ K'.l.length ∧ K'.l.length ≤ 4 ∧ Shp h K')
    (hf : flat h L' ++ x' :: flat h K' = flat h (kth ks j) ++ tth l j :: flat h (kth ks (j + 1))) : Filled h l ks (.nd (l.take j ++ x' :: l.drop (j + 1)) (ks.take j ++ L' :: K' :: ks.drop (j + 2))) := by
  obtain ⟨e1, e2, e3⟩ := pair_cut H.len hj
  have hlen := H.len
  have ho := H.out hij
  refine ⟨⟨?_, fun k hk => ?_⟩, ?_, ?_, ?_⟩
  · simp only [List.length_append, List.length_cons, List.length_take, List.length_drop]
    omega
  · rcases List.mem_append.1 hk with hk | hk
    · exact ho k (.inl hk)
    · rcases List.mem_cons.1 hk with rfl | hk
      · exact hL
      · rcases List.mem_cons.1 hk with rfl | hk
        · exact hK
        · exact ho k (.inr hk)
  · rw [pair_flat e3, hf, ← pair_flat e3, ← e1, ← e2]
  · show l.length ≤ (l.take j ++ x' :: l.drop (j + 1)).length + 1
    simp only [List.length_append, List.length_cons, List.length_take, List.length_drop]
    omega
  · show (l.take j ++ x' :: l.drop (j + 1)).length ≤ l.length
    simp only [List.length_append, List.length_cons, List.length_take, List.length_drop]
    omega
theorem one_ok {J : BT} (H : Near h l ks i) (hj : j < l.length) (hij : i = j ∨ i = j + 1) (hJ : 2 ≤ J.l.length ∧ J.l.length ≤ 4 ∧ Shp h J) (hf : flat h J = flat h (kth ks j) ++ tth l j :: flat h (kth ks (j + 1))) :
    Filled h l ks (.nd (l.take j ++ l.drop (j + 1)) (ks.take j ++ J :: ks.drop (j + 2))) := by
  obtain ⟨e1, e2, e3⟩ := pair_cut H.len hj
  have hlen := H.len
  have ho := H.out hij
  refine ⟨⟨?_, fun k hk => ?_⟩, ?_, ?_, ?_⟩
  · simp only [List.length_append, List.length_cons, List.length_take, List.length_drop]
    omega
  · rcases List.mem_append.1 hk with hk | hk
    · exact ho k (.inl hk)
    · rcases List.mem_cons.1 hk with rfl | hk
      · exact hJ
      · exact ho k (.inr hk)
  · rw [one_flat e3, hf, ← pair_flat e3, ← e1, ← e2]
  · show l.length ≤ (l.take j ++ l.drop (j + 1)).length + 1
    simp only [List.length_append, List.length_take, List.length_drop]
    omega
  · show (l.take j ++ l.drop (j + 1)).length ≤ l.length
    simp only [List.length_append, List.length_take, List.length_drop]
    omega
theorem fill_ok (H : Near h l ks i) : Filled h l ks (fillT l ks i) := by
  have hlen := H.len
  have hle := H.le
  have hn := H.n1
  unfold fillT
  split
  · rename_i h2
    refine ⟨⟨H.len, fun k hk => ?_⟩, rfl, Nat.le_succ _, Nat.le_refl _⟩
    obtain ⟨q, hq, rfl⟩ := List.getElem_of_mem hk
    rw [← kth_get hq]
    by_cases hqi : q = i
    · subst hqi
      exact ⟨h2, H.it.2⟩
    · exact H.rest q hq hqi
  · rename_i h2
    have hKi := H.it
    split
    · rename_i h3
      obtain ⟨j, rfl⟩ : ∃ j, i = j + 1 := ⟨i - 1, by omega⟩
      rw [Nat.add_sub_cancel] at h3 ⊢
      have hL := H.rest j (by omega) (by omega)
      have k := leftK (x := tth l j) (h := h) (ll := (kth ks j).l) (kl := (kth ks (j + 1)).l) (lk := (kth ks j).ks) (kk := (kth ks (j + 1)).ks) (by rw [nd_eta]; exact hL.2.2) (by rw [nd_eta]; exact hKi.2.2) (by omega)
      rw [nd_eta, nd_eta] at k
      refine two_ok H (by omega) (.inr rfl) ⟨?_, ?_, k.1⟩ ⟨?_, ?_, k.2.1⟩ k.2.2
      · show 2 ≤ ((kth ks j).l.take _).length
        rw [List.length_take]; omega
      · show ((kth ks j).l.take _).length ≤ 4
        rw [List.length_take]; omega
      · show 2 ≤ ((kth ks (j + 1)).l.length + 1)
        omega
      · show (kth ks (j + 1)).l.length + 1 ≤ 4
        omega
    · rename_i h3
      split
      · rename_i h4
        have hR := H.rest (i + 1) (by omega) (by omega)
        have k := rightK (x := tth l i) (h := h) (ll := (kth ks i).l) (rl := (kth ks (i + 1)).l) (lk := (kth ks i).ks) (rk := (kth ks (i + 1)).ks) (by rw [nd_eta]; exact hKi.2.2) (by rw [nd_eta]; exact hR.2.2) (by omega)
        rw [nd_eta, nd_eta] at k
        refine two_ok H h4.1 (.inl rfl) ⟨?_, ?_, k.1⟩ ⟨?_, ?_, k.2.1⟩ k.2.2
        · show 2 ≤ ((kth ks i).l ++ [tth l i]).length
          rw [List.length_append, List.length_singleton]; omega
        · show ((kth ks i).l ++ [tth l i]).length ≤ 4
          rw [List.length_append, List.length_singleton]; omega
        · show 2 ≤ ((kth ks (i + 1)).l.drop 1).length
          rw [List.length_drop]; omega
        · show ((kth ks (i + 1)).l.drop 1).length ≤ 4
          rw [List.length_drop]; omega
      · rename_i h4
        split
        · rename_i h5
          obtain ⟨j, rfl⟩ : ∃ j, i = j + 1 := ⟨i - 1, by omega⟩
          rw [Nat.add_sub_cancel] at h3 ⊢
          have hL := H.rest j (by omega) (by omega)
          have k := joinK (x := tth l j) (h := h) (ll := (kth ks j).l) (rl := (kth ks (j + 1)).l) (lk := (kth ks j).ks) (rk := (kth ks (j + 1)).ks) (by rw [nd_eta]; exact hL.2.2) (by rw [nd_eta]; exact hKi.2.2)
          rw [nd_eta, nd_eta] at k
          refine one_ok H (by omega) (.inr rfl) ⟨?_, ?_, k.1⟩ k.2
          · show 2 ≤ ((kth ks j).l ++ tth l j :: (kth ks (j + 1)).l).length
            rw [List.length_append, List.length_cons]; omega
          · show ((kth ks j).l ++ tth l j :: (kth ks (j + 1)).l).length ≤ 4
            rw [List.length_append, List.length_cons]; omega
        · rename_i h5
          obtain rfl : i = 0 := by omega
          rw [Nat.zero_add] at h4
          have hR := H.rest 1 (by omega) (by omega)
          have k := joinK (x := tth l 0) (h := h) (ll := (kth ks 0).l) (rl := (kth ks 1).l) (lk := (kth ks 0).ks) (rk := (kth ks 1).ks) (by rw [nd_eta]; exact hKi.2.2) (by rw [nd_eta]; exact hR.2.2)
          rw [nd_eta, nd_eta] at k
          refine one_ok H (by omega) (.inl rfl) ⟨?_, ?_, k.1⟩ k.2
          · show 2 ≤ ((kth ks 0).l ++ tth l 0 :: (kth ks 1).l).length
            rw [List.length_append, List.length_cons]; omega
          · show ((kth ks 0).l ++ tth l 0 :: (kth ks 1).l).length ≤ 4
            rw [List.length_append, List.length_cons]; omega
end
end Go.Proofs.YtpijfiaecicpfaaGreat
