/-
  Places of keys; At, Seek, Prev, Next, between and Count of an index; Taking an entry out, plainly: nodes that join, that lend; the last entry; the entry itself. No program in sight; Taking an entry out, plainly: the last entry, and the one that is asked for. No program in sight; The methods of no index; The reference's Check and Len; what two lists have in common; holds.
-/
import Derived.Test.YtpijfiaecicpfaaGreatP10
import Derived.Test.YtpijfiaecicpfaaGreatP1
import Derived.Test.YtpijfiaecicpfaaGreatP2
import Derived.Test.YtpijfiaecicpfaaGreatP6
namespace Go.Proofs.YtpijfiaecicpfaaGreat
open Go.RowKit Go.Shelf
set_option linter.unusedVariables false
set_option linter.unusedSimpArgs false
set_option maxRecDepth 100000 in
set_option maxHeartbeats 4000000 in
theorem sTexts_any (A : Option Addr) (n c : Nat) (B : Option Addr) (d : Nat) (l : List ByteArray) (w : World) (ha : Rd w 1 A n c (strv l)) (hb : Rd w 1 B n d (strv l)) : Calls Tryz.prog 34 #[.slice A n c, .slice B n d] w (Give (.bool true) w) := by
  have hm := Rd.max ha
  replace ha := hid ha
  replace hb := hid hb
  go_enter Tryz.func34, Tryz.ntmps34
  go_wp2_with fail
  go_loopw [5] (fun i wr => ∃ k : Nat, k ≤ n ∧ i = .int .i64 k ∧ Hid (Ext w wr)) (fun i _ => n - (intOf i).toNat)
  case atStart => exact ⟨0, by omega, rfl, Ext.refl _⟩
  case round =>
    obtain ⟨k, hk, rfl, hx⟩ := hrel
    by_cases hlt : k < n
    · obtain ⟨ad, rfl, x0⟩ := rds_at (ha.out.ext hx.out) hlt
      obtain ⟨bd, rfl, y0⟩ := rds_at (hb.out.ext hx.out) hlt
      have hx9 := hid hx.out.drew_right
      have hki : (k : Int) < (n : Int) := by omega
      generalize sth l k = z0 at *
      clear ha hb
      go_upto_region 6 with fail
      have I0 : (fun w' : World => w'.cell? (ad.add k) = some (.string z0) ∧ w'.cell? (bd.add k) = some (.string z0)) wr.drew := ⟨x0, y0⟩
      refine region_J (fun w' : World => w'.cell? (ad.add k) = some (.string z0) ∧ w'.cell? (bd.add k) = some (.string z0)) 9 (by kernel_rfl) ?_
      clear x0 y0
      generalize wr.drew = w9 at *
      refine J_takeO 0 (v := ?va0) rfl (by kernel_rfl) (by kernel_rfl) (by kernel_rfl) (by kernel_rfl) (fun _ _ _ h => h) (Or.inl ⟨by rfl, ?ya0⟩) I0 ?ra0
      case ya0 => (intro w hSw; obtain ⟨_, _⟩ := hSw; (go_simp; with_reducible rfl))
      simp only [Act.put, List.getElem_toArray, List.getElem_cons_zero, List.getElem_cons_succ, List.setIfInBounds_toArray, List.set_cons_zero, List.set_cons_succ]
      refine J_takeO 1 (v := ?va1) rfl (by kernel_rfl) (by kernel_rfl) (by kernel_rfl) (by kernel_rfl) (fun _ _ _ h => h) (Or.inl ⟨by rfl, ?ya1⟩) I0 ?ra1
      case ya1 => (intro w hSw; obtain ⟨_, _⟩ := hSw; (go_simp; with_reducible rfl))
      simp only [Act.put, List.getElem_toArray, List.getElem_cons_zero, List.getElem_cons_succ, List.setIfInBounds_toArray, List.set_cons_zero, List.set_cons_succ]
      refine J_takeO 2 (v := ?va2) rfl (by kernel_rfl) (by kernel_rfl) (by kernel_rfl) (by kernel_rfl) (fun _ _ _ h => h) (Or.inl ⟨by rfl, ?ya2⟩) I0 ?ra2
      case ya2 => (intro w hSw; obtain ⟨_, _⟩ := hSw; (go_simp; with_reducible rfl))
      simp only [Act.put, List.getElem_toArray, List.getElem_cons_zero, List.getElem_cons_succ, List.setIfInBounds_toArray, List.set_cons_zero, List.set_cons_succ]
      refine J_takeO 3 (v := ?va3) rfl (by kernel_rfl) (by kernel_rfl) (by kernel_rfl) (by kernel_rfl) (fun _ _ _ h => h) (Or.inl ⟨by rfl, ?ya3⟩) I0 ?ra3
      case ya3 => (intro w hSw; obtain ⟨_, _⟩ := hSw; (go_simp; with_reducible rfl))
      simp only [Act.put, List.getElem_toArray, List.getElem_cons_zero, List.getElem_cons_succ, List.setIfInBounds_toArray, List.set_cons_zero, List.set_cons_succ]
      refine J_takeO 4 (v := ?va4) rfl (by kernel_rfl) (by kernel_rfl) (by kernel_rfl) (by kernel_rfl) (fun _ _ _ h => h) (Or.inl ⟨by rfl, ?ya4⟩) I0 ?ra4
      case ya4 => (intro w hSw; obtain ⟨_, _⟩ := hSw; (go_simp; with_reducible rfl))
      simp only [Act.put, List.getElem_toArray, List.getElem_cons_zero, List.getElem_cons_succ, List.setIfInBounds_toArray, List.set_cons_zero, List.set_cons_succ]
      refine J_takeO 5 (v := ?va5) rfl (by kernel_rfl) (by kernel_rfl) (by kernel_rfl) (by kernel_rfl) (fun _ _ _ h => h) (Or.inl ⟨by rfl, ?ya5⟩) I0 ?ra5
      case ya5 => (intro w hSw; obtain ⟨_, _⟩ := hSw; (go_simp; with_reducible rfl))
      simp only [Act.put, List.getElem_toArray, List.getElem_cons_zero, List.getElem_cons_succ, List.setIfInBounds_toArray, List.set_cons_zero, List.set_cons_succ]
      refine J_takeO 6 (v := ?va6) rfl (by kernel_rfl) (by kernel_rfl) (by kernel_rfl) (by kernel_rfl) (fun _ _ _ h => h) (Or.inl ⟨by rfl, ?ya6⟩) I0 ?ra6
      case ya6 => (intro w hSw; obtain ⟨_, _⟩ := hSw; (go_simp; with_reducible rfl))
      simp only [Act.put, List.getElem_toArray, List.getElem_cons_zero, List.getElem_cons_succ, List.setIfInBounds_toArray, List.set_cons_zero, List.set_cons_succ]
      refine J_takeO 7 (v := ?va7) rfl (by kernel_rfl) (by kernel_rfl) (by kernel_rfl) (by kernel_rfl) (fun _ _ _ h => h) (Or.inl ⟨by rfl, ?ya7⟩) I0 ?ra7
      case ya7 => (intro w hSw; obtain ⟨_, _⟩ := hSw; (go_simp; with_reducible rfl))
      simp only [Act.put, List.getElem_toArray, List.getElem_cons_zero, List.getElem_cons_succ, List.setIfInBounds_toArray, List.set_cons_zero, List.set_cons_succ]
      refine J_takeO 8 (v := ?va8) rfl (by kernel_rfl) (by kernel_rfl) (by kernel_rfl) (by kernel_rfl) (fun _ _ _ h => h) (Or.inl ⟨by rfl, ?ya8⟩) I0 ?ra8
      case ya8 => (intro w hSw; obtain ⟨_, _⟩ := hSw; (go_simp; with_reducible rfl))
      simp only [Act.put, List.getElem_toArray, List.getElem_cons_zero, List.getElem_cons_succ, List.setIfInBounds_toArray, List.set_cons_zero, List.set_cons_succ]
      refine J_done (by kernel_rfl) (OnlyOn.normal ?_)
      go_wp2
      go_roundw
      case rel => exact ⟨k + 1, by omega, by go_num, hx9⟩
      case measure => simp [intOf]; omega
    · obtain rfl : k = n := by omega
      go_wp2
      go_ret
      exact ⟨rfl, hx.out⟩
set_option maxRecDepth 100000 in
set_option maxHeartbeats 4000000 in
theorem sInts_any (A : Option Addr) (n c : Nat) (B : Option Addr) (d : Nat) (l : List Int) (w : World) (ha : RdI w A n c l) (hb : RdI w B n d l) : Calls Tryz.prog 35 #[.slice A n c, .slice B n d] w (Give (.bool true) w) := by
  have hm := Rd.max ha
  replace ha := hid ha
  replace hb := hid hb
  go_enter Tryz.func35, Tryz.ntmps35
  go_wp2_with fail
  go_loopw [5] (fun i wr => ∃ k : Nat, k ≤ n ∧ i = .int .i64 k ∧ Hid (Ext w wr)) (fun i _ => n - (intOf i).toNat)
  case atStart => exact ⟨0, by omega, rfl, Ext.refl _⟩
  case round =>
    obtain ⟨k, hk, rfl, hx⟩ := hrel
    by_cases hlt : k < n
    · obtain ⟨ad, rfl, x0⟩ := rdi_at (ha.out.ext hx.out) hlt
      obtain ⟨bd, rfl, y0⟩ := rdi_at (hb.out.ext hx.out) hlt
      have hx9 := hid hx.out.drew_right
      have hki : (k : Int) < (n : Int) := by omega
      generalize ith l k = z0 at *
      clear ha hb
      go_upto_region 6 with fail
      have I0 : (fun w' : World => w'.cell? (ad.add k) = some (.int .i64 z0) ∧ w'.cell? (bd.add k) = some (.int .i64 z0)) wr.drew := ⟨x0, y0⟩
      refine region_J (fun w' : World => w'.cell? (ad.add k) = some (.int .i64 z0) ∧ w'.cell? (bd.add k) = some (.int .i64 z0)) 9 (by kernel_rfl) ?_
      clear x0 y0
      generalize wr.drew = w9 at *
      refine J_takeO 0 (v := ?va0) rfl (by kernel_rfl) (by kernel_rfl) (by kernel_rfl) (by kernel_rfl) (fun _ _ _ h => h) (Or.inl ⟨by rfl, ?ya0⟩) I0 ?ra0
      case ya0 => (intro w hSw; obtain ⟨_, _⟩ := hSw; (go_simp; with_reducible rfl))
      simp only [Act.put, List.getElem_toArray, List.getElem_cons_zero, List.getElem_cons_succ, List.setIfInBounds_toArray, List.set_cons_zero, List.set_cons_succ]
      refine J_takeO 1 (v := ?va1) rfl (by kernel_rfl) (by kernel_rfl) (by kernel_rfl) (by kernel_rfl) (fun _ _ _ h => h) (Or.inl ⟨by rfl, ?ya1⟩) I0 ?ra1
      case ya1 => (intro w hSw; obtain ⟨_, _⟩ := hSw; (go_simp; with_reducible rfl))
      simp only [Act.put, List.getElem_toArray, List.getElem_cons_zero, List.getElem_cons_succ, List.setIfInBounds_toArray, List.set_cons_zero, List.set_cons_succ]
      refine J_takeO 2 (v := ?va2) rfl (by kernel_rfl) (by kernel_rfl) (by kernel_rfl) (by kernel_rfl) (fun _ _ _ h => h) (Or.inl ⟨by rfl, ?ya2⟩) I0 ?ra2
      case ya2 => (intro w hSw; obtain ⟨_, _⟩ := hSw; (go_simp; with_reducible rfl))
      simp only [Act.put, List.getElem_toArray, List.getElem_cons_zero, List.getElem_cons_succ, List.setIfInBounds_toArray, List.set_cons_zero, List.set_cons_succ]
      refine J_takeO 3 (v := ?va3) rfl (by kernel_rfl) (by kernel_rfl) (by kernel_rfl) (by kernel_rfl) (fun _ _ _ h => h) (Or.inl ⟨by rfl, ?ya3⟩) I0 ?ra3
      case ya3 => (intro w hSw; obtain ⟨_, _⟩ := hSw; (go_simp; with_reducible rfl))
      simp only [Act.put, List.getElem_toArray, List.getElem_cons_zero, List.getElem_cons_succ, List.setIfInBounds_toArray, List.set_cons_zero, List.set_cons_succ]
      refine J_takeO 4 (v := ?va4) rfl (by kernel_rfl) (by kernel_rfl) (by kernel_rfl) (by kernel_rfl) (fun _ _ _ h => h) (Or.inl ⟨by rfl, ?ya4⟩) I0 ?ra4
      case ya4 => (intro w hSw; obtain ⟨_, _⟩ := hSw; (go_simp; with_reducible rfl))
      simp only [Act.put, List.getElem_toArray, List.getElem_cons_zero, List.getElem_cons_succ, List.setIfInBounds_toArray, List.set_cons_zero, List.set_cons_succ]
      refine J_takeO 5 (v := ?va5) rfl (by kernel_rfl) (by kernel_rfl) (by kernel_rfl) (by kernel_rfl) (fun _ _ _ h => h) (Or.inl ⟨by rfl, ?ya5⟩) I0 ?ra5
      case ya5 => (intro w hSw; obtain ⟨_, _⟩ := hSw; (go_simp; with_reducible rfl))
      simp only [Act.put, List.getElem_toArray, List.getElem_cons_zero, List.getElem_cons_succ, List.setIfInBounds_toArray, List.set_cons_zero, List.set_cons_succ]
      refine J_takeO 6 (v := ?va6) rfl (by kernel_rfl) (by kernel_rfl) (by kernel_rfl) (by kernel_rfl) (fun _ _ _ h => h) (Or.inl ⟨by rfl, ?ya6⟩) I0 ?ra6
      case ya6 => (intro w hSw; obtain ⟨_, _⟩ := hSw; (go_simp; with_reducible rfl))
      simp only [Act.put, List.getElem_toArray, List.getElem_cons_zero, List.getElem_cons_succ, List.setIfInBounds_toArray, List.set_cons_zero, List.set_cons_succ]
      refine J_takeO 7 (v := ?va7) rfl (by kernel_rfl) (by kernel_rfl) (by kernel_rfl) (by kernel_rfl) (fun _ _ _ h => h) (Or.inl ⟨by rfl, ?ya7⟩) I0 ?ra7
      case ya7 => (intro w hSw; obtain ⟨_, _⟩ := hSw; (go_simp; with_reducible rfl))
      simp only [Act.put, List.getElem_toArray, List.getElem_cons_zero, List.getElem_cons_succ, List.setIfInBounds_toArray, List.set_cons_zero, List.set_cons_succ]
      refine J_takeO 8 (v := ?va8) rfl (by kernel_rfl) (by kernel_rfl) (by kernel_rfl) (by kernel_rfl) (fun _ _ _ h => h) (Or.inl ⟨by rfl, ?ya8⟩) I0 ?ra8
      case ya8 => (intro w hSw; obtain ⟨_, _⟩ := hSw; (go_simp; with_reducible rfl))
      simp only [Act.put, List.getElem_toArray, List.getElem_cons_zero, List.getElem_cons_succ, List.setIfInBounds_toArray, List.set_cons_zero, List.set_cons_succ]
      refine J_done (by kernel_rfl) (OnlyOn.normal ?_)
      go_wp2
      go_roundw
      case rel => exact ⟨k + 1, by omega, by go_num, hx9⟩
      case measure => simp [intOf]; omega
    · obtain rfl : k = n := by omega
      go_wp2
      go_ret
      exact ⟨rfl, hx.out⟩
/-- What Check says of an index. -/
noncomputable def chkE (xs : List Nx) : Int := if wrongX xs = 0 then 0 else 11
set_option maxRecDepth 100000 in
set_option maxHeartbeats 4000000 in
theorem rCheck_any (A : Option Addr) (n c : Nat) (xs : List Nx) (w : World) (hr : RX w A n c xs) : Calls Tryz.prog 39 #[.agg #[.slice A n c]] w (Give (.tuple #[.int .i64 (wrongX xs), .int .i64 (chkE xs)]) w) := by
  have hx1 := hid ((Ext.refl w).alloc_right (.cells #[.slice A n c] 40))
  have hC := hid (fun w' (hx : Ext w w') => rwrong_any A n c xs w' (hr.ext hx))
  have hrg := wrong_rng xs
  have hE : Hid (chkE xs = if wrongX xs = 0 then 0 else 11) := rfl
  generalize chkE xs = E at *
  generalize wrongX xs = W at *
  by_cases h0 : W = 0
  · subst h0
    have hE0 : E = 0 := by rw [hE.out, if_pos rfl]
    subst hE0
    clear hE hr
    go_enter Tryz.func39, Tryz.ntmps39
    go_wp2_with fail
    refine (hC.out _ hx1.out).mono ?_
    rintro e w2 ⟨rfl, hx2⟩
    go_wp2
    go_ret2
    exact ⟨rfl, hx1.out.trans hx2⟩
  · have hE0 : E = 11 := by rw [hE.out, if_neg h0]
    subst hE0
    have h1 : 0 < W := by omega
    clear hE hr h0
    go_enter Tryz.func39, Tryz.ntmps39
    go_wp2_with fail
    refine (hC.out _ hx1.out).mono ?_
    rintro e w2 ⟨rfl, hx2⟩
    go_wp2
    go_ret2
    exact ⟨rfl, hx1.out.trans hx2⟩
theorem entX_len {xs : List Nx} (h0 : wrongX xs = 0) : (entX xs).length ≤ 9600 := by
  obtain ⟨c1, c1', c2, c3, -, ⟨h, hU⟩, -, -⟩ := wrong_none.1 h0
  have hT := tree_ut c3 (by omega)
  have h1 := btx_len c2 hU hT
  have h2 := sub_le c3 (by omega) hT
  unfold entX
  rw [hX_is hU]
  omega
/-- The entries of a right index. -/
theorem rEntriesX_any (A : Option Addr) (n c : Nat) (xs : List Nx) (w : World) (hr : RX w A n c xs) (h0 : wrongX xs = 0) : Calls Tryz.prog 40 #[.agg #[.slice A n c]] w (GiveE (entX xs) w) := by
  obtain ⟨c1, c1', c2, c3, -, ⟨h, hU⟩, -, -⟩ := wrong_none.1 h0
  have h3 := entX_len h0
  have hl := hr.len
  have h4 := c3.1
  rw [hl] at h4
  unfold entX at h3 ⊢
  rw [hX_is hU] at h3 ⊢
  exact rEntriesU_any n xs h4 c2 h A c w hr hU (by omega)
/-- The reference's tree in memory. -/
def RTr (w : World) (r : Nat) (L : List Te) : Prop := ∃ A1 c1 A2 c2, w.heap[r]? = some (.cells #[.slice A1 L.length c1, .slice A2 L.length c2] 31 (0, 0)) ∧ Rd w 1 A1 L.length c1 (strv (L.map Te.key)) ∧ RdI w A2 L.length c2 (L.map Te.no)
theorem RTr.ext {w w' : World} {r : Nat} {L : List Te} (h : RTr w r L) (hx : Ext w w') : RTr w' r L := by
  obtain ⟨A1, c1, A2, c2, h1, h2, h3⟩ := h
  exact ⟨A1, c1, A2, c2, (hx.block (Array.getElem?_eq_some_iff.1 h1).1).trans h1, h2.ext hx, h3.ext hx⟩
set_option maxRecDepth 100000 in
set_option maxHeartbeats 4000000 in
theorem rLen_any (r : Nat) (L : List Te) (w : World) (h : RTr w r L) : Calls Tryz.prog 38 #[.pointer (some ⟨r, 0, none⟩)] w fun e w' => e = .returned (.int .i64 L.length) ∧ w = w' := by
  obtain ⟨A1, c1, A2, c2, h1, -, -⟩ := h
  have z0 : w.cell? ⟨r, 0, none⟩ = some (.slice A1 L.length c1) := by rw [Lib.cell_of_heap h1]; rfl
  have lr := (Array.getElem?_eq_some_iff.1 h1).1
  clear h1
  go_enter Tryz.func38, Tryz.ntmps38
  go_wp2
  go_ret
  exact ⟨rfl, rfl⟩
set_option maxRecDepth 100000 in
set_option maxHeartbeats 8000000 in
theorem holds_any (t : Nat) (L : List Te) (h p : Nat) (T : BT) (fT : Nat → Nat) (r : Nat) (w : World) (H : TreeAt 0 w t L h p T fT) (hn : (lst h T 0).length ≤ 2400) (hR : RTr w r L) : Calls Tryz.prog 9 #[.pointer (some ⟨t, 0, none⟩), .pointer (some ⟨r, 0, none⟩)] w (Give (.bool true) w) := by
  have hI := hid (Index_any t L h p T fT w H)
  obtain ⟨hw0, hent⟩ := lst_right H.sh H.l4 H.l1 hn (by rw [H.fl]; exact H.ok) (by rw [H.fl]; exact H.sr)
  rw [H.fl] at hent
  have hL := hid (fun w' (hx : Ext w w') => Len_any t L h p T fT w' (H.ext hx))
  have hrl := hid (fun w' (hx : Ext w w') => rLen_any r L w' (hR.ext hx))
  have hck := hid (fun w' A n c (hr : RX w' A n c (lst h T 0)) => rCheck_any A n c _ w' hr)
  have hen := hid (fun w' A n c (hr : RX w' A n c (lst h T 0)) => rEntriesX_any A n c _ w' hr hw0)
  rw [hent] at hen
  rw [show chkE (lst h T 0) = 0 from if_pos hw0, hw0] at hck
  have hLl := H.le
  have hRw := hid hR
  clear hw0 hent H hn hR
  generalize lst h T 0 = xs at *
  go_enter Tryz.func9, Tryz.ntmps9
  go_wp2_with fail
  refine hI.out.mono ?_
  rintro e w2 ⟨v, rfl, hIX, hx2⟩
  obtain ⟨A, c, rfl, hRX⟩ := hIX.reads
  clear hIX hI
  have hxb := (Ext.refl w2).alloc_right (.cells #[.slice A xs.length c] 40)
  have hb0 := heap_alloc_new w2 (.cells #[.slice A xs.length c] 40)
  have zb : (w2.alloc (.cells #[.slice A xs.length c] 40)).cell? ⟨w2.heap.size, 0, none⟩ = some (.slice A xs.length c) := by rw [Lib.cell_of_heap hb0]; rfl
  replace hRX := hid (hRX.ext hxb)
  have hx := hid (hx2.trans hxb)
  clear hxb hb0 hx2
  go_upto_region 2 with fail
  generalize hb : w2.heap.size = b at *
  generalize w2.alloc (.cells #[.slice A xs.length c] 40) = w3 at *
  replace hb := hid hb
  have lb := World.block_lt_of_cell? _ _ zb
  dsimp only at lb
  go_wp2_with fail
  refine (hck.out _ _ _ _ hRX.out).mono ?_
  rintro e w4 ⟨rfl, hx4⟩
  replace hRX := hid (hRX.out.ext hx4)
  replace hx := hid (hx.out.trans hx4)
  replace zb := hx4.cell zb
  replace lb := Nat.lt_of_lt_of_le lb hx4.size
  clear hx4 hck
  go_wp2_with fail
  refine (hL.out _ hx.out).mono ?_
  rintro e w5 ⟨rfl, hx5⟩
  replace hRX := hid (hRX.out.ext hx5)
  replace hx := hid (hx.out.trans hx5)
  replace zb := hx5.cell zb
  replace lb := Nat.lt_of_lt_of_le lb hx5.size
  clear hx5 hL
  go_wp2_with fail
  refine (hrl.out _ hx.out).mono ?_
  rintro e w5' ⟨rfl, rfl⟩
  clear hrl
  go_wp2_with fail
  refine (hen.out _ _ _ _ hRX.out).mono ?_
  rintro e w6 ⟨K1, k1, K2, k2, rfl, hk1, hk2, hx6, -, -⟩
  replace hx := hid (hx.out.trans hx6)
  obtain ⟨A1, c1, A2, c2, e1, e2, e3⟩ := hRw.out.ext hx.out
  have z0 : w6.cell? ⟨r, 0, none⟩ = some (.slice A1 L.length c1) := by rw [Lib.cell_of_heap e1]; rfl
  have z1 : w6.cell? ⟨r, 1, none⟩ = some (.slice A2 L.length c2) := by rw [Lib.cell_of_heap e1]; rfl
  have lr := (Array.getElem?_eq_some_iff.1 e1).1
  have hT1 := hid (fun w' (hx : Ext w6 w') => sTexts_any K1 L.length k1 A1 c1 _ w' (hk1.ext hx) (e2.ext hx))
  have hT2 := hid (fun w' (hx : Ext w6 w') => sInts_any K2 L.length k2 A2 c2 _ w' (hk2.ext hx) (e3.ext hx))
  clear hx6 hk1 hk2 e1 e2 e3 hen zb lb
  go_wp2_with fail
  refine (hT1.out _ (Ext.refl _)).mono ?_
  rintro e w7 ⟨rfl, hx7⟩
  replace z1 := hx7.cell z1
  replace lr := Nat.lt_of_lt_of_le lr hx7.size
  go_wp2_with fail
  refine (hT2.out _ hx7).mono ?_
  rintro e w8 ⟨rfl, hx8⟩
  go_wp2
  go_ret
  exact ⟨rfl, hx.out.trans (hx7.trans hx8)⟩
end Go.Proofs.YtpijfiaecicpfaaGreat

namespace Go.Proofs.YtpijfiaecicpfaaGreat
open Go.RowKit Go.Shelf
set_option linter.unusedVariables false
set_option linter.unusedSimpArgs false
set_option maxRecDepth 100000 in
set_option maxHeartbeats 4000000 in
theorem told_no (A : Option Addr) (n c : Nat) (i : Int) (w : World) (h : i < 0 ∨ (n : Int) ≤ i) : Calls Tryz.prog 55 #[.slice A n c, .int .i64 i] w fun e w' => e = .returned (.tuple #[.string ⟨#[]⟩, .int .i64 0, .bool false]) ∧ w = w' := by
  by_cases h1 : i < 0
  · clear h
    go_enter Tryz.func55, Tryz.ntmps55
    go_wp2
    go_ret3
    exact ⟨rfl, rfl⟩
  · have h2 : (n : Int) ≤ i := by omega
    clear h
    go_enter Tryz.func55, Tryz.ntmps55
    go_wp2
    go_ret3
    exact ⟨rfl, rfl⟩
set_option maxRecDepth 100000 in
set_option maxHeartbeats 4000000 in
theorem len_toListB (s : ByteArray) : s.toList.length = s.size := by
  rw [ByteArray.toList_eq]; rfl
theorem empty_is {s : ByteArray} (h : s.toList.isEmpty = true) : s = ⟨#[]⟩ := by
  obtain ⟨⟨l⟩⟩ := s
  have : (⟨⟨l⟩⟩ : ByteArray).toList.length = 0 := by rw [List.isEmpty_iff.1 h]; rfl
  rw [len_toListB] at this
  have h2 : l.length = 0 := this
  rw [List.length_eq_zero_iff.1 h2]
end Go.Proofs.YtpijfiaecicpfaaGreat

namespace Go.Proofs.YtpijfiaecicpfaaGreat
set_option linter.unusedVariables false
set_option linter.unusedSimpArgs false
def kth (ks : List BT) (i : Nat) : BT := ks.getD i (.nd [] [])
theorem kth_get {ks : List BT} {i : Nat} (h : i < ks.length) : kth ks i = ks[i] := by simp [kth, List.getD, h]
def joinT (l : List Te) (ks : List BT) (i : Nat) : BT :=
  .nd (l.take i ++ l.drop (i + 1)) (ks.take i ++ .nd ((kth ks i).l ++ tth l i :: (kth ks (i + 1)).l) ((kth ks i).ks ++ (kth ks (i + 1)).ks) :: ks.drop (i + 2))
def leftT (l : List Te) (ks : List BT) (i : Nat) : BT :=
  .nd (l.take i ++ tth (kth ks i).l ((kth ks i).l.length - 1) :: l.drop (i + 1))
    (ks.take i ++ .nd ((kth ks i).l.take ((kth ks i).l.length - 1)) ((kth ks i).ks.take ((kth ks i).ks.length - 1)) :: .nd (tth l i :: (kth ks (i + 1)).l) ((kth ks i).ks.drop ((kth ks i).ks.length - 1) ++ (kth ks (i + 1)).ks) :: ks.drop (i + 2))
def rightT (l : List Te) (ks : List BT) (i : Nat) : BT :=
  .nd (l.take i ++ tth (kth ks (i + 1)).l 0 :: l.drop (i + 1))
    (ks.take i ++ .nd ((kth ks i).l ++ [tth l i]) ((kth ks i).ks ++ (kth ks (i + 1)).ks.take 1) :: .nd ((kth ks (i + 1)).l.drop 1) ((kth ks (i + 1)).ks.drop 1) :: ks.drop (i + 2))
def fillT (l : List Te) (ks : List BT) (i : Nat) : BT :=
  if 2 ≤ (kth ks i).l.length then .nd l ks else if 0 < i ∧ 2 < (kth ks (i - 1)).l.length then leftT l ks (i - 1)
  else if i < l.length ∧ 2 < (kth ks (i + 1)).l.length then rightT l ks i else if 0 < i then joinT l ks (i - 1) else joinT l ks i
theorem tlW_join {x : Te} {rl : List Te} {r : List Te} {rs : List (List Te)} : ∀ {ll : List Te} {ms : List (List Te)}, ms.length = ll.length → tlW (ll ++ x :: rl) (ms ++ r :: rs) = tlW ll ms ++ x :: wv rl (r :: rs)
  | [], [], _ => rfl
  | y :: ll, m :: ms, h => by
    have ih := tlW_join (x := x) (rl := rl) (r := r) (rs := rs) (ll := ll) (ms := ms) (by simpa using h)
    show y :: (m ++ tlW (ll ++ x :: rl) (ms ++ r :: rs)) = (y :: (m ++ tlW ll ms)) ++ x :: wv rl (r :: rs)
    rw [ih]
    simp
theorem wv_join {x : Te} {ll rl : List Te} {lm rm : List (List Te)} (h : lm.length = ll.length + 1) (hr : rm.length = rl.length + 1) : wv (ll ++ x :: rl) (lm ++ rm) = wv ll lm ++ x :: wv rl rm := by
  match lm, rm, h, hr with
  | m :: ms, r :: rs, h, hr =>
    show m ++ tlW (ll ++ x :: rl) (ms ++ r :: rs) = (m ++ tlW ll ms) ++ x :: wv rl (r :: rs)
    rw [tlW_join (by simpa using h)]
    simp
/-- Two nodes and the entry between them, as one. -/
theorem joinK {x : Te} : ∀ {h : Nat} {ll rl : List Te} {lk rk : List BT}, Shp h (.nd ll lk) → Shp h (.nd rl rk) → Shp h (.nd (ll ++ x :: rl) (lk ++ rk)) ∧ flat h (.nd (ll ++ x :: rl) (lk ++ rk)) = flat h (.nd ll lk) ++ x :: flat h (.nd rl rk)
  | 0, ll, rl, lk, rk, h1, h2 => by
    obtain rfl : lk = [] := h1
    obtain rfl : rk = [] := h2
    exact ⟨rfl, rfl⟩
  | h + 1, ll, rl, lk, rk, h1, h2 => by
    refine ⟨⟨?_, fun k hk => ?_⟩, ?_⟩
    · have a := h1.1
      have b := h2.1
      simp only [List.length_append, List.length_cons]
      omega
    · rcases List.mem_append.1 hk with hk | hk
      · exact h1.2 k hk
      · exact h2.2 k hk
    · show wv (ll ++ x :: rl) ((lk ++ rk).map (flat h)) = wv ll (lk.map (flat h)) ++ x :: wv rl (rk.map (flat h))
      rw [List.map_append]
      exact wv_join (by rw [List.length_map]; exact h1.1) (by rw [List.length_map]; exact h2.1)
/-- The last entry with the last kid stands apart. -/
theorem cutLast : ∀ {h : Nat} {ll : List Te} {lk : List BT}, Shp h (.nd ll lk) → 1 ≤ ll.length → Shp h (.nd (ll.take (ll.length - 1)) (lk.take (lk.length - 1))) ∧ Shp h (.nd [] (lk.drop (lk.length - 1))) ∧ ll = ll.take (ll.length - 1) ++ tth ll (ll.length - 1) :: [] ∧ lk = lk.take (lk.length - 1) ++ lk.drop (lk.length - 1)
  | h, ll, lk, hs, h1 => by
    have e1 : ll = ll.take (ll.length - 1) ++ tth ll (ll.length - 1) :: [] := by
      have e := list_cut (l := ll) (i := ll.length - 1) (by omega)
      rw [show ll.length - 1 + 1 = ll.length by omega, List.drop_length] at e
      rw [tth_get (by omega)]
      exact e
    refine ⟨?_, ?_, e1, (List.take_append_drop _ _).symm⟩
    · cases h with
      | zero => obtain rfl : lk = [] := hs; rfl
      | succ h =>
        have a := hs.1
        exact ⟨by rw [List.length_take, List.length_take]; omega, fun k hk => hs.2 k (List.mem_of_mem_take hk)⟩
    · cases h with
      | zero => obtain rfl : lk = [] := hs; rfl
      | succ h =>
        have a := hs.1
        exact ⟨by rw [List.length_drop, List.length_nil]; omega, fun k hk => hs.2 k (List.mem_of_mem_drop hk)⟩
theorem cutFirst : ∀ {h : Nat} {ll : List Te} {lk : List BT}, Shp h (.nd ll lk) → 1 ≤ ll.length → Shp h (.nd (ll.drop 1) (lk.drop 1)) ∧ Shp h (.nd [] (lk.take 1)) ∧ ll = [] ++ tth ll 0 :: ll.drop 1 ∧ lk = lk.take 1 ++ lk.drop 1
  | h, ll, lk, hs, h1 => by
    have e1 : ll = [] ++ tth ll 0 :: ll.drop 1 := by
      have e := list_cut (l := ll) (i := 0) (by omega)
      rw [tth_get (by omega)]
      exact e
    refine ⟨?_, ?_, e1, (List.take_append_drop _ _).symm⟩
    · cases h with
      | zero => obtain rfl : lk = [] := hs; rfl
      | succ h =>
        have a := hs.1
        exact ⟨by rw [List.length_drop, List.length_drop]; omega, fun k hk => hs.2 k (List.mem_of_mem_drop hk)⟩
    · cases h with
      | zero => obtain rfl : lk = [] := hs; rfl
      | succ h =>
        have a := hs.1
        exact ⟨by rw [List.length_take, List.length_nil]; omega, fun k hk => hs.2 k (List.mem_of_mem_take hk)⟩
theorem leftK {x : Te} {h : Nat} {ll kl : List Te} {lk kk : List BT} (h1 : Shp h (.nd ll lk)) (h2 : Shp h (.nd kl kk)) (hn : 1 ≤ ll.length) :
    Shp h (.nd (ll.take (ll.length - 1)) (lk.take (lk.length - 1))) ∧ Shp h (.nd (x :: kl) (lk.drop (lk.length - 1) ++ kk)) ∧
    flat h (.nd (ll.take (ll.length - 1)) (lk.take (lk.length - 1))) ++ tth ll (ll.length - 1) :: flat h (.nd (x :: kl) (lk.drop (lk.length - 1) ++ kk)) = flat h (.nd ll lk) ++ x :: flat h (.nd kl kk) := by
  obtain ⟨a, b, e1, e2⟩ := cutLast h1 hn
  have j1 := joinK (x := tth ll (ll.length - 1)) a b
  have j2 := joinK (x := x) b h2
  rw [← e1, ← e2] at j1
  refine ⟨a, j2.1, ?_⟩
  rw [j1.2, show (x :: kl) = [] ++ x :: kl from rfl, j2.2]
  simp
theorem rightK {x : Te} {h : Nat} {ll rl : List Te} {lk rk : List BT} (h1 : Shp h (.nd ll lk)) (h2 : Shp h (.nd rl rk)) (hn : 1 ≤ rl.length) :
    Shp h (.nd (ll ++ [x]) (lk ++ rk.take 1)) ∧ Shp h (.nd (rl.drop 1) (rk.drop 1)) ∧
    flat h (.nd (ll ++ [x]) (lk ++ rk.take 1)) ++ tth rl 0 :: flat h (.nd (rl.drop 1) (rk.drop 1)) = flat h (.nd ll lk) ++ x :: flat h (.nd rl rk) := by
  obtain ⟨a, b, e1, e2⟩ := cutFirst h2 hn
  have j1 := joinK (x := tth rl 0) b a
  have j2 := joinK (x := x) h1 b
  rw [← e1, ← e2] at j1
  refine ⟨j2.1, a, ?_⟩
  rw [j1.2, j2.2]
  simp
theorem one_flat {h : Nat} {a b : List Te} {p q : List BT} {J : BT} (hl : a.length = p.length) : flat (h + 1) (.nd (a ++ b) (p ++ J :: q)) = wvp a (p.map (flat h)) ++ (flat h J ++ tlW b (q.map (flat h))) := by
  show wv (a ++ b) ((p ++ J :: q).map (flat h)) = _
  rw [List.map_append, List.map_cons]
  exact wv_app (by rw [List.length_map]; exact hl)
theorem pair_flat {h : Nat} {a b : List Te} {p q : List BT} {x : Te} {L K : BT} (hl : a.length = p.length) : flat (h + 1) (.nd (a ++ x :: b) (p ++ L :: K :: q)) = wvp a (p.map (flat h)) ++ ((flat h L ++ x :: flat h K) ++ tlW b (q.map (flat h))) := by
  rw [one_flat hl]
  show wvp a (p.map (flat h)) ++ (flat h L ++ (x :: (flat h K ++ tlW b (q.map (flat h))))) = _
  simp
theorem nd_eta (K : BT) : BT.nd K.l K.ks = K := by cases K; rfl
/-- A node whose kids are right but for one, which may have an entry too few. -/
structure Near (h : Nat) (l : List Te) (ks : List BT) (i : Nat) : Prop where
  len : ks.length = l.length + 1
  le : i ≤ l.length
  n1 : 1 ≤ l.length
  rest : ∀ j, j < ks.length → j ≠ i → 2 ≤ (kth ks j).l.length ∧ (kth ks j).l.length ≤ 4 ∧ Shp h (kth ks j)
  it : 1 ≤ (kth ks i).l.length ∧ (kth ks i).l.length ≤ 4 ∧ Shp h (kth ks i)
theorem pair_cut {l : List Te} {ks : List BT} {i : Nat} (hlen : ks.length = l.length + 1) (hi : i < l.length) : l = l.take i ++ tth l i :: l.drop (i + 1) ∧ ks = ks.take i ++ kth ks i :: kth ks (i + 1) :: ks.drop (i + 2) ∧ (l.take i).length = (ks.take i).length := by
  refine ⟨?_, ?_, by rw [List.length_take, List.length_take]; omega⟩
  · rw [tth_get hi]
    exact list_cut hi
  · have e1 := list_cut (l := ks) (i := i) (by omega)
    have e2 : ks.drop (i + 1) = ks[i + 1]'(by omega) :: ks.drop (i + 2) := List.drop_eq_getElem_cons (by omega)
    rw [e2] at e1
    rw [kth_get (by omega), kth_get (by omega)]
    exact e1
theorem Near.out {h : Nat} {l : List Te} {ks : List BT} {i j : Nat} (H : Near h l ks i) (hj : i = j ∨ i = j + 1) : ∀ K, (K ∈ ks.take j ∨ K ∈ ks.drop (j + 2)) → 2 ≤ K.l.length ∧ K.l.length ≤ 4 ∧ Shp h K := by
  intro K hK
  rcases hK with hK | hK
  · obtain ⟨q, hq, rfl⟩ := List.getElem_of_mem hK
    rw [List.length_take] at hq
    rw [List.getElem_take]
    have := H.rest q (by omega) (by omega)
    rwa [kth_get (by omega)] at this
  · obtain ⟨q, hq, rfl⟩ := List.getElem_of_mem hK
    rw [List.length_drop] at hq
    rw [List.getElem_drop]
    have := H.rest (j + 2 + q) (by omega) (by omega)
    rwa [kth_get (by omega)] at this
/-- What is asked of a node that has been filled. -/
def Filled (h : Nat) (l : List Te) (ks : List BT) (T : BT) : Prop := Shp (h + 1) T ∧ flat (h + 1) T = flat (h + 1) (.nd l ks) ∧ l.length ≤ T.l.length + 1 ∧ T.l.length ≤ l.length
section
variable {h : Nat} {l : List Te} {ks : List BT} {i j : Nat}
theorem two_ok {L' K' : BT} {x' : Te} (H : Near h l ks i) (hj : j < l.length) (hij : i = j ∨ i = j + 1) (hL : 2 ≤ L'.l.length ∧ L'.l.length ≤ 4 ∧ Shp h L') (hK : 2 ≤ K'.l.length ∧ K'.l.length ≤ 4 ∧ Shp h K')
    (hf : flat h L' ++ x' :: flat h K' = flat h (kth ks j) ++ tth l j :: flat h (kth ks (j + 1))) : Filled h l ks (.nd (l.take j ++ x' :: l.drop (j + 1)) (ks.take j ++ L' :: K' :: ks.drop (j + 2))) := by
  obtain ⟨e1, e2, e3⟩ := pair_cut H.len hj
  have hlen := H.len
  have ho := H.out hij
  refine ⟨⟨?_, fun k hk => ?_⟩, ?_, ?_, ?_⟩
  · simp only [List.length_append, List.length_cons, List.length_take, List.length_drop]
    omega
  · rcases List.mem_append.1 hk with hk | hk
    · exact ho k (.inl hk)
    · rcases List.mem_cons.1 hk with rfl | hk
      · exact hL
      · rcases List.mem_cons.1 hk with rfl | hk
        · exact hK
        · exact ho k (.inr hk)
  · rw [pair_flat e3, hf, ← pair_flat e3, ← e1, ← e2]
  · show l.length ≤ (l.take j ++ x' :: l.drop (j + 1)).length + 1
    simp only [List.length_append, List.length_cons, List.length_take, List.length_drop]
    omega
  · show (l.take j ++ x' :: l.drop (j + 1)).length ≤ l.length
    simp only [List.length_append, List.length_cons, List.length_take, List.length_drop]
    omega
theorem one_ok {J : BT} (H : Near h l ks i) (hj : j < l.length) (hij : i = j ∨ i = j + 1) (hJ : 2 ≤ J.l.length ∧ J.l.length ≤ 4 ∧ Shp h J) (hf : flat h J = flat h (kth ks j) ++ tth l j :: flat h (kth ks (j + 1))) :
    Filled h l ks (.nd (l.take j ++ l.drop (j + 1)) (ks.take j ++ J :: ks.drop (j + 2))) := by
  obtain ⟨e1, e2, e3⟩ := pair_cut H.len hj
  have hlen := H.len
  have ho := H.out hij
  refine ⟨⟨?_, fun k hk => ?_⟩, ?_, ?_, ?_⟩
  · simp only [List.length_append, List.length_cons, List.length_take, List.length_drop]
    omega
  · rcases List.mem_append.1 hk with hk | hk
    · exact ho k (.inl hk)
    · rcases List.mem_cons.1 hk with rfl | hk
      · exact hJ
      · exact ho k (.inr hk)
  · rw [one_flat e3, hf, ← pair_flat e3, ← e1, ← e2]
  · show l.length ≤ (l.take j ++ l.drop (j + 1)).length + 1
    simp only [List.length_append, List.length_take, List.length_drop]
    omega
  · show (l.take j ++ l.drop (j + 1)).length ≤ l.length
    simp only [List.length_append, List.length_take, List.length_drop]
    omega
theorem fill_ok (H : Near h l ks i) : Filled h l ks (fillT l ks i) := by
  have hlen := H.len
  have hle := H.le
  have hn := H.n1
  unfold fillT
  split
  · rename_i h2
    refine ⟨⟨H.len, fun k hk => ?_⟩, rfl, Nat.le_succ _, Nat.le_refl _⟩
    obtain ⟨q, hq, rfl⟩ := List.getElem_of_mem hk
    rw [← kth_get hq]
    by_cases hqi : q = i
    · subst hqi
      exact ⟨h2, H.it.2⟩
    · exact H.rest q hq hqi
  · rename_i h2
    have hKi := H.it
    split
    · rename_i h3
      obtain ⟨j, rfl⟩ : ∃ j, i = j + 1 := ⟨i - 1, by omega⟩
      rw [Nat.add_sub_cancel] at h3 ⊢
      have hL := H.rest j (by omega) (by omega)
      have k := leftK (x := tth l j) (h := h) (ll := (kth ks j).l) (kl := (kth ks (j + 1)).l) (lk := (kth ks j).ks) (kk := (kth ks (j + 1)).ks) (by rw [nd_eta]; exact hL.2.2) (by rw [nd_eta]; exact hKi.2.2) (by omega)
      rw [nd_eta, nd_eta] at k
      refine two_ok H (by omega) (.inr rfl) ⟨?_, ?_, k.1⟩ ⟨?_, ?_, k.2.1⟩ k.2.2
      · show 2 ≤ ((kth ks j).l.take _).length
        rw [List.length_take]; omega
      · show ((kth ks j).l.take _).length ≤ 4
        rw [List.length_take]; omega
      · show 2 ≤ ((kth ks (j + 1)).l.length + 1)
        omega
      · show (kth ks (j + 1)).l.length + 1 ≤ 4
        omega
    · rename_i h3
      split
      · rename_i h4
        have hR := H.rest (i + 1) (by omega) (by omega)
        have k := rightK (x := tth l i) (h := h) (ll := (kth ks i).l) (rl := (kth ks (i + 1)).l) (lk := (kth ks i).ks) (rk := (kth ks (i + 1)).ks) (by rw [nd_eta]; exact hKi.2.2) (by rw [nd_eta]; exact hR.2.2) (by omega)
        rw [nd_eta, nd_eta] at k
        refine two_ok H h4.1 (.inl rfl) ⟨?_, ?_, k.1⟩ ⟨?_, ?_, k.2.1⟩ k.2.2
        · show 2 ≤ ((kth ks i).l ++ [tth l i]).length
          rw [List.length_append, List.length_singleton]; omega
        · show ((kth ks i).l ++ [tth l i]).length ≤ 4
          rw [List.length_append, List.length_singleton]; omega
        · show 2 ≤ ((kth ks (i + 1)).l.drop 1).length
          rw [List.length_drop]; omega
        · show ((kth ks (i + 1)).l.drop 1).length ≤ 4
          rw [List.length_drop]; omega
      · rename_i h4
        split
        · rename_i h5
          obtain ⟨j, rfl⟩ : ∃ j, i = j + 1 := ⟨i - 1, by omega⟩
          rw [Nat.add_sub_cancel] at h3 ⊢
          have hL := H.rest j (by omega) (by omega)
          have k := joinK (x := tth l j) (h := h) (ll := (kth ks j).l) (rl := (kth ks (j + 1)).l) (lk := (kth ks j).ks) (rk := (kth ks (j + 1)).ks) (by rw [nd_eta]; exact hL.2.2) (by rw [nd_eta]; exact hKi.2.2)
          rw [nd_eta, nd_eta] at k
          refine one_ok H (by omega) (.inr rfl) ⟨?_, ?_, k.1⟩ k.2
          · show 2 ≤ ((kth ks j).l ++ tth l j :: (kth ks (j + 1)).l).length
            rw [List.length_append, List.length_cons]; omega
          · show ((kth ks j).l ++ tth l j :: (kth ks (j + 1)).l).length ≤ 4
            rw [List.length_append, List.length_cons]; omega
        · rename_i h5
          obtain rfl : i = 0 := by omega
          rw [Nat.zero_add] at h4
          have hR := H.rest 1 (by omega) (by omega)
          have k := joinK (x := tth l 0) (h := h) (ll := (kth ks 0).l) (rl := (kth ks 1).l) (lk := (kth ks 0).ks) (rk := (kth ks 1).ks) (by rw [nd_eta]; exact hKi.2.2) (by rw [nd_eta]; exact hR.2.2)
          rw [nd_eta, nd_eta] at k
          refine one_ok H (by omega) (.inl rfl) ⟨?_, ?_, k.1⟩ k.2
          · show 2 ≤ ((kth ks 0).l ++ tth l 0 :: (kth ks 1).l).length
            rw [List.length_append, List.length_cons]; omega
          · show ((kth ks 0).l ++ tth l 0 :: (kth ks 1).l).length ≤ 4
            rw [List.length_append, List.length_cons]; omega
end
end Go.Proofs.YtpijfiaecicpfaaGreat

namespace Go.Proofs.YtpijfiaecicpfaaGreat
set_option linter.unusedVariables false
set_option linter.unusedSimpArgs false
def lastT : Nat → BT → BT × Te
  | 0, .nd l ks => (.nd (l.take (l.length - 1)) ks, tth l (l.length - 1))
  | h + 1, .nd l ks => (fillT l (ks.set l.length (lastT h (kth ks l.length)).1) l.length, (lastT h (kth ks l.length)).2)
def takeT : Nat → BT → Te → BT
  | 0, .nd l ks, e => .nd (l.take (rankT l e) ++ l.drop (rankT l e + 1)) ks
  | h + 1, .nd l ks, e => if memT l e = true then fillT (l.set (rankT l e) (lastT h (kth ks (rankT l e))).2) (ks.set (rankT l e) (lastT h (kth ks (rankT l e))).1) (rankT l e)
    else fillT l (ks.set (rankT l e) (takeT h (kth ks (rankT l e)) e)) (rankT l e)
theorem setC_cut {α : Type} {l : List α} {i : Nat} {x : α} (h : i < l.length) : l.set i x = l.take i ++ x :: l.drop (i + 1) := by
  rw [List.set_eq_take_append_cons_drop, if_pos h]
theorem flat_set {h : Nat} {l : List Te} {ks : List BT} {i : Nat} {J : BT} (hlen : ks.length = l.length + 1) (hi : i ≤ l.length) :
    flat (h + 1) (.nd l (ks.set i J)) = wvp (l.take i) ((ks.take i).map (flat h)) ++ (flat h J ++ tlW (l.drop i) ((ks.drop (i + 1)).map (flat h))) := by
  rw [setC_cut (by omega)]
  have := one_flat (h := h) (a := l.take i) (b := l.drop i) (p := ks.take i) (q := ks.drop (i + 1)) (J := J) (by rw [List.length_take, List.length_take]; omega)
  rwa [List.take_append_drop] at this
theorem flat_at {h : Nat} {l : List Te} {ks : List BT} {i : Nat} (hlen : ks.length = l.length + 1) (hi : i ≤ l.length) :
    flat (h + 1) (.nd l ks) = wvp (l.take i) ((ks.take i).map (flat h)) ++ (flat h (kth ks i) ++ tlW (l.drop i) ((ks.drop (i + 1)).map (flat h))) := by
  have h1 := flat_set (h := h) (J := kth ks i) hlen hi
  rw [kth_get (by omega), List.set_getElem_self] at h1
  rw [kth_get (by omega)]
  exact h1
theorem kth_set {ks : List BT} {i : Nat} {J : BT} (hi : i < ks.length) : kth (ks.set i J) i = J := by
  rw [kth_get (by rw [List.length_set]; exact hi), List.getElem_set_self]
theorem kth_set_ne {ks : List BT} {i j : Nat} {J : BT} (hj : j < ks.length) (hne : j ≠ i) : kth (ks.set i J) j = kth ks j := by
  rw [kth_get (by rw [List.length_set]; exact hj), kth_get hj, List.getElem_set_ne (fun e => hne e.symm)]
theorem kid_ok {h : Nat} {l : List Te} {ks : List BT} (hs : Shp (h + 1) (.nd l ks)) {i : Nat} (hi : i ≤ l.length) : 2 ≤ (kth ks i).l.length ∧ (kth ks i).l.length ≤ 4 ∧ Shp h (kth ks i) := by
  have hl : ks.length = l.length + 1 := hs.1
  rw [kth_get (by omega)]
  exact hs.2 _ (List.getElem_mem _)
theorem near_set {h : Nat} {l l' : List Te} {ks : List BT} (hs : Shp (h + 1) (.nd l ks)) (hl : l'.length = l.length) (hn : 1 ≤ l.length) {i : Nat} (hi : i ≤ l.length) {J : BT} (hJ : 1 ≤ J.l.length ∧ J.l.length ≤ 4 ∧ Shp h J) : Near h l' (ks.set i J) i := by
  have hk : ks.length = l.length + 1 := hs.1
  refine ⟨by rw [List.length_set, hl]; exact hk, by omega, by omega, fun j hj hne => ?_, ?_⟩
  · rw [List.length_set] at hj
    rw [kth_set_ne hj hne]
    exact kid_ok hs (by omega)
  · rw [kth_set (by omega)]
    exact hJ
theorem last_ok : ∀ (h : Nat) (T : BT), Shp h T → 1 ≤ T.l.length → Shp h (lastT h T).1 ∧ flat h T = flat h (lastT h T).1 ++ [(lastT h T).2] ∧ T.l.length ≤ (lastT h T).1.l.length + 1 ∧ (lastT h T).1.l.length ≤ T.l.length
  | 0, .nd l ks, hs, h1 => by
    have h1' : 1 ≤ l.length := h1
    obtain ⟨-, -, e1, -⟩ := cutLast hs h1'
    refine ⟨hs, e1, ?_, ?_⟩
    · show l.length ≤ (l.take (l.length - 1)).length + 1
      rw [List.length_take]; omega
    · show (l.take (l.length - 1)).length ≤ l.length
      rw [List.length_take]; omega
  | h + 1, .nd l ks, hs, h1 => by
    have h1' : 1 ≤ l.length := h1
    have hk := kid_ok hs (Nat.le_refl l.length)
    obtain ⟨a, b, c, d⟩ := last_ok h (kth ks l.length) hk.2.2 (by omega)
    have hN := near_set (l' := l) (J := (lastT h (kth ks l.length)).1) hs rfl h1' (Nat.le_refl _) ⟨by omega, by omega, a⟩
    obtain ⟨f1, f2, f3, f4⟩ := fill_ok hN
    refine ⟨f1, ?_, f3, f4⟩
    show flat (h + 1) (.nd l ks) = flat (h + 1) (fillT l (ks.set l.length (lastT h (kth ks l.length)).1) l.length) ++ [(lastT h (kth ks l.length)).2]
    rw [f2, flat_at hs.1 (Nat.le_refl _), flat_set hs.1 (Nat.le_refl _), b, List.drop_length]
    simp [tlW]
theorem at_rank {l : List Te} (hS : Srt l) {e : Te} (he : e ∈ l) : rankT l e < l.length ∧ l.drop (rankT l e) = e :: l.drop (rankT l e + 1) := by
  obtain ⟨h1, h2, h3⟩ := rank_cut hS e
  have hd : e ∈ l.drop (rankT l e) := by
    rw [← List.take_append_drop (rankT l e) l] at he
    rcases List.mem_append.1 he with h | h
    · have := h2 e h
      rw [cmpT_refl] at this
      exact absurd this (by decide)
    · exact h
  have hlt : rankT l e < l.length := by
    rcases Nat.lt_or_ge (rankT l e) l.length with h | h
    · exact h
    · rw [List.drop_of_length_le h] at hd; cases hd
  refine ⟨hlt, ?_⟩
  have hc : l.drop (rankT l e) = l[rankT l e] :: l.drop (rankT l e + 1) := List.drop_eq_getElem_cons hlt
  have hSd : Srt (l.drop (rankT l e)) := hS.sublist (List.drop_sublist _ _)
  rw [hc] at hd hSd h3 ⊢
  rcases List.mem_cons.1 hd with h | h
  · rw [← h]
  · exact absurd ((srt_cons.1 hSd).1 e h) (h3 _ List.mem_cons_self)
theorem del_head (e : Te) (R : List Te) : delT (e :: R) e = R := by
  unfold delT
  rw [cmpT_refl]
  simp
theorem del_cut {l : List Te} (hS : Srt l) {e : Te} (he : e ∈ l) : delT l e = l.take (rankT l e) ++ l.drop (rankT l e + 1) := by
  obtain ⟨h1, h2, h3⟩ := rank_cut hS e
  obtain ⟨g1, g2⟩ := at_rank hS he
  have e1 : l = l.take (rankT l e) ++ e :: l.drop (rankT l e + 1) := by
    conv => lhs; rw [← List.take_append_drop (rankT l e) l, g2]
  conv => lhs; rw [e1]
  rw [delT_app (fun x hx => by have := h2 x hx; omega), del_head]
theorem tlW_head (l2 : List Te) (ms : List (List Te)) : ∃ R, ∀ x, tlW (x :: l2) ms = x :: R := by
  cases ms with
  | nil => exact ⟨l2, fun _ => rfl⟩
  | cons m ms => exact ⟨m ++ tlW l2 ms, fun _ => rfl⟩
theorem take_ok : ∀ (h : Nat) (T : BT) (e : Te), Shp h T → (h ≠ 0 → 1 ≤ T.l.length) → Srt (flat h T) → e ∈ flat h T →
    Shp h (takeT h T e) ∧ flat h (takeT h T e) = delT (flat h T) e ∧ T.l.length ≤ (takeT h T e).l.length + 1 ∧ (takeT h T e).l.length ≤ T.l.length
  | 0, .nd l ks, e, hs, h1, hS, he => by
    obtain ⟨g1, -⟩ := at_rank (l := l) hS he
    refine ⟨hs, (del_cut (l := l) hS he).symm, ?_, ?_⟩
    · show l.length ≤ (l.take (rankT l e) ++ l.drop (rankT l e + 1)).length + 1
      rw [List.length_append, List.length_take, List.length_drop]; omega
    · show (l.take (rankT l e) ++ l.drop (rankT l e + 1)).length ≤ l.length
      rw [List.length_append, List.length_take, List.length_drop]; omega
  | h + 1, .nd l ks, e, hs, h1, hS, he => by
    have h1' : 1 ≤ l.length := h1 (Nat.succ_ne_zero _)
    obtain ⟨hl, K, hK, hf, hA, hB, hSK⟩ := node_lt hs hS e
    obtain ⟨r1, r2, r3⟩ := rank_cut hl e
    have hlen : ks.length = l.length + 1 := hs.1
    have hKe : kth ks (rankT l e) = K := by rw [kth_get (by omega)]; exact (List.getElem?_eq_some_iff.1 hK).2
    have hk := kid_ok hs r1
    have hfl := flat_at (h := h) hlen r1
    rw [hKe] at hk hfl
    by_cases hm : memT l e = true
    · obtain ⟨g1, g2⟩ := at_rank hl (memT_iff.1 hm)
      obtain ⟨a, b, c, d⟩ := last_ok h K hk.2.2 (by omega)
      have hN := near_set (l' := l.set (rankT l e) (lastT h K).2) (J := (lastT h K).1) hs (List.length_set ..) h1' r1 ⟨by omega, by omega, a⟩
      obtain ⟨f1, f2, f3, f4⟩ := fill_ok hN
      have et : takeT (h + 1) (.nd l ks) e = fillT (l.set (rankT l e) (lastT h K).2) (ks.set (rankT l e) (lastT h K).1) (rankT l e) := by
        show (if memT l e = true then _ else _) = _
        rw [if_pos hm, hKe]
      rw [List.length_set] at f3 f4
      rw [et]
      refine ⟨f1, ?_, f3, f4⟩
      obtain ⟨R, hR⟩ := tlW_head (l.drop (rankT l e + 1)) ((ks.drop (rankT l e + 1)).map (flat h))
      have hcut : l.set (rankT l e) (lastT h K).2 = l.take (rankT l e) ++ (lastT h K).2 :: l.drop (rankT l e + 1) := setC_cut g1
      have hx : (l.take (rankT l e)).length = rankT l e := by rw [List.length_take]; omega
      have e1 : (l.set (rankT l e) (lastT h K).2).take (rankT l e) = l.take (rankT l e) := by rw [hcut]; exact List.take_left' hx
      have e2 : (l.set (rankT l e) (lastT h K).2).drop (rankT l e) = (lastT h K).2 :: l.drop (rankT l e + 1) := by rw [hcut]; exact List.drop_left' hx
      rw [f2, flat_set (by rw [List.length_set]; exact hlen) (by rw [List.length_set]; exact r1), e1, e2, hR]
      rw [g2, hR] at hfl
      rw [hfl] at hS ⊢
      have hS2 := srt_app.1 hS
      have hS3 := srt_app.1 hS2.2.1
      rw [delT_app (fun x hx => by have := hA x hx; omega), delT_app (fun x hx => by have := hS3.2.2 x hx e List.mem_cons_self; omega), del_head, b]
      simp
    · have hel : e ∉ l := fun h => hm (memT_iff.2 h)
      have heK : e ∈ flat h K := by
        obtain ⟨K', hK', hmm⟩ := mem_node hs hS e
        rw [hK] at hK'
        obtain rfl := Option.some.inj hK'
        have hmm2 : memT (flat (h + 1) (.nd l ks)) e = true := memT_iff.2 he
        rw [hmm] at hmm2
        rcases Bool.or_eq_true_iff.1 hmm2 with h | h
        · exact absurd h hm
        · exact memT_iff.1 h
      obtain ⟨a, b, c, d⟩ := take_ok h K e hk.2.2 (fun _ => by omega) hSK heK
      have hN := near_set (l' := l) (J := takeT h K e) hs rfl h1' r1 ⟨by omega, by omega, a⟩
      obtain ⟨f1, f2, f3, f4⟩ := fill_ok hN
      have et : takeT (h + 1) (.nd l ks) e = fillT l (ks.set (rankT l e) (takeT h K e)) (rankT l e) := by
        show (if memT l e = true then _ else _) = _
        rw [if_neg hm, hKe]
      rw [et]
      refine ⟨f1, ?_, f3, f4⟩
      rw [f2, flat_set hlen r1, b, hfl, delT_app (fun x hx => by have := hA x hx; omega), delT_app2 heK]
/-- The root gives way to its one kid. -/
def rootT : Nat → BT → Nat × BT
  | 0, T => (0, T)
  | h + 1, .nd l ks => if l = [] then (h, kth ks 0) else (h + 1, .nd l ks)
theorem root_ok {h : Nat} {T : BT} (hs : Shp h T) (h4 : T.l.length ≤ 4) : Shp (rootT h T).1 (rootT h T).2 ∧ flat (rootT h T).1 (rootT h T).2 = flat h T ∧ (rootT h T).2.l.length ≤ 4 ∧ ((rootT h T).1 ≠ 0 → 1 ≤ (rootT h T).2.l.length) := by
  match h, T, hs, h4 with
  | 0, T, hs, h4 => exact ⟨hs, rfl, h4, fun h => absurd rfl h⟩
  | h + 1, .nd l ks, hs, h4 =>
    by_cases hl : l = []
    · have e : rootT (h + 1) (.nd l ks) = (h, kth ks 0) := if_pos hl
      rw [e]
      subst hl
      have hk := kid_ok hs (Nat.le_refl 0)
      refine ⟨hk.2.2, ?_, hk.2.1, fun _ => by have := hk.1; show 1 ≤ (kth ks 0).l.length; omega⟩
      have hlen : ks.length = 1 := hs.1
      have hd : ks.drop (0 + 1) = [] := List.drop_eq_nil_of_le (by omega)
      rw [flat_at (h := h) hs.1 (Nat.le_refl 0), hd]
      simp [wvp, tlW]
    · have e : rootT (h + 1) (.nd l ks) = (h + 1, .nd l ks) := if_neg hl
      rw [e]
      refine ⟨hs, rfl, h4, fun _ => ?_⟩
      rcases Nat.eq_zero_or_pos l.length with h0 | h0
      · exact absurd (List.eq_nil_of_length_eq_zero h0) hl
      · exact h0
end Go.Proofs.YtpijfiaecicpfaaGreat

namespace Go.Proofs.YtpijfiaecicpfaaGreat
open Go.RowKit Go.Shelf
set_option linter.unusedVariables false
set_option linter.unusedSimpArgs false
def keyR (l : List Te) (s : ByteArray) : Nat := (l.takeWhile fun x => decide (cmpK x.key s < 0)).length
theorem takeWhile_at {α : Type} (p : α → Bool) : ∀ (l : List α), (l.takeWhile p).length ≤ l.length ∧ (∀ t (h : t < l.length), t < (l.takeWhile p).length → p l[t] = true) ∧ (∀ h : (l.takeWhile p).length < l.length, p l[(l.takeWhile p).length] = false)
  | [] => ⟨Nat.le_refl _, fun t h => absurd h (Nat.not_lt_zero _), fun h => absurd h (Nat.not_lt_zero _)⟩
  | a :: l => by
    obtain ⟨i1, i2, i3⟩ := takeWhile_at p l
    cases h : p a with
    | true =>
      rw [List.takeWhile_cons_of_pos h]
      refine ⟨by simp; omega, fun t ht hlt => ?_, fun hh => ?_⟩
      · cases t with
        | zero => exact h
        | succ t => exact i2 t (by simpa using ht) (by simpa using hlt)
      · exact i3 (by simpa using hh)
    | false =>
      rw [List.takeWhile_cons_of_neg (by rw [h]; decide)]
      exact ⟨Nat.zero_le _, fun t _ ht => absurd ht (Nat.not_lt_zero _), fun _ => h⟩
theorem cmpK_trans {a b c : ByteArray} (h : cmpK a b < 0) (h2 : cmpK b c < 0) : cmpK a c < 0 := cmp_trans h h2
theorem key_mono {x y : Te} {s : ByteArray} (h : cmpT x y < 0) (hx : ¬ cmpK x.key s < 0) : ¬ cmpK y.key s < 0 := by
  intro hy
  unfold cmpT at h
  by_cases h0 : cmpK x.key y.key = 0
  · rw [cmpK_zero.1 h0] at hx
    exact hx hy
  · rw [if_neg h0] at h
    exact hx (cmpK_trans h hy)
theorem keyR_cut {l : List Te} (h : Srt l) (s : ByteArray) : keyR l s ≤ l.length ∧ (∀ t, t < keyR l s → cmpK (tth l t).key s < 0) ∧ (∀ t, keyR l s ≤ t → t < l.length → ¬ cmpK (tth l t).key s < 0) := by
  obtain ⟨h1, h2, h3⟩ := takeWhile_at (fun x : Te => decide (cmpK x.key s < 0)) l
  refine ⟨h1, fun t ht => ?_, fun t ht hl => ?_⟩
  · rw [tth_get (Nat.lt_of_lt_of_le ht h1)]
    exact of_decide_eq_true (h2 t (Nat.lt_of_lt_of_le ht h1) ht)
  · have h0 : ¬ cmpK (tth l (keyR l s)).key s < 0 := by
      have hh : keyR l s < l.length := Nat.lt_of_le_of_lt ht hl
      rw [tth_get hh]
      exact of_decide_eq_false (h3 hh)
    rcases Nat.lt_or_eq_of_le ht with h4 | h4
    · exact key_mono (srt_nth h h4 hl) h0
    · rw [← h4]; exact h0
/-- How many entries are not greater than one. -/
def nextR (l : List Te) (e : Te) : Nat := rankT l e + (if memT l e = true then 1 else 0)
theorem nextR_cut {l : List Te} (h : Srt l) (e : Te) : nextR l e ≤ l.length ∧ (∀ t, t < nextR l e → ¬ 0 < cmpT (tth l t) e) ∧ (∀ t, nextR l e ≤ t → t < l.length → 0 < cmpT (tth l t) e) := by
  obtain ⟨r1, r2, r3⟩ := rank_cut h e
  have r2' : ∀ t, t < rankT l e → cmpT (tth l t) e < 0 := fun t ht => r2 _ (by rw [tth_get (by omega)]; exact List.mem_take_iff_getElem.2 ⟨t, by omega, rfl⟩)
  have r3' : ∀ t, rankT l e ≤ t → t < l.length → ¬ cmpT (tth l t) e < 0 := fun t ht hl => r3 _ (by rw [tth_get hl]; exact List.mem_drop_iff_getElem.2 ⟨t - rankT l e, by omega, by congr 1; omega⟩)
  unfold nextR
  by_cases hm : memT l e = true
  · obtain ⟨a1, a2⟩ := at_rank h (memT_iff.1 hm)
    have a3 : tth l (rankT l e) = e := by
      rw [tth_get a1]
      rw [List.drop_eq_getElem_cons a1] at a2
      exact (List.cons.inj a2).1
    rw [if_pos hm]
    refine ⟨a1, fun t ht => ?_, fun t ht hl => ?_⟩
    · rcases Nat.lt_or_eq_of_le (Nat.lt_succ_iff.1 ht) with h4 | h4
      · have := r2' t h4; omega
      · rw [h4, a3, cmpT_refl]; decide
    · have := srt_nth h (show rankT l e < t by omega) hl
      rw [a3] at this
      rw [cmpT_anti]
      omega
  · rw [if_neg hm, Nat.add_zero]
    refine ⟨r1, fun t ht => by have := r2' t ht; omega, fun t ht hl => ?_⟩
    have h5 := r3' t ht hl
    have h6 : cmpT (tth l t) e ≠ 0 := fun h0 => hm (memT_iff.2 (by rw [← cmpT_zero.1 h0, tth_get hl]; exact List.getElem_mem hl))
    omega
/-- An entry that is told, or none. -/
def TV : Option Te → Value
  | some x => .tuple #[.string x.key, .int .i64 x.no, .bool true]
  | none => .tuple #[.string ⟨#[]⟩, .int .i64 0, .bool false]
def atT (l : List Te) (i : Int) : Option Te := if i < 0 then none else l[i.toNat]?
theorem atT_nat (l : List Te) (k : Nat) : atT l (k : Int) = l[k]? := by unfold atT; rw [if_neg (by omega)]; rfl
/-- The entries between two keys. -/
def endR (L : List Te) (hi : ByteArray) : Nat := if hi = ⟨#[]⟩ then L.length else keyR L hi
def betwT (L : List Te) (lo hi : ByteArray) : List Te := (L.take (endR L hi)).drop (min (keyR L lo) (endR L hi))
set_option maxRecDepth 100000 in
set_option maxHeartbeats 4000000 in
theorem told_any (A : Option Addr) (n c : Nat) (l : List Te) (i : Int) (w : World) (hl : RdN w A n c l) : Calls Tryz.prog 55 #[.slice A n c, .int .i64 i] w (Give (TV (atT l i)) w) := by
  have hlen := hl.len
  by_cases h : i < 0 ∨ (n : Int) ≤ i
  · refine (told_no A n c i w h).mono ?_
    rintro e w' ⟨rfl, rfl⟩
    have : atT l i = none := by
      unfold atT
      rcases h with h | h
      · rw [if_pos h]
      · rw [if_neg (by omega)]
        exact List.getElem?_eq_none (by omega)
    rw [this]
    exact ⟨rfl, Ext.refl _⟩
  · obtain ⟨k, rfl⟩ : ∃ k : Nat, i = k := ⟨i.toNat, by omega⟩
    have hk : k < n := by omega
    obtain ⟨ad, rfl, x0, x1⟩ := hl.at_ hk
    have hmx := Rd.max hl
    have ea : atT l (k : Int) = some (tth l k) := by rw [atT_nat, tth_get (by omega)]; exact List.getElem?_eq_getElem (by omega)
    rw [ea]
    have hki : (k : Int) < (n : Int) := by omega
    have hk0 : ¬ (n : Int) ≤ (k : Int) := by omega
    generalize tth l k = x at *
    clear h hl hlen ea
    show Calls Tryz.prog _ _ w (Give (.tuple #[.string x.key, .int .i64 x.no, .bool true]) w)
    go_enter Tryz.func55, Tryz.ntmps55
    go_upto_region 3 with fail
    go_quiet (fail)
    go_wp2
    go_ret3
    exact ⟨rfl, Ext.drewN _ _⟩
set_option maxRecDepth 100000 in
set_option maxHeartbeats 4000000 in
theorem fromKeyC_any (A : Option Addr) (n c p q k : Nat) (l : List Te) (s : ByteArray) (w : World) (hl : RdN w A n c l) (hk : k < n) (hn : n ≤ 1000000) (hp : w.cell? ⟨p, 0, none⟩ = some (.slice A n c)) (h0 : w.cell? ⟨q, 0, none⟩ = some (.string s)) : Calls Tryz.prog 73 #[.int .i64 k, .pointer (some ⟨p, 0, none⟩), .pointer (some ⟨q, 0, none⟩)] w (Give (.bool (!decide (cmpK (tth l k).key s < 0))) w) := by
  obtain ⟨ad, rfl, x0, x1⟩ := hl.at_ hk
  have hmx := Rd.max hl
  have hkn : (k : Int) < (n : Int) := by omega
  have hb : Hid (decide (cmpK (tth l k).key s < 0) = Op.bytesLess (tth l k).key.toList s.toList) := by unfold Hid; rw [ByteArray.toList_eq, ByteArray.toList_eq]; exact (less_cmp _ _).symm
  generalize tth l k = x at *
  clear hl
  go_enter Tryz.func73, Tryz.ntmps73
  go_upto_region 1 with fail
  go_quiet (fail)
  go_wp2
  go_ret
  exact ⟨by rw [hb.out]; rfl, Ext.drewN _ _⟩
set_option maxRecDepth 100000 in
set_option maxHeartbeats 4000000 in
theorem fromKey_any (A : Option Addr) (n c : Nat) (l : List Te) (s : ByteArray) (w : World) (hl : RdN w A n c l) (hS : Srt l) (hn : n ≤ 1000000) : Calls Tryz.prog 56 #[.slice A n c, .string s] w (Give (.int .i64 (keyR l s)) w) := by
  have hlen := hl.len
  have hx := hid (((Ext.refl w).alloc_right (.cells #[.slice A n c] 52)).alloc_right (.cells #[.string s] 9))
  have hp0 := heap_alloc_new w (.cells #[.slice A n c] 52)
  have hq := heap_alloc_new (w.alloc (.cells #[.slice A n c] 52)) (.cells #[.string s] 9)
  have hp := (((Ext.refl (w.alloc (.cells #[.slice A n c] 52))).alloc_right (.cells #[.string s] 9)).block (Array.getElem?_eq_some_iff.1 hp0).1).trans hp0
  rw [World.size_alloc] at hq
  obtain ⟨r1, r2, r3⟩ := keyR_cut hS s
  have en : ∀ (x y a : Value) (w : World), (callFunc 73 #[a, x, y]).run Tryz.prog w = .ok (.enter 73 #[a, x, y]) w := fun x y a w => by kernel_rfl
  have hQ1 : Hid (∀ t, t < keyR l s → (!decide (cmpK (tth l t).key s < 0)) = false) := fun t ht => by rw [decide_eq_true (r2 t ht)]; rfl
  have hQ2 : Hid (∀ t, keyR l s ≤ t → t < n → (!decide (cmpK (tth l t).key s < 0)) = true) := fun t ht htn => by rw [decide_eq_false (r3 t ht (by omega))]; rfl
  have hC : Hid (∀ w1, Ext ((w.alloc (.cells #[.slice A n c] 52)).alloc (.cells #[.string s] 9)) w1 → Calls Tryz.prog 57 #[.int .i64 n, .func (.func 73) #[] #[.pointer (some ⟨w.heap.size, 0, none⟩), .pointer (some ⟨w.heap.size + 1, 0, none⟩)]] w1 (Give (.int .i64 (keyR l s)) w1)) := fun w1 hx1 => by
    refine search_any n (keyR l s) 73 _ _ (fun t => (!decide (cmpK (tth l t).key s < 0))) w1 hn (by omega) (en _ _) (fun k w' hk hx' => fromKeyC_any A n c _ _ k l s w' (hl.ext (hx.out.trans (hx1.trans hx'))) hk hn ?_ ?_) hQ1 hQ2
    all_goals first
      | exact (hx1.trans hx').cell (by rw [Lib.cell_of_heap hp]; rfl)
      | exact (hx1.trans hx').cell (by rw [Lib.cell_of_heap hq]; rfl)
  have zp : ((w.alloc (.cells #[.slice A n c] 52)).alloc (.cells #[.string s] 9)).cell? ⟨w.heap.size, 0, none⟩ = some (.slice A n c) := by rw [Lib.cell_of_heap hp]; rfl
  have lz := World.block_lt_of_cell? _ _ zp
  dsimp only at lz
  have hmx := Rd.max hl
  generalize keyR l s = r at *
  clear r1 r2 r3 hp hq hp0 hQ1 hQ2 hl hlen hS
  go_enter Tryz.func56, Tryz.ntmps56
  go_upto_region 1 with fail
  generalize ((w.alloc (.cells #[.slice A n c] 52)).alloc (.cells #[.string s] 9)) = w1 at *
  go_wp2_with fail
  refine (hC.out _ (Ext.refl _)).mono ?_
  rintro e' w3 ⟨rfl, hx3⟩
  go_wp2
  go_ret
  exact ⟨rfl, hx.out.trans hx3⟩
set_option maxRecDepth 100000 in
set_option maxHeartbeats 4000000 in
theorem At_any (t : Nat) (L : List Te) (h p : Nat) (T : BT) (fT : Nat → Nat) (i : Int) (w : World) (H : TreeAt 0 w t L h p T fT) (o : Option Te) (ho : Hid (o = atT L i)) : Calls Tryz.prog 23 #[.pointer (some ⟨t, 0, none⟩), .int .i64 i] w (Give (TV o) w) := by
  have hE := hid (entries_any t L h p T fT w H)
  have hsr := hid H.sr
  have hle := hid H.le
  clear H
  go_enter Tryz.func23, Tryz.ntmps23
  go_wp2_with fail
  refine hE.out.mono ?_
  rintro e w2 ⟨v, rfl, own2, hx⟩
  obtain ⟨A, c, rfl, -⟩ := own_form own2
  have hrd := hid (show RdN w2 A L.length c L from Rd.of_own own2)
  have hmx := Rd.max hrd.out
  clear own2
  have hT := hid (told_any A L.length c L i w2 hrd.out)
  rw [← ho.out] at hT
  clear ho
  go_wp2_with fail
  refine hT.out.mono ?_
  rintro e w3 ⟨rfl, hx3⟩
  replace hx := hid (hx.trans hx3)
  cases o with
  | none =>
    simp only [TV]
    go_wp2
    go_ret3
    exact ⟨rfl, hx.out⟩
  | some x =>
    simp only [TV]
    go_wp2
    go_ret3
    exact ⟨rfl, hx.out⟩
set_option maxRecDepth 100000 in
set_option maxHeartbeats 4000000 in
theorem Seek_any (t : Nat) (L : List Te) (h p : Nat) (T : BT) (fT : Nat → Nat) (s : ByteArray) (w : World) (H : TreeAt 0 w t L h p T fT) (o : Option Te) (ho : Hid (o = L[keyR L s]?)) : Calls Tryz.prog 26 #[.pointer (some ⟨t, 0, none⟩), .string s] w (Give (TV o) w) := by
  have hE := hid (entries_any t L h p T fT w H)
  have hsr := hid H.sr
  have hle := hid H.le
  clear H
  go_enter Tryz.func26, Tryz.ntmps26
  go_wp2_with fail
  refine hE.out.mono ?_
  rintro e w2 ⟨v, rfl, own2, hx⟩
  obtain ⟨A, c, rfl, -⟩ := own_form own2
  have hrd := hid (show RdN w2 A L.length c L from Rd.of_own own2)
  have hmx := Rd.max hrd.out
  clear own2
  have hF := hid (fromKey_any A L.length c L s w2 hrd.out hsr.out (by have := hle.out; omega))
  have hT := hid (fun w' (hx' : Ext w2 w') => told_any A L.length c L (keyR L s : Nat) w' (hrd.out.ext hx'))
  rw [atT_nat] at hT
  rw [← ho.out] at hT
  clear ho
  generalize keyR L s = r at *
  go_wp2_with fail
  refine hF.out.mono ?_
  rintro e w3 ⟨rfl, hx3⟩
  replace hx := hid (hx.trans hx3)
  replace hx3 := hid hx3
  go_wp2_with fail
  refine (hT.out w3 hx3.out).mono ?_
  rintro e w4 ⟨rfl, hx4⟩
  replace hx := hid (hx.out.trans hx4)
  cases o with
  | none =>
    simp only [TV]
    go_wp2
    go_ret3
    exact ⟨rfl, hx.out⟩
  | some x =>
    simp only [TV]
    go_wp2
    go_ret3
    exact ⟨rfl, hx.out⟩
set_option maxRecDepth 100000 in
set_option maxHeartbeats 4000000 in
theorem Prev_any (t : Nat) (L : List Te) (h p : Nat) (T : BT) (fT : Nat → Nat) (s : ByteArray) (i : Int) (w : World) (H : TreeAt 0 w t L h p T fT) (o : Option Te) (ho : Hid (o = atT L ((rankT L ⟨s, i⟩ : Nat) - 1 : Int))) : Calls Tryz.prog 30 #[.pointer (some ⟨t, 0, none⟩), .string s, .int .i64 i] w (Give (TV o) w) := by
  have hE := hid (entries_any t L h p T fT w H)
  have hsr := hid H.sr
  have hle := hid H.le
  clear H
  go_enter Tryz.func30, Tryz.ntmps30
  go_wp2_with fail
  refine hE.out.mono ?_
  rintro e w2 ⟨v, rfl, own2, hx⟩
  obtain ⟨A, c, rfl, -⟩ := own_form own2
  have hrd := hid (show RdN w2 A L.length c L from Rd.of_own own2)
  have hmx := Rd.max hrd.out
  clear own2
  have hF := hid (from_any A L.length c L ⟨s, i⟩ w2 hrd.out hsr.out (by have := hle.out; omega))
  have hT := hid (fun w' (hx' : Ext w2 w') => told_any A L.length c L ((rankT L ⟨s, i⟩ : Nat) - 1 : Int) w' (hrd.out.ext hx'))
  have hr := (rank_cut hsr.out ⟨s, i⟩).1
  rw [← ho.out] at hT
  clear ho
  generalize rankT L ⟨s, i⟩ = r at *
  have hw1 : IntKind.i64.wrap ((r : Int) - 1) = (r : Int) - 1 := IntWalk.i64_in _ (by have := hle.out; omega)
  have hr10 : r ≤ 10000 := by have := hle.out; omega
  go_wp2_with fail
  refine hF.out.mono ?_
  rintro e w3 ⟨rfl, hx3⟩
  replace hx := hid (hx.trans hx3)
  replace hx3 := hid hx3
  go_wp2_with fail
  refine (hT.out w3 hx3.out).mono ?_
  rintro e w4 ⟨rfl, hx4⟩
  replace hx := hid (hx.out.trans hx4)
  cases o with
  | none =>
    simp only [TV]
    go_wp2
    go_ret3
    exact ⟨rfl, hx.out⟩
  | some x =>
    simp only [TV]
    go_wp2
    go_ret3
    exact ⟨rfl, hx.out⟩
set_option maxRecDepth 100000 in
set_option maxHeartbeats 4000000 in
theorem Next_any (t : Nat) (L : List Te) (h p : Nat) (T : BT) (fT : Nat → Nat) (s : ByteArray) (i : Int) (w : World) (H : TreeAt 0 w t L h p T fT) (o : Option Te) (ho : Hid (o = L[nextR L ⟨s, i⟩]?)) : Calls Tryz.prog 28 #[.pointer (some ⟨t, 0, none⟩), .string s, .int .i64 i] w (Give (TV o) w) := by
  have hE := hid (entries_any t L h p T fT w H)
  have hsr := hid H.sr
  have hle := hid H.le
  clear H
  go_enter Tryz.func28, Tryz.ntmps28
  go_wp2_with fail
  refine hE.out.mono ?_
  rintro e w2 ⟨v, rfl, own2, hx⟩
  obtain ⟨A, c, rfl, -⟩ := own_form own2
  have hrd := hid (show RdN w2 A L.length c L from Rd.of_own own2)
  have hmx := Rd.max hrd.out
  clear own2
  have hp0 := heap_alloc_new w2 (.cells #[.slice A L.length c] 52)
  have hq := heap_alloc_new (w2.alloc (.cells #[.slice A L.length c] 52)) (.cells #[.string s, .int .i64 i] 83)
  have hxa := (Ext.refl w2).alloc_right (.cells #[.slice A L.length c] 52)
  have hxb := (Ext.refl (w2.alloc (.cells #[.slice A L.length c] 52))).alloc_right (.cells #[.string s, .int .i64 i] 83)
  have hp := (hxb.block (Array.getElem?_eq_some_iff.1 hp0).1).trans hp0
  rw [World.size_alloc] at hq
  have zp : ((w2.alloc (.cells #[.slice A L.length c] 52)).alloc (.cells #[.string s, .int .i64 i] 83)).cell? ⟨w2.heap.size, 0, none⟩ = some (.slice A L.length c) := by rw [Lib.cell_of_heap hp]; rfl
  have lz := World.block_lt_of_cell? _ _ zp
  dsimp only at lz
  have hx5 := hid (hxa.trans hxb)
  obtain ⟨r1, r2, r3⟩ := nextR_cut hsr.out ⟨s, i⟩
  have en : ∀ (x y a : Value) (w : World), (callFunc 58 #[a, x, y]).run Tryz.prog w = .ok (.enter 58 #[a, x, y]) w := fun x y a w => by kernel_rfl
  have hSe : Hid (∀ w1, Ext ((w2.alloc (.cells #[.slice A L.length c] 52)).alloc (.cells #[.string s, .int .i64 i] 83)) w1 → Calls Tryz.prog 57 #[.int .i64 L.length, .func (.func 58) #[] #[.pointer (some ⟨w2.heap.size, 0, none⟩), .pointer (some ⟨w2.heap.size + 1, 0, none⟩)]] w1 (Give (.int .i64 (nextR L ⟨s, i⟩)) w1)) := fun w1 hx1 => by
    refine search_any L.length (nextR L ⟨s, i⟩) 58 _ _ (fun t => decide (0 < cmpT (tth L t) ⟨s, i⟩)) w1 (by have := hle.out; omega) r1 (en _ _) (fun k w' hk hx' => nextC_any A L.length c _ _ k L ⟨s, i⟩ w' (hrd.out.ext (hx5.out.trans (hx1.trans hx'))) hk (by have := hle.out; omega) ?_ ?_ ?_) (fun t ht => decide_eq_false (r2 t ht)) (fun t ht hl => decide_eq_true (r3 t ht hl))
    all_goals first
      | exact (hx1.trans hx').cell (by rw [Lib.cell_of_heap hp]; rfl)
      | exact (hx1.trans hx').cell (by rw [Lib.cell_of_heap hq]; rfl)
  have hT := hid (fun w' (hx' : Ext w2 w') => told_any A L.length c L (nextR L ⟨s, i⟩ : Nat) w' (hrd.out.ext hx'))
  rw [atT_nat] at hT
  rw [← ho.out] at hT
  clear ho
  generalize nextR L ⟨s, i⟩ = r at *
  replace hx := hid hx
  clear hp hp0 hq hxa hxb r1 r2 r3 en
  go_upto_region 3 with fail
  obtain ⟨b, hbe⟩ : ∃ b, b = w2.heap.size := ⟨_, rfl⟩
  rw [← hbe] at zp lz hSe
  simp only [← hbe]
  clear hbe
  have I0 : (fun w' : World => w'.cell? ⟨b, 0, none⟩ = some (.slice A L.length c)) ((w2.alloc (.cells #[.slice A L.length c] 52)).alloc (.cells #[.string s, .int .i64 i] 83)).drew := zp
  refine region_J (fun w' : World => w'.cell? ⟨b, 0, none⟩ = some (.slice A L.length c)) 12 (by kernel_rfl) ?_
  have hx6 := hid ((Ext.refl ((w2.alloc (.cells #[.slice A L.length c] 52)).alloc (.cells #[.string s, .int .i64 i] 83))).drew_right)
  clear zp
  generalize ((w2.alloc (.cells #[.slice A L.length c] 52)).alloc (.cells #[.string s, .int .i64 i] 83)).drew = w3 at *
  generalize ((w2.alloc (.cells #[.slice A L.length c] 52)).alloc (.cells #[.string s, .int .i64 i] 83)) = w2' at *
  refine J_takeO 0 (v := ?vc0) rfl (by kernel_rfl) (by kernel_rfl) (by kernel_rfl) (by kernel_rfl) (fun _ _ _ h => h) (Or.inl ⟨by rfl, ?yc0⟩) I0 ?rc0
  case yc0 => (intro w hSw; have := hSw; (go_simp; with_reducible rfl))
  simp only [Act.put, List.getElem_toArray, List.getElem_cons_zero, List.getElem_cons_succ, List.setIfInBounds_toArray, List.set_cons_zero, List.set_cons_succ]
  refine J_takeO 1 (v := ?vc1) rfl (by kernel_rfl) (by kernel_rfl) (by kernel_rfl) (by kernel_rfl) (fun _ _ _ h => h) (Or.inl ⟨by rfl, ?yc1⟩) I0 ?rc1
  case yc1 => (intro w hSw; have := hSw; (go_simp; with_reducible rfl))
  simp only [Act.put, List.getElem_toArray, List.getElem_cons_zero, List.getElem_cons_succ, List.setIfInBounds_toArray, List.set_cons_zero, List.set_cons_succ]
  refine J_takeO 2 (v := ?vc2) rfl (by kernel_rfl) (by kernel_rfl) (by kernel_rfl) (by kernel_rfl) (fun _ _ _ h => h) (Or.inl ⟨by rfl, ?yc2⟩) I0 ?rc2
  case yc2 => (intro w hSw; have := hSw; (go_simp; with_reducible rfl))
  simp only [Act.put, List.getElem_toArray, List.getElem_cons_zero, List.getElem_cons_succ, List.setIfInBounds_toArray, List.set_cons_zero, List.set_cons_succ]
  refine J_takeO 3 (v := ?vc3) rfl (by kernel_rfl) (by kernel_rfl) (by kernel_rfl) (by kernel_rfl) (fun _ _ _ h => h) (Or.inl ⟨by rfl, ?yc3⟩) I0 ?rc3
  case yc3 => (intro w hSw; have := hSw; (go_simp; with_reducible rfl))
  simp only [Act.put, List.getElem_toArray, List.getElem_cons_zero, List.getElem_cons_succ, List.setIfInBounds_toArray, List.set_cons_zero, List.set_cons_succ]
  refine J_one 4 rfl (by kernel_rfl) (fun K hK => ?_)
  go_simp
  refine (hSe.out _ hx6.out).mono ?_
  rintro e w4 ⟨rfl, hx4⟩
  have I4 : (fun w' : World => w'.cell? ⟨b, 0, none⟩ = some (.slice A L.length c)) w4 := hx4.cell I0
  have hx8 := hid (hx6.out.trans hx4)
  clear hx4
  refine hK _ _ ⟨fun _ => I4, ?_⟩
  clear hK K
  try simp only [Act.put, List.getElem_toArray, List.getElem_cons_zero, List.getElem_cons_succ, List.setIfInBounds_toArray, List.set_cons_zero, List.set_cons_succ]
  refine J_one 5 rfl (by kernel_rfl) (fun K hK => ?_)
  go_simp
  refine (hT.out _ (hx5.out.trans hx8.out)).mono ?_
  rintro e w5 ⟨rfl, hx9⟩
  have I5 : (fun w' : World => w'.cell? ⟨b, 0, none⟩ = some (.slice A L.length c)) w5 := hx9.cell I4
  have hxa := hid (hx.out.trans (hx5.out.trans (hx8.out.trans hx9)))
  clear hx9
  refine hK _ _ ⟨fun _ => I5, ?_⟩
  clear hK K
  try simp only [Act.put, List.getElem_toArray, List.getElem_cons_zero, List.getElem_cons_succ, List.setIfInBounds_toArray, List.set_cons_zero, List.set_cons_succ]
  cases o with
  | none =>
    simp only [TV]
    refine J_takeO 6 (v := ?vd6) rfl (by kernel_rfl) (by kernel_rfl) (by kernel_rfl) (by kernel_rfl) (fun _ _ _ h => h) (Or.inl ⟨by rfl, ?yd6⟩) I5 ?rd6
    case yd6 => (intro w hSw; have := hSw; (go_simp; with_reducible rfl))
    simp only [Act.put, List.getElem_toArray, List.getElem_cons_zero, List.getElem_cons_succ, List.setIfInBounds_toArray, List.set_cons_zero, List.set_cons_succ]
    refine J_takeO 7 (v := ?vd7) rfl (by kernel_rfl) (by kernel_rfl) (by kernel_rfl) (by kernel_rfl) (fun _ _ _ h => h) (Or.inl ⟨by rfl, ?yd7⟩) I5 ?rd7
    case yd7 => (intro w hSw; have := hSw; (go_simp; with_reducible rfl))
    simp only [Act.put, List.getElem_toArray, List.getElem_cons_zero, List.getElem_cons_succ, List.setIfInBounds_toArray, List.set_cons_zero, List.set_cons_succ]
    refine J_takeO 8 (v := ?vd8) rfl (by kernel_rfl) (by kernel_rfl) (by kernel_rfl) (by kernel_rfl) (fun _ _ _ h => h) (Or.inl ⟨by rfl, ?yd8⟩) I5 ?rd8
    case yd8 => (intro w hSw; have := hSw; (go_simp; with_reducible rfl))
    simp only [Act.put, List.getElem_toArray, List.getElem_cons_zero, List.getElem_cons_succ, List.setIfInBounds_toArray, List.set_cons_zero, List.set_cons_succ]
    refine J_one 9 rfl (by kernel_rfl) (fun K hK => ?_)
    go_simp
    refine hK _ _ ⟨fun _ => I5, ?_⟩
    clear hK K
    try simp only [Act.put, List.setIfInBounds_toArray, List.set_cons_zero, List.set_cons_succ]
    refine J_one 10 rfl (by kernel_rfl) (fun K hK => ?_)
    go_simp
    refine hK _ _ ⟨fun _ => I5, ?_⟩
    clear hK K
    try simp only [Act.put, List.setIfInBounds_toArray, List.set_cons_zero, List.set_cons_succ]
    refine J_one 11 rfl (by kernel_rfl) (fun K hK => ?_)
    go_simp
    refine hK _ _ ⟨fun _ => I5, ?_⟩
    clear hK K
    try simp only [Act.put, List.setIfInBounds_toArray, List.set_cons_zero, List.set_cons_succ]
    refine J_done (by kernel_rfl) (OnlyOn.normal ?_)
    go_wp2
    go_ret3
    exact ⟨rfl, hxa.out⟩
  | some x =>
    simp only [TV]
    refine J_takeO 6 (v := ?ve6) rfl (by kernel_rfl) (by kernel_rfl) (by kernel_rfl) (by kernel_rfl) (fun _ _ _ h => h) (Or.inl ⟨by rfl, ?ye6⟩) I5 ?re6
    case ye6 => (intro w hSw; have := hSw; (go_simp; with_reducible rfl))
    simp only [Act.put, List.getElem_toArray, List.getElem_cons_zero, List.getElem_cons_succ, List.setIfInBounds_toArray, List.set_cons_zero, List.set_cons_succ]
    refine J_takeO 7 (v := ?ve7) rfl (by kernel_rfl) (by kernel_rfl) (by kernel_rfl) (by kernel_rfl) (fun _ _ _ h => h) (Or.inl ⟨by rfl, ?ye7⟩) I5 ?re7
    case ye7 => (intro w hSw; have := hSw; (go_simp; with_reducible rfl))
    simp only [Act.put, List.getElem_toArray, List.getElem_cons_zero, List.getElem_cons_succ, List.setIfInBounds_toArray, List.set_cons_zero, List.set_cons_succ]
    refine J_takeO 8 (v := ?ve8) rfl (by kernel_rfl) (by kernel_rfl) (by kernel_rfl) (by kernel_rfl) (fun _ _ _ h => h) (Or.inl ⟨by rfl, ?ye8⟩) I5 ?re8
    case ye8 => (intro w hSw; have := hSw; (go_simp; with_reducible rfl))
    simp only [Act.put, List.getElem_toArray, List.getElem_cons_zero, List.getElem_cons_succ, List.setIfInBounds_toArray, List.set_cons_zero, List.set_cons_succ]
    refine J_one 9 rfl (by kernel_rfl) (fun K hK => ?_)
    go_simp
    refine hK _ _ ⟨fun _ => I5, ?_⟩
    clear hK K
    try simp only [Act.put, List.setIfInBounds_toArray, List.set_cons_zero, List.set_cons_succ]
    refine J_one 10 rfl (by kernel_rfl) (fun K hK => ?_)
    go_simp
    refine hK _ _ ⟨fun _ => I5, ?_⟩
    clear hK K
    try simp only [Act.put, List.setIfInBounds_toArray, List.set_cons_zero, List.set_cons_succ]
    refine J_one 11 rfl (by kernel_rfl) (fun K hK => ?_)
    go_simp
    refine hK _ _ ⟨fun _ => I5, ?_⟩
    clear hK K
    try simp only [Act.put, List.setIfInBounds_toArray, List.set_cons_zero, List.set_cons_succ]
    refine J_done (by kernel_rfl) (OnlyOn.normal ?_)
    go_wp2
    go_ret3
    exact ⟨rfl, hxa.out⟩
end Go.Proofs.YtpijfiaecicpfaaGreat

