/-
  The reference's Check and Len; what two lists have in common; holds.
-/
import Derived.Test.YtpijfiaecicpfaaBv
import Derived.Test.YtpijfiaecicpfaaBj
namespace Go.Proofs.Ytpijfiaecicpfaa
open Go.RowKit Go.Shelf
set_option linter.unusedVariables false
set_option linter.unusedSimpArgs false
set_option maxRecDepth 100000 in
set_option maxHeartbeats 4000000 in
theorem sTexts_any (A : Option Addr) (n c : Nat) (B : Option Addr) (d : Nat) (l : List ByteArray) (w : World) (ha : Rd w 1 A n c (strv l)) (hb : Rd w 1 B n d (strv l)) : Calls Try.prog 46 #[.slice A n c, .slice B n d] w (Give (.bool true) w) := by
  have hm := Rd.max ha
  replace ha := hid ha
  replace hb := hid hb
  go_enter Try.func46, Try.ntmps46
  go_wp2_with fail
  go_loopw [5] (fun i wr => ∃ k : Nat, k ≤ n ∧ i = .int .i64 k ∧ Hid (Ext w wr)) (fun i _ => n - (intOf i).toNat)
  case atStart => exact ⟨0, by omega, rfl, Ext.refl _⟩
  case round =>
    obtain ⟨k, hk, rfl, hx⟩ := hrel
    by_cases hlt : k < n
    · obtain ⟨ad, rfl, x0⟩ := rds_at (ha.out.ext hx.out) hlt
      obtain ⟨bd, rfl, y0⟩ := rds_at (hb.out.ext hx.out) hlt
      have hx9 := hid hx.out.drew_right
      have hki : (k : Int) < (n : Int) := by omega
      generalize sth l k = z0 at *
      clear ha hb
      go_upto_region 6 with fail
      have I0 : (fun w' : World => w'.cell? (ad.add k) = some (.string z0) ∧ w'.cell? (bd.add k) = some (.string z0)) wr.drew := ⟨x0, y0⟩
      refine region_J (fun w' : World => w'.cell? (ad.add k) = some (.string z0) ∧ w'.cell? (bd.add k) = some (.string z0)) 9 (by kernel_rfl) ?_
      clear x0 y0
      generalize wr.drew = w9 at *
      refine J_takeO 0 (v := ?va0) rfl (by kernel_rfl) (by kernel_rfl) (by kernel_rfl) (by kernel_rfl) (fun _ _ _ h => h) (Or.inl ⟨by rfl, ?ya0⟩) I0 ?ra0
      case ya0 => (intro w hSw; obtain ⟨_, _⟩ := hSw; (go_simp; with_reducible rfl))
      simp only [Act.put, List.getElem_toArray, List.getElem_cons_zero, List.getElem_cons_succ, List.setIfInBounds_toArray, List.set_cons_zero, List.set_cons_succ]
      refine J_takeO 1 (v := ?va1) rfl (by kernel_rfl) (by kernel_rfl) (by kernel_rfl) (by kernel_rfl) (fun _ _ _ h => h) (Or.inl ⟨by rfl, ?ya1⟩) I0 ?ra1
      case ya1 => (intro w hSw; obtain ⟨_, _⟩ := hSw; (go_simp; with_reducible rfl))
      simp only [Act.put, List.getElem_toArray, List.getElem_cons_zero, List.getElem_cons_succ, List.setIfInBounds_toArray, List.set_cons_zero, List.set_cons_succ]
      refine J_takeO 2 (v := ?va2) rfl (by kernel_rfl) (by kernel_rfl) (by kernel_rfl) (by kernel_rfl) (fun _ _ _ h => h) (Or.inl ⟨by rfl, ?ya2⟩) I0 ?ra2
      case ya2 => (intro w hSw; obtain ⟨_, _⟩ := hSw; (go_simp; with_reducible rfl))
      simp only [Act.put, List.getElem_toArray, List.getElem_cons_zero, List.getElem_cons_succ, List.setIfInBounds_toArray, List.set_cons_zero, List.set_cons_succ]
      refine J_takeO 3 (v := ?va3) rfl (by kernel_rfl) (by kernel_rfl) (by kernel_rfl) (by kernel_rfl) (fun _ _ _ h => h) (Or.inl ⟨by rfl, ?ya3⟩) I0 ?ra3
      case ya3 => (intro w hSw; obtain ⟨_, _⟩ := hSw; (go_simp; with_reducible rfl))
      simp only [Act.put, List.getElem_toArray, List.getElem_cons_zero, List.getElem_cons_succ, List.setIfInBounds_toArray, List.set_cons_zero, List.set_cons_succ]
      refine J_takeO 4 (v := ?va4) rfl (by kernel_rfl) (by kernel_rfl) (by kernel_rfl) (by kernel_rfl) (fun _ _ _ h => h) (Or.inl ⟨by rfl, ?ya4⟩) I0 ?ra4
      case ya4 => (intro w hSw; obtain ⟨_, _⟩ := hSw; (go_simp; with_reducible rfl))
      simp only [Act.put, List.getElem_toArray, List.getElem_cons_zero, List.getElem_cons_succ, List.setIfInBounds_toArray, List.set_cons_zero, List.set_cons_succ]
      refine J_takeO 5 (v := ?va5) rfl (by kernel_rfl) (by kernel_rfl) (by kernel_rfl) (by kernel_rfl) (fun _ _ _ h => h) (Or.inl ⟨by rfl, ?ya5⟩) I0 ?ra5
      case ya5 => (intro w hSw; obtain ⟨_, _⟩ := hSw; (go_simp; with_reducible rfl))
      simp only [Act.put, List.getElem_toArray, List.getElem_cons_zero, List.getElem_cons_succ, List.setIfInBounds_toArray, List.set_cons_zero, List.set_cons_succ]
      refine J_takeO 6 (v := ?va6) rfl (by kernel_rfl) (by kernel_rfl) (by kernel_rfl) (by kernel_rfl) (fun _ _ _ h => h) (Or.inl ⟨by rfl, ?ya6⟩) I0 ?ra6
      case ya6 => (intro w hSw; obtain ⟨_, _⟩ := hSw; (go_simp; with_reducible rfl))
      simp only [Act.put, List.getElem_toArray, List.getElem_cons_zero, List.getElem_cons_succ, List.setIfInBounds_toArray, List.set_cons_zero, List.set_cons_succ]
      refine J_takeO 7 (v := ?va7) rfl (by kernel_rfl) (by kernel_rfl) (by kernel_rfl) (by kernel_rfl) (fun _ _ _ h => h) (Or.inl ⟨by rfl, ?ya7⟩) I0 ?ra7
      case ya7 => (intro w hSw; obtain ⟨_, _⟩ := hSw; (go_simp; with_reducible rfl))
      simp only [Act.put, List.getElem_toArray, List.getElem_cons_zero, List.getElem_cons_succ, List.setIfInBounds_toArray, List.set_cons_zero, List.set_cons_succ]
      refine J_takeO 8 (v := ?va8) rfl (by kernel_rfl) (by kernel_rfl) (by kernel_rfl) (by kernel_rfl) (fun _ _ _ h => h) (Or.inl ⟨by rfl, ?ya8⟩) I0 ?ra8
      case ya8 => (intro w hSw; obtain ⟨_, _⟩ := hSw; (go_simp; with_reducible rfl))
      simp only [Act.put, List.getElem_toArray, List.getElem_cons_zero, List.getElem_cons_succ, List.setIfInBounds_toArray, List.set_cons_zero, List.set_cons_succ]
      refine J_done (by kernel_rfl) (OnlyOn.normal ?_)
      go_wp2
      go_roundw
      case rel => exact ⟨k + 1, by omega, by go_num, hx9⟩
      case measure => simp [intOf]; omega
    · obtain rfl : k = n := by omega
      go_wp2
      go_ret
      exact ⟨rfl, hx.out⟩
set_option maxRecDepth 100000 in
set_option maxHeartbeats 4000000 in
theorem sInts_any (A : Option Addr) (n c : Nat) (B : Option Addr) (d : Nat) (l : List Int) (w : World) (ha : RdI w A n c l) (hb : RdI w B n d l) : Calls Try.prog 47 #[.slice A n c, .slice B n d] w (Give (.bool true) w) := by
  have hm := Rd.max ha
  replace ha := hid ha
  replace hb := hid hb
  go_enter Try.func47, Try.ntmps47
  go_wp2_with fail
  go_loopw [5] (fun i wr => ∃ k : Nat, k ≤ n ∧ i = .int .i64 k ∧ Hid (Ext w wr)) (fun i _ => n - (intOf i).toNat)
  case atStart => exact ⟨0, by omega, rfl, Ext.refl _⟩
  case round =>
    obtain ⟨k, hk, rfl, hx⟩ := hrel
    by_cases hlt : k < n
    · obtain ⟨ad, rfl, x0⟩ := rdi_at (ha.out.ext hx.out) hlt
      obtain ⟨bd, rfl, y0⟩ := rdi_at (hb.out.ext hx.out) hlt
      have hx9 := hid hx.out.drew_right
      have hki : (k : Int) < (n : Int) := by omega
      generalize ith l k = z0 at *
      clear ha hb
      go_upto_region 6 with fail
      have I0 : (fun w' : World => w'.cell? (ad.add k) = some (.int .i64 z0) ∧ w'.cell? (bd.add k) = some (.int .i64 z0)) wr.drew := ⟨x0, y0⟩
      refine region_J (fun w' : World => w'.cell? (ad.add k) = some (.int .i64 z0) ∧ w'.cell? (bd.add k) = some (.int .i64 z0)) 9 (by kernel_rfl) ?_
      clear x0 y0
      generalize wr.drew = w9 at *
      refine J_takeO 0 (v := ?va0) rfl (by kernel_rfl) (by kernel_rfl) (by kernel_rfl) (by kernel_rfl) (fun _ _ _ h => h) (Or.inl ⟨by rfl, ?ya0⟩) I0 ?ra0
      case ya0 => (intro w hSw; obtain ⟨_, _⟩ := hSw; (go_simp; with_reducible rfl))
      simp only [Act.put, List.getElem_toArray, List.getElem_cons_zero, List.getElem_cons_succ, List.setIfInBounds_toArray, List.set_cons_zero, List.set_cons_succ]
      refine J_takeO 1 (v := ?va1) rfl (by kernel_rfl) (by kernel_rfl) (by kernel_rfl) (by kernel_rfl) (fun _ _ _ h => h) (Or.inl ⟨by rfl, ?ya1⟩) I0 ?ra1
      case ya1 => (intro w hSw; obtain ⟨_, _⟩ := hSw; (go_simp; with_reducible rfl))
      simp only [Act.put, List.getElem_toArray, List.getElem_cons_zero, List.getElem_cons_succ, List.setIfInBounds_toArray, List.set_cons_zero, List.set_cons_succ]
      refine J_takeO 2 (v := ?va2) rfl (by kernel_rfl) (by kernel_rfl) (by kernel_rfl) (by kernel_rfl) (fun _ _ _ h => h) (Or.inl ⟨by rfl, ?ya2⟩) I0 ?ra2
      case ya2 => (intro w hSw; obtain ⟨_, _⟩ := hSw; (go_simp; with_reducible rfl))
      simp only [Act.put, List.getElem_toArray, List.getElem_cons_zero, List.getElem_cons_succ, List.setIfInBounds_toArray, List.set_cons_zero, List.set_cons_succ]
      refine J_takeO 3 (v := ?va3) rfl (by kernel_rfl) (by kernel_rfl) (by kernel_rfl) (by kernel_rfl) (fun _ _ _ h => h) (Or.inl ⟨by rfl, ?ya3⟩) I0 ?ra3
      case ya3 => (intro w hSw; obtain ⟨_, _⟩ := hSw; (go_simp; with_reducible rfl))
      simp only [Act.put, List.getElem_toArray, List.getElem_cons_zero, List.getElem_cons_succ, List.setIfInBounds_toArray, List.set_cons_zero, List.set_cons_succ]
      refine J_takeO 4 (v := ?va4) rfl (by kernel_rfl) (by kernel_rfl) (by kernel_rfl) (by kernel_rfl) (fun _ _ _ h => h) (Or.inl ⟨by rfl, ?ya4⟩) I0 ?ra4
      case ya4 => (intro w hSw; obtain ⟨_, _⟩ := hSw; (go_simp; with_reducible rfl))
      simp only [Act.put, List.getElem_toArray, List.getElem_cons_zero, List.getElem_cons_succ, List.setIfInBounds_toArray, List.set_cons_zero, List.set_cons_succ]
      refine J_takeO 5 (v := ?va5) rfl (by kernel_rfl) (by kernel_rfl) (by kernel_rfl) (by kernel_rfl) (fun _ _ _ h => h) (Or.inl ⟨by rfl, ?ya5⟩) I0 ?ra5
      case ya5 => (intro w hSw; obtain ⟨_, _⟩ := hSw; (go_simp; with_reducible rfl))
      simp only [Act.put, List.getElem_toArray, List.getElem_cons_zero, List.getElem_cons_succ, List.setIfInBounds_toArray, List.set_cons_zero, List.set_cons_succ]
      refine J_takeO 6 (v := ?va6) rfl (by kernel_rfl) (by kernel_rfl) (by kernel_rfl) (by kernel_rfl) (fun _ _ _ h => h) (Or.inl ⟨by rfl, ?ya6⟩) I0 ?ra6
      case ya6 => (intro w hSw; obtain ⟨_, _⟩ := hSw; (go_simp; with_reducible rfl))
      simp only [Act.put, List.getElem_toArray, List.getElem_cons_zero, List.getElem_cons_succ, List.setIfInBounds_toArray, List.set_cons_zero, List.set_cons_succ]
      refine J_takeO 7 (v := ?va7) rfl (by kernel_rfl) (by kernel_rfl) (by kernel_rfl) (by kernel_rfl) (fun _ _ _ h => h) (Or.inl ⟨by rfl, ?ya7⟩) I0 ?ra7
      case ya7 => (intro w hSw; obtain ⟨_, _⟩ := hSw; (go_simp; with_reducible rfl))
      simp only [Act.put, List.getElem_toArray, List.getElem_cons_zero, List.getElem_cons_succ, List.setIfInBounds_toArray, List.set_cons_zero, List.set_cons_succ]
      refine J_takeO 8 (v := ?va8) rfl (by kernel_rfl) (by kernel_rfl) (by kernel_rfl) (by kernel_rfl) (fun _ _ _ h => h) (Or.inl ⟨by rfl, ?ya8⟩) I0 ?ra8
      case ya8 => (intro w hSw; obtain ⟨_, _⟩ := hSw; (go_simp; with_reducible rfl))
      simp only [Act.put, List.getElem_toArray, List.getElem_cons_zero, List.getElem_cons_succ, List.setIfInBounds_toArray, List.set_cons_zero, List.set_cons_succ]
      refine J_done (by kernel_rfl) (OnlyOn.normal ?_)
      go_wp2
      go_roundw
      case rel => exact ⟨k + 1, by omega, by go_num, hx9⟩
      case measure => simp [intOf]; omega
    · obtain rfl : k = n := by omega
      go_wp2
      go_ret
      exact ⟨rfl, hx.out⟩
/-- What Check says of an index. -/
noncomputable def chkE (xs : List Nx) : Int := if wrongX xs = 0 then 0 else 11
set_option maxRecDepth 100000 in
set_option maxHeartbeats 4000000 in
theorem rCheck_any (A : Option Addr) (n c : Nat) (xs : List Nx) (w : World) (hr : RX w A n c xs) : Calls Try.prog 16 #[.agg #[.slice A n c]] w (Give (.tuple #[.int .i64 (wrongX xs), .int .i64 (chkE xs)]) w) := by
  have hx1 := hid ((Ext.refl w).alloc_right (.cells #[.slice A n c] 37))
  have hC := hid (fun w' (hx : Ext w w') => rwrong_any A n c xs w' (hr.ext hx))
  have hrg := wrong_rng xs
  have hE : Hid (chkE xs = if wrongX xs = 0 then 0 else 11) := rfl
  generalize chkE xs = E at *
  generalize wrongX xs = W at *
  by_cases h0 : W = 0
  · subst h0
    have hE0 : E = 0 := by rw [hE.out, if_pos rfl]
    subst hE0
    clear hE hr
    go_enter Try.func16, Try.ntmps16
    go_wp2_with fail
    refine (hC.out _ hx1.out).mono ?_
    rintro e w2 ⟨rfl, hx2⟩
    go_wp2
    go_ret2
    exact ⟨rfl, hx1.out.trans hx2⟩
  · have hE0 : E = 11 := by rw [hE.out, if_neg h0]
    subst hE0
    have h1 : 0 < W := by omega
    clear hE hr h0
    go_enter Try.func16, Try.ntmps16
    go_wp2_with fail
    refine (hC.out _ hx1.out).mono ?_
    rintro e w2 ⟨rfl, hx2⟩
    go_wp2
    go_ret2
    exact ⟨rfl, hx1.out.trans hx2⟩
theorem entX_len {xs : List Nx} (h0 : wrongX xs = 0) : (entX xs).length ≤ 9600 := by
  obtain ⟨c1, c1', c2, c3, -, ⟨h, hU⟩, -, -⟩ := wrong_none.1 h0
  have hT := tree_ut c3 (by omega)
  have h1 := btx_len c2 hU hT
  have h2 := sub_le c3 (by omega) hT
  unfold entX
  rw [hX_is hU]
  omega
/-- The entries of a right index. -/
theorem rEntriesX_any (A : Option Addr) (n c : Nat) (xs : List Nx) (w : World) (hr : RX w A n c xs) (h0 : wrongX xs = 0) : Calls Try.prog 45 #[.agg #[.slice A n c]] w (GiveE (entX xs) w) := by
  obtain ⟨c1, c1', c2, c3, -, ⟨h, hU⟩, -, -⟩ := wrong_none.1 h0
  have h3 := entX_len h0
  have hl := hr.len
  have h4 := c3.1
  rw [hl] at h4
  unfold entX at h3 ⊢
  rw [hX_is hU] at h3 ⊢
  exact rEntriesU_any n xs h4 c2 h A c w hr hU (by omega)
/-- The reference's tree in memory. -/
def RTr (w : World) (r : Nat) (L : List Te) : Prop := ∃ A1 c1 A2 c2, w.heap[r]? = some (.cells #[.slice A1 L.length c1, .slice A2 L.length c2] 76 (0, 0)) ∧ Rd w 1 A1 L.length c1 (strv (L.map Te.key)) ∧ RdI w A2 L.length c2 (L.map Te.no)
theorem RTr.ext {w w' : World} {r : Nat} {L : List Te} (h : RTr w r L) (hx : Ext w w') : RTr w' r L := by
  obtain ⟨A1, c1, A2, c2, h1, h2, h3⟩ := h
  exact ⟨A1, c1, A2, c2, (hx.block (Array.getElem?_eq_some_iff.1 h1).1).trans h1, h2.ext hx, h3.ext hx⟩
set_option maxRecDepth 100000 in
set_option maxHeartbeats 4000000 in
theorem rLen_any (r : Nat) (L : List Te) (w : World) (h : RTr w r L) : Calls Try.prog 44 #[.pointer (some ⟨r, 0, none⟩)] w fun e w' => e = .returned (.int .i64 L.length) ∧ w = w' := by
  obtain ⟨A1, c1, A2, c2, h1, -, -⟩ := h
  have z0 : w.cell? ⟨r, 0, none⟩ = some (.slice A1 L.length c1) := by rw [Lib.cell_of_heap h1]; rfl
  have lr := (Array.getElem?_eq_some_iff.1 h1).1
  clear h1
  go_enter Try.func44, Try.ntmps44
  go_wp2
  go_ret
  exact ⟨rfl, rfl⟩
set_option maxRecDepth 100000 in
set_option maxHeartbeats 8000000 in
theorem holds_any (t : Nat) (L : List Te) (h p : Nat) (T : BT) (fT : Nat → Nat) (r : Nat) (w : World) (H : TreeAt 0 w t L h p T fT) (hn : (lst h T 0).length ≤ 2400) (hR : RTr w r L) : Calls Try.prog 13 #[.pointer (some ⟨t, 0, none⟩), .pointer (some ⟨r, 0, none⟩)] w (Give (.bool true) w) := by
  have hI := hid (Index_any t L h p T fT w H)
  obtain ⟨hw0, hent⟩ := lst_right H.sh H.l4 H.l1 hn (by rw [H.fl]; exact H.ok) (by rw [H.fl]; exact H.sr)
  rw [H.fl] at hent
  have hL := hid (fun w' (hx : Ext w w') => Len_any t L h p T fT w' (H.ext hx))
  have hrl := hid (fun w' (hx : Ext w w') => rLen_any r L w' (hR.ext hx))
  have hck := hid (fun w' A n c (hr : RX w' A n c (lst h T 0)) => rCheck_any A n c _ w' hr)
  have hen := hid (fun w' A n c (hr : RX w' A n c (lst h T 0)) => rEntriesX_any A n c _ w' hr hw0)
  rw [hent] at hen
  rw [show chkE (lst h T 0) = 0 from if_pos hw0, hw0] at hck
  have hLl := H.le
  have hRw := hid hR
  clear hw0 hent H hn hR
  generalize lst h T 0 = xs at *
  go_enter Try.func13, Try.ntmps13
  go_wp2_with fail
  refine hI.out.mono ?_
  rintro e w2 ⟨v, rfl, hIX, hx2⟩
  obtain ⟨A, c, rfl, hRX⟩ := hIX.reads
  clear hIX hI
  have hxb := (Ext.refl w2).alloc_right (.cells #[.slice A xs.length c] 37)
  have hb0 := heap_alloc_new w2 (.cells #[.slice A xs.length c] 37)
  have zb : (w2.alloc (.cells #[.slice A xs.length c] 37)).cell? ⟨w2.heap.size, 0, none⟩ = some (.slice A xs.length c) := by rw [Lib.cell_of_heap hb0]; rfl
  replace hRX := hid (hRX.ext hxb)
  have hx := hid (hx2.trans hxb)
  clear hxb hb0 hx2
  go_upto_region 2 with fail
  generalize hb : w2.heap.size = b at *
  generalize w2.alloc (.cells #[.slice A xs.length c] 37) = w3 at *
  replace hb := hid hb
  have lb := World.block_lt_of_cell? _ _ zb
  dsimp only at lb
  go_wp2_with fail
  refine (hck.out _ _ _ _ hRX.out).mono ?_
  rintro e w4 ⟨rfl, hx4⟩
  replace hRX := hid (hRX.out.ext hx4)
  replace hx := hid (hx.out.trans hx4)
  replace zb := hx4.cell zb
  replace lb := Nat.lt_of_lt_of_le lb hx4.size
  clear hx4 hck
  go_wp2_with fail
  refine (hL.out _ hx.out).mono ?_
  rintro e w5 ⟨rfl, hx5⟩
  replace hRX := hid (hRX.out.ext hx5)
  replace hx := hid (hx.out.trans hx5)
  replace zb := hx5.cell zb
  replace lb := Nat.lt_of_lt_of_le lb hx5.size
  clear hx5 hL
  go_wp2_with fail
  refine (hrl.out _ hx.out).mono ?_
  rintro e w5' ⟨rfl, rfl⟩
  clear hrl
  go_wp2_with fail
  refine (hen.out _ _ _ _ hRX.out).mono ?_
  rintro e w6 ⟨K1, k1, K2, k2, rfl, hk1, hk2, hx6, -, -⟩
  replace hx := hid (hx.out.trans hx6)
  obtain ⟨A1, c1, A2, c2, e1, e2, e3⟩ := hRw.out.ext hx.out
  have z0 : w6.cell? ⟨r, 0, none⟩ = some (.slice A1 L.length c1) := by rw [Lib.cell_of_heap e1]; rfl
  have z1 : w6.cell? ⟨r, 1, none⟩ = some (.slice A2 L.length c2) := by rw [Lib.cell_of_heap e1]; rfl
  have lr := (Array.getElem?_eq_some_iff.1 e1).1
  have hT1 := hid (fun w' (hx : Ext w6 w') => sTexts_any K1 L.length k1 A1 c1 _ w' (hk1.ext hx) (e2.ext hx))
  have hT2 := hid (fun w' (hx : Ext w6 w') => sInts_any K2 L.length k2 A2 c2 _ w' (hk2.ext hx) (e3.ext hx))
  clear hx6 hk1 hk2 e1 e2 e3 hen zb lb
  go_wp2_with fail
  refine (hT1.out _ (Ext.refl _)).mono ?_
  rintro e w7 ⟨rfl, hx7⟩
  replace z1 := hx7.cell z1
  replace lr := Nat.lt_of_lt_of_le lr hx7.size
  go_wp2_with fail
  refine (hT2.out _ hx7).mono ?_
  rintro e w8 ⟨rfl, hx8⟩
  go_wp2
  go_ret
  exact ⟨rfl, hx.out.trans (hx7.trans hx8)⟩
end Go.Proofs.Ytpijfiaecicpfaa
