/-
  Load of both; the law of what is wrong with an index.
-/
import Derived.Test.YtpijfiaecicpfaaCc
namespace Go.Proofs.Ytpijfiaecicpfaa
open Go.RowKit Go.Shelf
set_option linter.unusedVariables false
set_option linter.unusedSimpArgs false
theorem btx_l (xs : List Nx) (h k : Nat) : (btx xs h k).l = ents (xth xs k) := by cases h <;> rfl
theorem btx_shp {xs : List Nx} (hs : shpX xs) (hf : fullP xs) (ok : okP xs.length (allK xs)) : ∀ {h k : Nat}, UD xs h k → Shp h (btx xs h k)
  | 0, k, _ => rfl
  | h + 1, k, a => by
    have s2 := btx_shw hs a
    refine ⟨s2.1, fun K hK => ?_⟩
    obtain ⟨u, hu, rfl⟩ := List.mem_map.1 hK
    have h1 := kd_rng ok hu
    have s3 := shape_is (hs u h1.2)
    have h2 := hf u h1.2
    rw [if_neg (by omega)] at h2
    rw [btx_l, ents_len s3.1]
    exact ⟨h2, s3.2.1, btx_shp hs hf ok (a.2.2 u hu)⟩
/-- What the program's Load gives. -/
def GiveLT (xs : List Nx) (w : World) (e : Ending) (w' : World) : Prop := ∃ v E, e = .returned (.tuple #[v, .int .i64 E]) ∧ Ext w w' ∧ E = chkE xs ∧ (E = 0 → ∃ t h p T fT, v = .pointer (some ⟨t, 0, none⟩) ∧ TreeAt 0 w' t (entX xs) h p T fT ∧ (∀ a, a < w.heap.size → fT a = 0) ∧ w.heap.size ≤ t ∧ (lst h T 0).length ≤ 2400) ∧ (E ≠ 0 → v = .pointer none)
def GiveLR (xs : List Nx) (w : World) (e : Ending) (w' : World) : Prop := ∃ v E, e = .returned (.tuple #[v, .int .i64 E]) ∧ Ext w w' ∧ E = chkE xs ∧ (E = 0 → ∃ r, v = .pointer (some ⟨r, 0, none⟩) ∧ w.heap.size ≤ r ∧ RTr w' r (entX xs)) ∧ (E ≠ 0 → v = .pointer none)
theorem chk_if (xs : List Nx) : chkE xs = 0 ∧ wrongX xs = 0 ∨ chkE xs = 11 := by
  unfold chkE
  by_cases h : wrongX xs = 0
  · exact .inl ⟨if_pos h, h⟩
  · exact .inr (if_neg h)
theorem lt_no {xs : List Nx} {w w' : World} (hx : Ext w w') (h : chkE xs = 11) : GiveLT xs w (.returned (.tuple #[.pointer none, .int .i64 11])) w' := ⟨_, _, rfl, hx, h.symm, fun h => absurd h (by decide), fun _ => rfl⟩
theorem lr_no {xs : List Nx} {w w' : World} (hx : Ext w w') (h : chkE xs = 11) : GiveLR xs w (.returned (.tuple #[.pointer none, .int .i64 11])) w' := ⟨_, _, rfl, hx, h.symm, fun h => absurd h (by decide), fun _ => rfl⟩
set_option maxRecDepth 100000 in
set_option maxHeartbeats 4000000 in
theorem rLoad_any (A : Option Addr) (n c : Nat) (xs : List Nx) (w : World) (hr : RX w A n c xs) : Calls Try.prog 18 #[.agg #[.slice A n c]] w (GiveLR xs w) := by
  have hx1 := (Ext.refl w).alloc_right (.cells #[.slice A n c] 37)
  have hb0 := heap_alloc_new w (.cells #[.slice A n c] 37)
  have zb : (w.alloc (.cells #[.slice A n c] 37)).cell? ⟨w.heap.size, 0, none⟩ = some (.slice A n c) := by rw [Lib.cell_of_heap hb0]; rfl
  have lb := World.block_lt_of_cell? _ _ zb
  dsimp only at lb
  replace hx1 := hid hx1
  clear hb0
  have hck := hid (fun w' (hx : Ext w w') => rCheck_any A n c xs w' (hr.ext hx))
  rcases chk_if xs with ⟨h0, hw0⟩ | h0
  · have hen := hid (fun w' (hx : Ext w w') => rEntriesX_any A n c xs w' (hr.ext hx) hw0)
    rw [h0] at hck
    replace h0 := hid h0
    clear hr hw0
    generalize wrongX xs = W at *
    go_enter Try.func18, Try.ntmps18
    go_upto_region 1 with fail
    obtain ⟨b, hb⟩ : ∃ b, b = w.heap.size := ⟨_, rfl⟩
    rw [← hb] at zb lb
    simp only [← hb]
    replace hb := hid hb
    generalize w.alloc (.cells #[.slice A n c] 37) = w1 at *
    go_wp2_with fail
    refine (hck.out _ hx1.out).mono ?_
    rintro e w2 ⟨rfl, hx2⟩
    replace hx1 := hid (hx1.out.trans hx2)
    replace zb := hx2.cell zb
    replace lb := Nat.lt_of_lt_of_le lb hx2.size
    clear hck hx2
    go_wp2_with fail
    refine (hen.out _ hx1.out).mono ?_
    rintro e w3 ⟨K1, k1, K2, k2, rfl, hk1, hk2, hx3, -, -⟩
    have hxa := (Ext.refl w3).alloc_right (.cells #[.slice K1 (entX xs).length k1, .slice K2 (entX xs).length k2] 76)
    have hfin : Hid (GiveLR xs w (.returned (.tuple #[.pointer (some ⟨w3.heap.size, 0, none⟩), .int .i64 0])) (w3.alloc (.cells #[.slice K1 (entX xs).length k1, .slice K2 (entX xs).length k2] 76))) :=
      ⟨_, _, rfl, hx1.out.trans (hx3.trans hxa), h0.out.symm, fun _ => ⟨w3.heap.size, rfl, Nat.le_trans hx1.out.size hx3.size, K1, k1, K2, k2, heap_alloc_new w3 _, hk1.ext hxa, Rd.ext hk2 hxa⟩, fun h => absurd rfl h⟩
    clear hk1 hk2 hx3 hxa hen
    go_wp2
    go_ret2
    exact hfin.out
  · rw [h0] at hck
    have hfin := hid (fun w' (hx : Ext w w') => lr_no (xs := xs) hx h0)
    clear hr h0
    generalize wrongX xs = W at *
    go_enter Try.func18, Try.ntmps18
    go_wp2_with fail
    refine (hck.out _ hx1.out).mono ?_
    rintro e w2 ⟨rfl, hx2⟩
    go_wp2
    go_ret2
    exact hfin.out _ (hx1.out.trans hx2)
set_option maxRecDepth 100000 in
set_option maxHeartbeats 4000000 in
theorem Load_any (A : Option Addr) (n c : Nat) (xs : List Nx) (w : World) (hr : RX w A n c xs) : Calls Try.prog 17 #[.agg #[.slice A n c]] w (GiveLT xs w) := by
  have hx1 := (Ext.refl w).alloc_right (.cells #[.slice A n c] 37)
  have hb0 := heap_alloc_new w (.cells #[.slice A n c] 37)
  have zb : (w.alloc (.cells #[.slice A n c] 37)).cell? ⟨w.heap.size, 0, none⟩ = some (.slice A n c) := by rw [Lib.cell_of_heap hb0]; rfl
  have lb := World.block_lt_of_cell? _ _ zb
  dsimp only at lb
  replace hx1 := hid hx1
  clear hb0
  have hck := hid (fun w' (hx : Ext w w') => pCheck_any A n c xs w' (hr.ext hx))
  rcases chk_if xs with ⟨h0, hw0⟩ | h0
  · obtain ⟨c1, c1', c2, c3, c4, ⟨hh, hU⟩, c6, c7⟩ := wrong_none.1 hw0
    have hl := hr.len
    have hUT := tree_ut c3 (by omega)
    have hsl := sub_le c3 (by omega) hUT
    have okN := c3.1
    rw [hl] at okN
    have hent : flat hh (btx xs hh 0) = entX xs := by unfold entX; rw [hX_is hU]
    have hMd := hid (fun w' (hx : Ext w w') => made_any n xs okN c2 hh 0 A c w' (hr.ext hx) hU)
    have hEl := entX_len hw0
    have s0 := shape_is (c2 0 (by omega))
    have hshp := btx_shp c2 c4 c3.1 hU
    have hl4 : (btx xs hh 0).l.length ≤ 4 := by rw [btx_l, ents_len s0.1]; exact s0.2.1
    have hl1 : hh ≠ 0 → 1 ≤ (btx xs hh 0).l.length := fun h9 => by
      have h8 := c4 0 (by omega)
      rw [if_pos rfl] at h8
      rw [btx_l, ents_len s0.1]
      have : (xth xs 0).kids.length ≠ 0 := fun e => by
        cases hh with
        | zero => exact h9 rfl
        | succ hh => exact hU.2.1 (List.eq_nil_of_length_eq_zero (by rw [kd_len]; exact e))
      omega
    have hln : (lst hh (btx xs hh 0) 0).length ≤ 2400 := by rw [lst_len hU hUT]; omega
    have hmk := hid (fun (w5 : World) (t p : Nat) (f : Nat → Nat) (q : Nat) (e1 : w5.heap[t]? = some (.cells #[.int .i32 0, .int .u32 q, .pointer (some ⟨p, 0, none⟩), .int .i64 (entX xs).length] 91 (0, 0))) (e2 : TN w5 hh p (btx xs hh 0) f) (e3 : ∀ a, one1 t a + f a ≤ 1) => (⟨⟨q, e1⟩, e2, e3, hshp, hl4, hl1, hent, c7, c6, by omega⟩ : TreeAt 0 w5 t (entX xs) hh p (btx xs hh 0) f))
    have hAl := hid (fun w6 p f (hTN : TN w6 hh p (btx xs hh 0) f) => all_any hh p (btx xs hh 0) f 0 (.slice none 0 0) [] w6 hTN hshp.w (fun a ha => by rw [show ob (.slice none 0 0) a = 0 from if_neg (by intro e; cases e)] at ha; omega) (World.ownsRow_nil _ _ _ _) (Nat.zero_le _) (by rw [List.length_nil, Nat.zero_add, hent]; omega))
    rw [hent] at hAl
    rw [h0] at hck
    replace h0 := hid h0
    replace hln := hid hln
    clear hr hw0 c1 c1' c2 c3 c4 hU c6 c7 hUT hsl okN hent s0 hshp hl4 hl1 hl
    generalize wrongX xs = W at *
    generalize hEX : entX xs = L at *
    replace hEX := hid hEX
    generalize btx xs hh 0 = T at *
    go_enter Try.func17, Try.ntmps17
    go_upto_region 1 with fail
    obtain ⟨b, hb⟩ : ∃ b, b = w.heap.size := ⟨_, rfl⟩
    rw [← hb] at zb lb
    simp only [← hb]
    replace hb := hid hb
    generalize w.alloc (.cells #[.slice A n c] 37) = w1 at *
    go_wp2_with fail
    refine (hck.out _ hx1.out).mono ?_
    rintro e w2 ⟨rfl, hx2⟩
    replace hx1 := hid (hx1.out.trans hx2)
    replace zb := hx2.cell zb
    replace lb := Nat.lt_of_lt_of_le lb hx2.size
    clear hck hx2
    go_wp2_with fail
    refine (hMd.out _ hx1.out).mono ?_
    rintro e w3 ⟨p, f, rfl, hTN, hf1, hf0, hx3⟩
    have hxa := (Ext.refl w3).alloc_right (.cells #[.int .i32 0, .int .u32 0, .pointer (some ⟨p, 0, none⟩), .int .i64 0] 91)
    have hta := heap_alloc_new w3 (.cells #[.int .i32 0, .int .u32 0, .pointer (some ⟨p, 0, none⟩), .int .i64 0] 91)
    have hft : ∀ a, one1 w3.heap.size a + f a ≤ 1 := fun a => by
      by_cases e : a = w3.heap.size
      · rw [e, one_self, TN.bound hTN _ (Nat.le_refl _)]; exact Nat.le_refl _
      · rw [show one1 w3.heap.size a = 0 from if_neg e]; have := hf1 a; omega
    replace hTN := hid (hTN.ext hxa)
    have hx4 := hid (hx1.out.trans (hx3.trans hxa))
    have hx13 := hid (hx1.out.trans hx3)
    have hf00 : Hid (∀ a, a < w.heap.size → f a = 0) := fun a ha => hf0 a (Nat.lt_of_lt_of_le ha hx1.out.size)
    have hwt : Hid (w.heap.size ≤ w3.heap.size) := hx13.out.size
    clear hMd hxa hx3 hf1 hf0 zb lb
    go_upto_region 5 with fail
    generalize w3.heap.size = t at *
    generalize w3.alloc (.cells #[.int .i32 0, .int .u32 0, .pointer (some ⟨p, 0, none⟩), .int .i64 0] 91) = w4 at *
    replace hta := hid hta
    replace hft := hid hft
    have z2 : w4.cell? ⟨t, 2, none⟩ = some (.pointer (some ⟨p, 0, none⟩)) := by rw [Lib.cell_of_heap hta.out]; rfl
    have lt4 := (Array.getElem?_eq_some_iff.1 hta.out).1
    go_wp2_with fail
    refine (hAl.out _ _ _ hTN.out).mono ?_
    rintro e w5 ⟨v, rfl, own5, hG5⟩
    rw [List.nil_append] at own5
    have hx5 : Ext w4 w5 := (Ext.refl w4).trans' hG5.1 (fun a _ => if_neg (by intro e; cases e))
    obtain ⟨Av, cv, rfl, -⟩ := own_form own5
    have ht5 := (hx5.block lt4).trans hta.out
    have lt5 := (Array.getElem?_eq_some_iff.1 ht5).1
    have hz := Lib.frozen_of_heap ht5 3
    have z3 : w5.cell? ⟨t, 3, none⟩ = some (.int .i64 0) := by rw [Lib.cell_of_heap ht5]; rfl
    have hf5 : f t = 0 := by have := hft.out t; rw [one_self] at this; omega
    have hfin : Hid (GiveLT xs w (.returned (.tuple #[.pointer (some ⟨t, 0, none⟩), .int .i64 0])) (w5.setCell ⟨t, 3, none⟩ (.int .i64 L.length))) :=
      ⟨_, _, rfl, (hx4.out.trans hx5).set (p := ⟨t, 3, none⟩) hwt.out _, h0.out.symm, fun _ => ⟨t, hh, p, T, f, rfl, by rw [hEX.out]; exact hmk.out _ t p f 0 (tree_set3 ht5 _) ((hTN.out.ext hx5).setc hf5) hft.out, hf00.out, hwt.out, hln.out⟩, fun h => absurd rfl h⟩
    clear own5 hG5 hx5 ht5 hf5 hTN hft hta hmk hAl z2
    go_wp2
    go_ret2
    exact hfin.out
  · rw [h0] at hck
    have hfin := hid (fun w' (hx : Ext w w') => lt_no (xs := xs) hx h0)
    clear hr h0
    generalize wrongX xs = W at *
    go_enter Try.func17, Try.ntmps17
    go_wp2_with fail
    refine (hck.out _ hx1.out).mono ?_
    rintro e w2 ⟨rfl, hx2⟩
    go_wp2
    go_ret2
    exact hfin.out _ (hx1.out.trans hx2)
def GiveSB (w : World) (e : Ending) (w' : World) : Prop := ∃ b : Bool, e = .returned (.bool b) ∧ Ext w w'
set_option maxRecDepth 100000 in
set_option maxHeartbeats 4000000 in
theorem overIndex_any (A : Option Addr) (n c : Nat) (xs : List Nx) (w : World) (hr : RX w A n c xs) : Calls Try.prog 14 #[.agg #[.slice A n c]] w (GiveSB w) := by
  have hm := RX.max hr
  have hx1 := (Ext.refl w).alloc_right (.cells #[.slice A n c] 37)
  have hb0 := heap_alloc_new w (.cells #[.slice A n c] 37)
  have zb : (w.alloc (.cells #[.slice A n c] 37)).cell? ⟨w.heap.size, 0, none⟩ = some (.slice A n c) := by rw [Lib.cell_of_heap hb0]; rfl
  have lb := World.block_lt_of_cell? _ _ zb
  dsimp only at lb
  replace hx1 := hid hx1
  clear hb0
  replace hr := hid hr
  go_enter Try.func14, Try.ntmps14
  go_upto_region 1 with fail
  obtain ⟨b, hb⟩ : ∃ b, b = w.heap.size := ⟨_, rfl⟩
  rw [← hb] at zb lb
  simp only [← hb]
  replace hb := hid hb
  generalize w.alloc (.cells #[.slice A n c] 37) = w1 at *
  have hcell : Hid (∀ w', Ext w1 w' → w'.cell? ⟨b, 0, none⟩ = some (.slice A n c) ∧ b < w'.heap.size) := fun w' hx => ⟨hx.cell zb, Nat.lt_of_lt_of_le lb hx.size⟩
  go_wp2_with fail
  clear zb lb
  go_loopw [3, 4] (fun z i wr => ∃ (k : Nat) (u : Int), k ≤ n ∧ i = .int .i64 k ∧ z = .int .i64 u ∧ Hid (Ext w1 wr)) (fun _ i _ => n - (intOf i).toNat)
  case atStart => exact ⟨0, _, by omega, rfl, rfl, Ext.refl _⟩
  case round =>
    obtain ⟨k, u, hk, rfl, rfl, hx⟩ := hrel
    obtain ⟨zb, lb⟩ := hcell.out _ hx.out
    by_cases hlt : k < n
    · rename World => w0
      obtain ⟨ad0, A1, c1, A2, c2, A3, c3, rfl, y0, y1, y2, r1, r2, r3⟩ := hr.out.at_ hlt
      have m1 := (Rd.max r1).1
      have hki : (k : Int) < (n : Int) := by omega
      replace r1 := hid r1
      replace y1 := (hx1.out.trans hx.out).cell y1
      replace y2 := (hx1.out.trans hx.out).cell y2
      generalize (xth xs k).recs.length = m2 at *
      generalize (xth xs k).kids.length = m3 at *
      clear r2 r3
      go_upto_region 5 with fail
      have I0 : (fun w' : World => w'.cell? ⟨b, 0, none⟩ = some (.slice (some ad0) n c) ∧ w'.cell? ⟨(ad0.add (k * 3)).block, (ad0.add (k * 3)).off + 1, none⟩ = some (.slice A2 m2 c2) ∧ w'.cell? ⟨(ad0.add (k * 3)).block, (ad0.add (k * 3)).off + 2, none⟩ = some (.slice A3 m3 c3)) w0.drew := ⟨zb, y1, y2⟩
      refine region_J (fun w' : World => w'.cell? ⟨b, 0, none⟩ = some (.slice (some ad0) n c) ∧ w'.cell? ⟨(ad0.add (k * 3)).block, (ad0.add (k * 3)).off + 1, none⟩ = some (.slice A2 m2 c2) ∧ w'.cell? ⟨(ad0.add (k * 3)).block, (ad0.add (k * 3)).off + 2, none⟩ = some (.slice A3 m3 c3)) 18 (by kernel_rfl) ?_
      have hx9 := hid hx.out.drew_right
      clear zb y1 y2 hx
      generalize w0.drew = w9 at *
      refine J_takeO 0 (v := ?vt0) rfl (by kernel_rfl) (by kernel_rfl) (by kernel_rfl) (by kernel_rfl) (fun _ _ _ h => h) (Or.inl ⟨by rfl, ?yt0⟩) I0 ?rt0
      case yt0 => (intro w hSw; obtain ⟨_, _, _⟩ := hSw; (go_simp; with_reducible rfl))
      simp only [Act.put, List.getElem_toArray, List.getElem_cons_zero, List.getElem_cons_succ, List.setIfInBounds_toArray, List.set_cons_zero, List.set_cons_succ]
      refine J_takeO 1 (v := ?vt1) rfl (by kernel_rfl) (by kernel_rfl) (by kernel_rfl) (by kernel_rfl) (fun _ _ _ h => h) (Or.inl ⟨by rfl, ?yt1⟩) I0 ?rt1
      case yt1 => (intro w hSw; obtain ⟨_, _, _⟩ := hSw; (go_simp; with_reducible rfl))
      simp only [Act.put, List.getElem_toArray, List.getElem_cons_zero, List.getElem_cons_succ, List.setIfInBounds_toArray, List.set_cons_zero, List.set_cons_succ]
      refine J_takeO 2 (v := ?vt2) rfl (by kernel_rfl) (by kernel_rfl) (by kernel_rfl) (by kernel_rfl) (fun _ _ _ h => h) (Or.inl ⟨by rfl, ?yt2⟩) I0 ?rt2
      case yt2 => (intro w hSw; obtain ⟨_, _, _⟩ := hSw; (go_simp; with_reducible rfl))
      simp only [Act.put, List.getElem_toArray, List.getElem_cons_zero, List.getElem_cons_succ, List.setIfInBounds_toArray, List.set_cons_zero, List.set_cons_succ]
      refine J_takeO 3 (v := ?vt3) rfl (by kernel_rfl) (by kernel_rfl) (by kernel_rfl) (by kernel_rfl) (fun _ _ _ h => h) (Or.inl ⟨by rfl, ?yt3⟩) I0 ?rt3
      case yt3 => (intro w hSw; obtain ⟨_, _, _⟩ := hSw; (go_simp; with_reducible rfl))
      simp only [Act.put, List.getElem_toArray, List.getElem_cons_zero, List.getElem_cons_succ, List.setIfInBounds_toArray, List.set_cons_zero, List.set_cons_succ]
      refine J_takeO 4 (v := ?vt4) rfl (by kernel_rfl) (by kernel_rfl) (by kernel_rfl) (by kernel_rfl) (fun _ _ _ h => h) (Or.inl ⟨by rfl, ?yt4⟩) I0 ?rt4
      case yt4 => (intro w hSw; obtain ⟨_, _, _⟩ := hSw; (go_simp; with_reducible rfl))
      simp only [Act.put, List.getElem_toArray, List.getElem_cons_zero, List.getElem_cons_succ, List.setIfInBounds_toArray, List.set_cons_zero, List.set_cons_succ]
      refine J_takeO 5 (v := ?vt5) rfl (by kernel_rfl) (by kernel_rfl) (by kernel_rfl) (by kernel_rfl) (fun _ _ _ h => h) (Or.inl ⟨by rfl, ?yt5⟩) I0 ?rt5
      case yt5 => (intro w hSw; obtain ⟨_, _, _⟩ := hSw; (go_simp; with_reducible rfl))
      simp only [Act.put, List.getElem_toArray, List.getElem_cons_zero, List.getElem_cons_succ, List.setIfInBounds_toArray, List.set_cons_zero, List.set_cons_succ]
      refine J_takeO 6 (v := ?vt6) rfl (by kernel_rfl) (by kernel_rfl) (by kernel_rfl) (by kernel_rfl) (fun _ _ _ h => h) (Or.inl ⟨by rfl, ?yt6⟩) I0 ?rt6
      case yt6 => (intro w hSw; obtain ⟨_, _, _⟩ := hSw; (go_simp; with_reducible rfl))
      simp only [Act.put, List.getElem_toArray, List.getElem_cons_zero, List.getElem_cons_succ, List.setIfInBounds_toArray, List.set_cons_zero, List.set_cons_succ]
      refine J_takeO 7 (v := ?vt7) rfl (by kernel_rfl) (by kernel_rfl) (by kernel_rfl) (by kernel_rfl) (fun _ _ _ h => h) (Or.inl ⟨by rfl, ?yt7⟩) I0 ?rt7
      case yt7 => (intro w hSw; obtain ⟨_, _, _⟩ := hSw; (go_simp; with_reducible rfl))
      simp only [Act.put, List.getElem_toArray, List.getElem_cons_zero, List.getElem_cons_succ, List.setIfInBounds_toArray, List.set_cons_zero, List.set_cons_succ]
      refine J_takeO 8 (v := ?vt8) rfl (by kernel_rfl) (by kernel_rfl) (by kernel_rfl) (by kernel_rfl) (fun _ _ _ h => h) (Or.inl ⟨by rfl, ?yt8⟩) I0 ?rt8
      case yt8 => (intro w hSw; obtain ⟨_, _, _⟩ := hSw; (go_simp; with_reducible rfl))
      simp only [Act.put, List.getElem_toArray, List.getElem_cons_zero, List.getElem_cons_succ, List.setIfInBounds_toArray, List.set_cons_zero, List.set_cons_succ]
      refine J_takeO 9 (v := ?vt9) rfl (by kernel_rfl) (by kernel_rfl) (by kernel_rfl) (by kernel_rfl) (fun _ _ _ h => h) (Or.inl ⟨by rfl, ?yt9⟩) I0 ?rt9
      case yt9 => (intro w hSw; obtain ⟨_, _, _⟩ := hSw; (go_simp; with_reducible rfl))
      simp only [Act.put, List.getElem_toArray, List.getElem_cons_zero, List.getElem_cons_succ, List.setIfInBounds_toArray, List.set_cons_zero, List.set_cons_succ]
      refine J_takeO 10 (v := ?vt10) rfl (by kernel_rfl) (by kernel_rfl) (by kernel_rfl) (by kernel_rfl) (fun _ _ _ h => h) (Or.inl ⟨by rfl, ?yt10⟩) I0 ?rt10
      case yt10 => (intro w hSw; obtain ⟨_, _, _⟩ := hSw; (go_simp; with_reducible rfl))
      simp only [Act.put, List.getElem_toArray, List.getElem_cons_zero, List.getElem_cons_succ, List.setIfInBounds_toArray, List.set_cons_zero, List.set_cons_succ]
      refine J_takeO 11 (v := ?vt11) rfl (by kernel_rfl) (by kernel_rfl) (by kernel_rfl) (by kernel_rfl) (fun _ _ _ h => h) (Or.inl ⟨by rfl, ?yt11⟩) I0 ?rt11
      case yt11 => (intro w hSw; obtain ⟨_, _, _⟩ := hSw; (go_simp; with_reducible rfl))
      simp only [Act.put, List.getElem_toArray, List.getElem_cons_zero, List.getElem_cons_succ, List.setIfInBounds_toArray, List.set_cons_zero, List.set_cons_succ]
      refine J_takeO 12 (v := ?vt12) rfl (by kernel_rfl) (by kernel_rfl) (by kernel_rfl) (by kernel_rfl) (fun _ _ _ h => h) (Or.inl ⟨by rfl, ?yt12⟩) I0 ?rt12
      case yt12 => (intro w hSw; obtain ⟨_, _, _⟩ := hSw; (go_simp; with_reducible rfl))
      simp only [Act.put, List.getElem_toArray, List.getElem_cons_zero, List.getElem_cons_succ, List.setIfInBounds_toArray, List.set_cons_zero, List.set_cons_succ]
      refine J_takeO 13 (v := ?vt13) rfl (by kernel_rfl) (by kernel_rfl) (by kernel_rfl) (by kernel_rfl) (fun _ _ _ h => h) (Or.inl ⟨by rfl, ?yt13⟩) I0 ?rt13
      case yt13 => (intro w hSw; obtain ⟨_, _, _⟩ := hSw; (go_simp; with_reducible rfl))
      simp only [Act.put, List.getElem_toArray, List.getElem_cons_zero, List.getElem_cons_succ, List.setIfInBounds_toArray, List.set_cons_zero, List.set_cons_succ]
      refine J_takeO 14 (v := ?vt14) rfl (by kernel_rfl) (by kernel_rfl) (by kernel_rfl) (by kernel_rfl) (fun _ _ _ h => h) (Or.inl ⟨by rfl, ?yt14⟩) I0 ?rt14
      case yt14 => (intro w hSw; obtain ⟨_, _, _⟩ := hSw; (go_simp; with_reducible rfl))
      simp only [Act.put, List.getElem_toArray, List.getElem_cons_zero, List.getElem_cons_succ, List.setIfInBounds_toArray, List.set_cons_zero, List.set_cons_succ]
      refine J_takeO 15 (v := ?vt15) rfl (by kernel_rfl) (by kernel_rfl) (by kernel_rfl) (by kernel_rfl) (fun _ _ _ h => h) (Or.inl ⟨by rfl, ?yt15⟩) I0 ?rt15
      case yt15 => (intro w hSw; obtain ⟨_, _, _⟩ := hSw; (go_simp; with_reducible rfl))
      simp only [Act.put, List.getElem_toArray, List.getElem_cons_zero, List.getElem_cons_succ, List.setIfInBounds_toArray, List.set_cons_zero, List.set_cons_succ]
      refine J_takeO 16 (v := ?vt16) rfl (by kernel_rfl) (by kernel_rfl) (by kernel_rfl) (by kernel_rfl) (fun _ _ _ h => h) (Or.inl ⟨by rfl, ?yt16⟩) I0 ?rt16
      case yt16 => (intro w hSw; obtain ⟨_, _, _⟩ := hSw; (go_simp; with_reducible rfl))
      simp only [Act.put, List.getElem_toArray, List.getElem_cons_zero, List.getElem_cons_succ, List.setIfInBounds_toArray, List.set_cons_zero, List.set_cons_succ]
      refine J_one 17 rfl (by kernel_rfl) (fun K hK => ?_)
      go_simp
      refine hK _ _ ⟨fun _ => I0, ?_⟩
      clear hK K
      try simp only [Act.put, List.setIfInBounds_toArray, List.set_cons_zero, List.set_cons_succ]
      refine J_done (by kernel_rfl) (OnlyOn.normal ?_)
      clear I0
      go_wp2_with fail
      go_loopw [3, 5] (fun z i wr => ∃ (q : Nat) (u : Int), q ≤ (xth xs k).keys.length ∧ i = .int .i64 q ∧ z = .int .i64 u ∧ Hid (Ext w1 wr)) (fun _ i _ => (xth xs k).keys.length - (intOf i).toNat)
      case atStart => exact ⟨0, _, by omega, rfl, rfl, hx9⟩
      case round =>
        clear hx9 lb
        obtain ⟨q, u, hq, rfl, rfl, hx⟩ := hrel
        obtain ⟨zb, lb⟩ := hcell.out _ hx.out
        have z0 := (hx1.out.trans hx.out).cell y0
        by_cases hqt : q < (xth xs k).keys.length
        · obtain ⟨kad, rfl, zk⟩ := rds_at (r1.out.ext (hx1.out.trans hx.out)) hqt
          have hqi : (q : Int) < ((xth xs k).keys.length : Int) := by omega
          generalize sth (xth xs k).keys q = s at *
          generalize (xth xs k).keys.length = m at *
          go_wp2
          go_roundw
          case rel => exact ⟨q + 1, _, by omega, by go_num, rfl, hx⟩
          case measure => simp [intOf]; omega
        · obtain rfl : q = (xth xs k).keys.length := by omega
          go_wp2
          go_roundw
          case rel => exact ⟨k + 1, _, by omega, by go_num, rfl, hx⟩
          case measure => simp [intOf]; omega
    · obtain rfl : k = n := by omega
      go_wp2
      go_ret
      exact ⟨_, rfl, hx1.out.trans hx.out⟩
set_option maxRecDepth 100000 in
set_option maxHeartbeats 8000000 in
theorem checks_law (A : Option Addr) (n c : Nat) (xs : List Nx) (w : World) (hr : RX w A n c xs) : Calls Try.prog 4 #[.agg #[.slice A n c]] w (Give (.bool true) w) := by
  have hx1 := (Ext.refl w).alloc_right (.cells #[.slice A n c] 37)
  have hb0 := heap_alloc_new w (.cells #[.slice A n c] 37)
  have zb : (w.alloc (.cells #[.slice A n c] 37)).cell? ⟨w.heap.size, 0, none⟩ = some (.slice A n c) := by rw [Lib.cell_of_heap hb0]; rfl
  have lb := World.block_lt_of_cell? _ _ zb
  dsimp only at lb
  replace hx1 := hid hx1
  clear hb0
  have hO := hid (fun w' (hx : Ext w w') => overIndex_any A n c xs w' (hr.ext hx))
  have hK := hid known_any
  have hp := hid (fun w' (hx : Ext w w') => pCheck_any A n c xs w' (hr.ext hx))
  have hq := hid (fun w' (hx : Ext w w') => rCheck_any A n c xs w' (hr.ext hx))
  have hpl := hid (fun w' (hx : Ext w w') => Load_any A n c xs w' (hr.ext hx))
  have hql := hid (fun w' (hx : Ext w w') => rLoad_any A n c xs w' (hr.ext hx))
  clear hr
  unfold GiveLT at hpl
  unfold GiveLR at hql
  have hE9 := hid (chk_if xs)
  generalize wrongX xs = W at *
  generalize chkE xs = E at *
  generalize entX xs = L at *
  go_enter Try.func4, Try.ntmps4
  go_upto_region 1 with fail
  obtain ⟨b, hb⟩ : ∃ b, b = w.heap.size := ⟨_, rfl⟩
  rw [← hb] at zb lb
  simp only [← hb]
  replace hb := hid hb
  generalize w.alloc (.cells #[.slice A n c] 37) = w1 at *
  go_wp2_with fail
  refine (hO.out _ hx1.out).mono ?_
  rintro e w2 ⟨bb, rfl, hx2⟩
  replace hx1 := hid (hx1.out.trans hx2)
  replace zb := hx2.cell zb
  replace lb := Nat.lt_of_lt_of_le lb hx2.size
  clear hO hx2
  cases bb with
  | true =>
    clear hp hq hpl hql
    go_wp2_with fail
    refine (hK.out _).mono ?_
    rintro e w3 ⟨rfl, hx3⟩
    go_wp2
    go_ret
    exact ⟨rfl, hx1.out.trans hx3⟩
  | false =>
    go_wp2_with fail
    refine (hp.out _ hx1.out).mono ?_
    rintro e w3 ⟨rfl, hx3⟩
    replace hx1 := hid (hx1.out.trans hx3)
    replace zb := hx3.cell zb
    replace lb := Nat.lt_of_lt_of_le lb hx3.size
    clear hp hx3
    go_wp2_with fail
    refine (hq.out _ hx1.out).mono ?_
    rintro e w3 ⟨rfl, hx3⟩
    replace hx1 := hid (hx1.out.trans hx3)
    replace zb := hx3.cell zb
    replace lb := Nat.lt_of_lt_of_le lb hx3.size
    clear hq hx3
    go_wp2_with fail
    refine (hpl.out _ hx1.out).mono ?_
    rintro e w4 ⟨v, E1, rfl, hx4, he1, ht, hv⟩
    obtain rfl : E1 = E := he1
    have hxw4 := hid (hx1.out.trans hx4)
    replace zb := hx4.cell zb
    replace lb := Nat.lt_of_lt_of_le lb hx4.size
    replace ht := hid ht
    replace hv := hid hv
    clear hpl
    go_wp2_with fail
    refine (hql.out _ hxw4.out).mono ?_
    rintro e w5 ⟨v2, E2, rfl, hx5, he2, hr2, hv2⟩
    obtain rfl : E2 = E1 := he2
    replace hr2 := hid hr2
    replace hv2 := hid hv2
    clear hql zb lb
    rcases hE9.out with ⟨rfl, -⟩ | rfl
    · obtain ⟨t, h, p, T, fT, rfl, hTA, -, -, hln⟩ := ht.out rfl
      obtain ⟨r, rfl, -, hRr⟩ := hr2.out rfl
      have hH := hid (holds_any t L h p T fT r w5 (hTA.ext hx5) hln hRr)
      have hx := hid (hxw4.out.trans hx5)
      clear ht hr2 hv hv2 hTA hRr hln hx4 hx5
      go_wp2_with fail
      refine hH.out.mono ?_
      rintro e w6 ⟨rfl, hx6⟩
      go_wp2_with fail
      refine (hK.out _).mono ?_
      rintro e w7 ⟨rfl, hx7⟩
      go_wp2
      go_ret
      exact ⟨rfl, hx.out.trans (hx6.trans hx7)⟩
    · obtain rfl := hv.out (by decide)
      obtain rfl := hv2.out (by decide)
      have hx := hid (hxw4.out.trans hx5)
      clear ht hr2 hv hv2 hx4 hx5
      go_wp2_with fail
      refine (hK.out _).mono ?_
      rintro e w7 ⟨rfl, hx7⟩
      go_wp2
      go_ret
      exact ⟨rfl, hx.out.trans hx7⟩
end Go.Proofs.Ytpijfiaecicpfaa
