/-
  An index in memory; putting an entry into it; New, Put, all entries of an index, Len.
-/
import Derived.Test.YtpijfiaecicpfaaGreatP4
import Derived.Test.YtpijfiaecicpfaaGreatP1
namespace Go.Proofs.YtpijfiaecicpfaaGreat
open Go.RowKit Go.Shelf
set_option linter.unusedVariables false
set_option linter.unusedSimpArgs false
/-- An entry that may be. -/
def okT (x : Te) : Bool := decide (x.key.size ≤ 100) && (decide (1 ≤ x.no) && decide (x.no ≤ 300))
set_option maxHeartbeats 1000000 in
set_option maxRecDepth 100000 in
theorem isEntry_any (x : Te) (w : World) : Calls Tryz.prog 51 #[.agg #[.string x.key, .int .i64 x.no]] w (Give (.bool (okT x)) w) := by
  unfold okT
  by_cases h1 : x.key.size ≤ 100
  · have d1 : (x.key.size : Int) ≤ 100 := by omega
    by_cases h2 : 1 ≤ x.no
    · by_cases h3 : x.no ≤ 300
      · rw [decide_eq_true h1, decide_eq_true h2, decide_eq_true h3]
        clear h1
        go_enter Tryz.func51, Tryz.ntmps51
        go_wp2
        go_ret
        exact ⟨rfl, (Ext.refl w).alloc_right _⟩
      · rw [decide_eq_true h1, decide_eq_true h2, decide_eq_false h3]
        clear h1
        go_enter Tryz.func51, Tryz.ntmps51
        go_wp2
        go_ret
        exact ⟨rfl, (Ext.refl w).alloc_right _⟩
    · rw [decide_eq_true h1, decide_eq_false h2]
      clear h1
      go_enter Tryz.func51, Tryz.ntmps51
      go_wp2
      go_ret
      exact ⟨rfl, (Ext.refl w).alloc_right _⟩
  · have d1 : ¬ (x.key.size : Int) ≤ 100 := by omega
    rw [decide_eq_false h1]
    clear h1
    go_enter Tryz.func51, Tryz.ntmps51
    go_wp2
    go_ret
    exact ⟨rfl, (Ext.refl w).alloc_right _⟩
/-- An index in memory with the entries L. -/
structure TreeAt (lk : Int) (w : World) (t : Nat) (L : List Te) (h p : Nat) (T : BT) (fT : Nat → Nat) : Prop where
  ht : ∃ q, w.heap[t]? = some (.cells #[.int .i32 lk, .int .u32 q, .pointer (some ⟨p, 0, none⟩), .int .i64 L.length] 64 (0, 0))
  tn : TN w h p T fT
  nd : ∀ a, one1 t a + fT a ≤ 1
  sh : Shp h T
  l4 : T.l.length ≤ 4
  l1 : h ≠ 0 → 1 ≤ T.l.length
  fl : flat h T = L
  sr : Srt L
  ok : ∀ e ∈ L, okT e = true
  le : L.length ≤ 10000
def putEr (L : List Te) (x : Te) : Int := if okT x = true then if memT L x = true then 5 else if 1200 ≤ L.length then 3 else 0 else 1
def putLs (L : List Te) (x : Te) : List Te := if putEr L x = 0 then insT L x else L
/-- What a call has made of an index. -/
def TreeTurned (lk : Int) (w w' : World) (t : Nat) (fT : Nat → Nat) (L : List Te) : Prop := ∃ h p T f', TreeAt lk w' t L h p T f' ∧ (∀ a, a < w.heap.size → f' a ≤ fT a) ∧ FR (fun a => one1 t a + fT a) w w'
/-- The same, the tree's height and shape told. -/
def TreeTurnedX (X : Nat × BT) (lk : Int) (w w' : World) (t : Nat) (fT : Nat → Nat) (L : List Te) : Prop := ∃ p f', TreeAt lk w' t L X.1 p X.2 f' ∧ (∀ a, a < w.heap.size → f' a ≤ fT a) ∧ FR (fun a => one1 t a + fT a) w w'
theorem TreeTurnedX.out {X : Nat × BT} {lk : Int} {w w' : World} {t : Nat} {fT : Nat → Nat} {L : List Te} (H : TreeTurnedX X lk w w' t fT L) : TreeTurned lk w w' t fT L := by
  obtain ⟨p, f', h1, h2, h3⟩ := H
  exact ⟨X.1, p, X.2, f', h1, h2, h3⟩
/-- What becomes of a tree where an entry is put in. -/
def putX (h : Nat) (T : BT) (L : List Te) (x : Te) : Nat × BT := if putEr L x = 0 then if 4 < (putT h T x).l.length then (h + 1, splitT [] [T] 0 (putT h T x)) else (h, putT h T x) else (h, T)
theorem TreeAt.ext {lk : Int} {w w' : World} {t h p : Nat} {L : List Te} {T : BT} {fT : Nat → Nat} (H : TreeAt lk w t L h p T fT) (hx : Ext w w') : TreeAt lk w' t L h p T fT := by
  obtain ⟨q, hq⟩ := H.ht
  exact ⟨⟨q, (hx.block (Array.getElem?_eq_some_iff.1 hq).1).trans hq⟩, H.tn.ext hx, H.nd, H.sh, H.l4, H.l1, H.fl, H.sr, H.ok, H.le⟩
theorem TreeAt.same {lk : Int} {w w' : World} {t h p : Nat} {L : List Te} {T : BT} {fT : Nat → Nat} (H : TreeAt lk w t L h p T fT) (hx : Ext w w') : TreeTurned lk w w' t fT L := ⟨h, p, T, fT, H.ext hx, fun _ _ => Nat.le_refl _, FR.of_ext hx⟩
theorem TreeAt.sameX {lk : Int} {w w' : World} {t h p : Nat} {L : List Te} {T : BT} {fT : Nat → Nat} (H : TreeAt lk w t L h p T fT) (hx : Ext w w') : TreeTurnedX (h, T) lk w w' t fT L := ⟨p, fT, H.ext hx, fun _ _ => Nat.le_refl _, FR.of_ext hx⟩
theorem fr_set {w : World} {b j : Nat} {u : Value} : FR (one1 b) w (w.setCell ⟨b, j, none⟩ u) := ⟨rfl, rfl, rfl, by simp, fun k hk h0 => by
  have hne : b ≠ k := fun e => by rw [e, one_self] at h0; cases h0
  simp [World.setCell, Array.getElem?_modify, hne]⟩
theorem TN.setc {w : World} {h p b j : Nat} {T : BT} {f : Nat → Nat} {u : Value} (hT : TN w h p T f) (hb : f b = 0) : TN (w.setCell ⟨b, j, none⟩ u) h p T f := hT.frame fr_set (fun a ha => if_neg (fun e => by rw [e, hb] at ha; cases ha))
theorem tree_set2 {w : World} {t : Nat} {a b c d : Value} (h : w.heap[t]? = some (.cells #[a, b, c, d] 64 (0, 0))) (u : Value) : (w.setCell ⟨t, 2, none⟩ u).heap[t]? = some (.cells #[a, b, u, d] 64 (0, 0)) := by
  simp [World.setCell, Array.getElem?_modify, h]
theorem tree_set3 {w : World} {t : Nat} {a b c d : Value} (h : w.heap[t]? = some (.cells #[a, b, c, d] 64 (0, 0))) (u : Value) : (w.setCell ⟨t, 3, none⟩ u).heap[t]? = some (.cells #[a, b, c, u] 64 (0, 0)) := by
  simp [World.setCell, Array.getElem?_modify, h]
set_option maxRecDepth 100000 in
set_option maxHeartbeats 4000000 in
theorem tputX_any (lk : Int) (t : Nat) (L : List Te) (h p : Nat) (T : BT) (fT : Nat → Nat) (x : Te) (w : World) (H : TreeAt lk w t L h p T fT) : Calls Tryz.prog 47 #[.pointer (some ⟨t, 0, none⟩), .agg #[.string x.key, .int .i64 x.no]] w fun e w' => e = .returned (.int .i64 (putEr L x)) ∧ TreeTurnedX (putX h T L x) lk w w' t fT (putLs L x) := by
  have hsame := hid (fun w' (hx : Ext w w') => H.sameX hx)
  obtain ⟨⟨q, ht0⟩, tn, nd, sh, l4, l1, fl, sr, ok, le⟩ := H
  have hHas := hid (fun w' (hx : Ext w w') => has_any h p T fT w' x (tn.ext hx) sh (by rw [fl]; exact sr) (by omega))
  rw [fl] at hHas
  have ha := heap_alloc_new w (.cells #[.string x.key, .int .i64 x.no] 83)
  have hx1 := hid ((Ext.refl w).alloc_right (.cells #[.string x.key, .int .i64 x.no] 83))
  have z0 : (w.alloc (.cells #[.string x.key, .int .i64 x.no] 83)).cell? ⟨w.heap.size, 0, none⟩ = some (.string x.key) := by rw [Lib.cell_of_heap ha]; rfl
  have z1 : (w.alloc (.cells #[.string x.key, .int .i64 x.no] 83)).cell? ⟨w.heap.size, 1, none⟩ = some (.int .i64 x.no) := by rw [Lib.cell_of_heap ha]; rfl
  have c2 : w.cell? ⟨t, 2, none⟩ = some (.pointer (some ⟨p, 0, none⟩)) := by rw [Lib.cell_of_heap ht0]; rfl
  have c3 : w.cell? ⟨t, 3, none⟩ = some (.int .i64 L.length) := by rw [Lib.cell_of_heap ht0]; rfl
  have zt := hx1.out.cell c2
  have lt0 := World.block_lt_of_cell? _ _ zt
  dsimp only at lt0
  have hft0 : Hid (fT t = 0) := by have := nd t; rw [one_self] at this; unfold Hid; omega
  have hfb0 : Hid (fT w.heap.size = 0) := tn.bound _ (Nat.le_refl _)
  have hE : Hid (putEr L x = if okT x = true then if memT L x = true then 5 else if 1200 ≤ L.length then 3 else 0 else 1) := rfl
  have hLs : Hid (putLs L x = if putEr L x = 0 then insT L x else L) := rfl
  obtain ⟨X, hX⟩ : ∃ X, Hid (X = putX h T L x) := ⟨_, rfl⟩
  rw [← hX.out]
  have hXn : Hid (putEr L x ≠ 0 → X = (h, T)) := fun h1 => hX.out.trans (if_neg h1)
  have hXy : Hid (putEr L x = 0 → X = if 4 < (putT h T x).l.length then (h + 1, splitT [] [T] 0 (putT h T x)) else (h, putT h T x)) := fun h1 => hX.out.trans (if_pos h1)
  clear hX
  generalize putEr L x = er at *
  generalize putLs L x = ls at *
  replace ht0 := hid ht0
  clear ha c2
  go_enter Tryz.func47, Tryz.ntmps47
  go_upto_region 1 with fail
  obtain ⟨b, hb0⟩ : ∃ b, b = w.heap.size := ⟨_, rfl⟩
  rw [← hb0] at z0 z1 hfb0
  simp only [← hb0]
  replace hb0 := hid hb0
  generalize w.alloc (.cells #[.string x.key, .int .i64 x.no] 83) = w1 at *
  go_wp2_with fail
  refine (isEntry_any x w1).mono ?_
  rintro e' w2 ⟨rfl, hx2⟩
  replace z0 := hx2.cell z0
  replace z1 := hx2.cell z1
  replace zt := hx2.cell zt
  replace hx1 := hid (hx1.out.trans hx2)
  have lt2 := World.block_lt_of_cell? _ _ zt
  dsimp only at lt2
  clear hx2
  cases hok : okT x with
  | false =>
    have hE1 : Hid (er = 1) := by unfold Hid; rw [hE.out, hok]; rfl
    have hL1 : Hid (ls = L) := hLs.out.trans (if_neg (by rw [hE1.out]; decide))
    have hX1 := hid (hXn.out (by rw [hE1.out]; decide))
    clear hE hLs hok
    go_wp2
    go_ret
    exact ⟨ret_int hE1.out.symm, by rw [hL1.out, hX1.out]; exact hsame.out _ hx1.out⟩
  | true =>
    go_upto_region 3 with fail
    have I0 : (fun w' : World => w'.cell? ⟨t, 2, none⟩ = some (.pointer (some ⟨p, 0, none⟩)) ∧ w'.cell? ⟨b, 0, none⟩ = some (.string x.key) ∧ w'.cell? ⟨b, 1, none⟩ = some (.int .i64 x.no)) w2.drew := ⟨zt, z0, z1⟩
    refine region_J (fun w' : World => w'.cell? ⟨t, 2, none⟩ = some (.pointer (some ⟨p, 0, none⟩)) ∧ w'.cell? ⟨b, 0, none⟩ = some (.string x.key) ∧ w'.cell? ⟨b, 1, none⟩ = some (.int .i64 x.no)) 7 (by kernel_rfl) ?_
    replace hx1 := hid (hx1.out.drew_right)
    clear zt z0 z1
    generalize w2.drew = w2 at *
    refine J_takeO 0 (v := ?vc0) rfl (by kernel_rfl) (by kernel_rfl) (by kernel_rfl) (by kernel_rfl) (fun _ _ _ h => h) (Or.inl ⟨by rfl, ?yc0⟩) I0 ?rc0
    case yc0 => (intro w hSw; obtain ⟨_, _, _⟩ := hSw; (go_simp; with_reducible rfl))
    simp only [Act.put, List.getElem_toArray, List.getElem_cons_zero, List.getElem_cons_succ, List.setIfInBounds_toArray, List.set_cons_zero, List.set_cons_succ]
    refine J_takeO 1 (v := ?vc1) rfl (by kernel_rfl) (by kernel_rfl) (by kernel_rfl) (by kernel_rfl) (fun _ _ _ h => h) (Or.inl ⟨by rfl, ?yc1⟩) I0 ?rc1
    case yc1 => (intro w hSw; obtain ⟨_, _, _⟩ := hSw; (go_simp; with_reducible rfl))
    simp only [Act.put, List.getElem_toArray, List.getElem_cons_zero, List.getElem_cons_succ, List.setIfInBounds_toArray, List.set_cons_zero, List.set_cons_succ]
    refine J_takeO 2 (v := ?vc2) rfl (by kernel_rfl) (by kernel_rfl) (by kernel_rfl) (by kernel_rfl) (fun _ _ _ h => h) (Or.inl ⟨by rfl, ?yc2⟩) I0 ?rc2
    case yc2 => (intro w hSw; obtain ⟨_, _, _⟩ := hSw; (go_simp; with_reducible rfl))
    simp only [Act.put, List.getElem_toArray, List.getElem_cons_zero, List.getElem_cons_succ, List.setIfInBounds_toArray, List.set_cons_zero, List.set_cons_succ]
    refine J_takeO 3 (v := ?vc3) rfl (by kernel_rfl) (by kernel_rfl) (by kernel_rfl) (by kernel_rfl) (fun _ _ _ h => h) (Or.inl ⟨by rfl, ?yc3⟩) I0 ?rc3
    case yc3 => (intro w hSw; obtain ⟨_, _, _⟩ := hSw; (go_simp; with_reducible rfl))
    simp only [Act.put, List.getElem_toArray, List.getElem_cons_zero, List.getElem_cons_succ, List.setIfInBounds_toArray, List.set_cons_zero, List.set_cons_succ]
    refine J_takeO 4 (v := ?vc4) rfl (by kernel_rfl) (by kernel_rfl) (by kernel_rfl) (by kernel_rfl) (fun _ _ _ h => h) (Or.inl ⟨by rfl, ?yc4⟩) I0 ?rc4
    case yc4 => (intro w hSw; obtain ⟨_, _, _⟩ := hSw; (go_simp; with_reducible rfl))
    simp only [Act.put, List.getElem_toArray, List.getElem_cons_zero, List.getElem_cons_succ, List.setIfInBounds_toArray, List.set_cons_zero, List.set_cons_succ]
    refine J_one 5 rfl (by kernel_rfl) (fun K hK => ?_)
    go_simp
    refine (hHas.out w2 hx1.out).mono ?_
    rintro e' w3 ⟨rfl, hx3⟩
    have I3 : (fun w' : World => w'.cell? ⟨t, 2, none⟩ = some (.pointer (some ⟨p, 0, none⟩)) ∧ w'.cell? ⟨b, 0, none⟩ = some (.string x.key) ∧ w'.cell? ⟨b, 1, none⟩ = some (.int .i64 x.no)) w3 := ⟨hx3.cell I0.1, hx3.cell I0.2.1, hx3.cell I0.2.2⟩
    replace hx1 := hid (hx1.out.trans hx3)
    clear hx3 I0
    refine hK _ _ ⟨fun _ => I3, ?_⟩
    clear hK K
    try simp only [Act.put, List.getElem_toArray, List.getElem_cons_zero, List.getElem_cons_succ, List.setIfInBounds_toArray, List.set_cons_zero, List.set_cons_succ]
    refine J_one 6 rfl (by kernel_rfl) (fun K hK => ?_)
    go_simp
    refine hK _ _ ⟨fun _ => I3, ?_⟩
    clear hK K
    try simp only [Act.put, List.setIfInBounds_toArray, List.set_cons_zero, List.set_cons_succ]
    refine J_done (by kernel_rfl) (OnlyOn.normal ?_)
    cases hmm : memT L x with
    | true =>
      have hE1 : Hid (er = 5) := by unfold Hid; rw [hE.out, hok, hmm]; rfl
      have hL1 : Hid (ls = L) := hLs.out.trans (if_neg (by rw [hE1.out]; decide))
      have hX1 := hid (hXn.out (by rw [hE1.out]; decide))
      clear hE hLs hok hmm I3
      go_wp2
      go_ret
      exact ⟨ret_int hE1.out.symm, by rw [hL1.out, hX1.out]; exact hsame.out _ hx1.out⟩
    | false =>
      have c3' := hx1.out.cell c3
      have lt3 := World.block_lt_of_cell? _ _ I3.1
      dsimp only at lt3
      by_cases hfull : 1200 ≤ L.length
      · have hE1 : Hid (er = 3) := by unfold Hid; rw [hE.out, hok, hmm, if_pos rfl, if_neg (by decide), if_pos hfull]
        have hL1 : Hid (ls = L) := hLs.out.trans (if_neg (by rw [hE1.out]; decide))
        have hX1 := hid (hXn.out (by rw [hE1.out]; decide))
        have d9 : (1200 : Int) ≤ (L.length : Int) := by omega
        clear hE hLs hok hmm I3 hfull
        go_wp2
        go_ret
        exact ⟨ret_int hE1.out.symm, by rw [hL1.out, hX1.out]; exact hsame.out _ hx1.out⟩
      · have hE1 : Hid (er = 0) := by unfold Hid; rw [hE.out, hok, hmm, if_pos rfl, if_neg (by decide), if_neg hfull]
        have hL1 : Hid (ls = insT L x) := hLs.out.trans (if_pos hE1.out)
        have d9 : ¬ (1200 : Int) ≤ (L.length : Int) := by omega
        have hxL : x ∉ L := memT_false.1 hmm
        have hPut := hid (fun w' (hx : Ext w w') => put_any h p T fT w' x (tn.ext hx) (fun a => by have := nd a; omega) sh (by rw [fl]; exact sr) (by rw [fl]; exact hxL) l4)
        have hpo := putT_ok h T x sh (by rw [fl]; exact sr) (by rw [fl]; exact hxL)
        rw [fl] at hpo
        have hX1 := hid (hXy.out hE1.out)
        clear hXy hXn
        generalize putT h T x = T' at *
        obtain ⟨lk', kk⟩ := T'
        replace hX1 : Hid (X = if 4 < lk'.length then (h + 1, splitT [] [T] 0 (.nd lk' kk)) else (h, .nd lk' kk)) := hX1
        have hpo' := hid hpo
        have hT4 : Hid (T.l.length ≤ 4) := l4
        have hsh := hid sh
        have hok2 : Hid (∀ e ∈ insT L x, okT e = true) := fun e he => by
          rcases mem_ins.1 he with rfl | he
          · exact hok
          · exact ok e he
        have hsr2 := hid (srt_ins sr hxL)
        have hle2 : Hid ((insT L x).length ≤ 10000) := by unfold Hid; rw [len_ins]; omega
        have hln2 := hid (len_ins L x)
        clear hE hLs hok hmm hfull hsame hHas hpo sh l4 fl sr ok tn hxL
        go_upto_region 7 with fail
        have I0 : (fun w' : World => w'.cell? ⟨t, 2, none⟩ = some (.pointer (some ⟨p, 0, none⟩)) ∧ w'.cell? ⟨b, 0, none⟩ = some (.string x.key) ∧ w'.cell? ⟨b, 1, none⟩ = some (.int .i64 x.no)) w3.drew := I3
        refine region_J (fun w' : World => w'.cell? ⟨t, 2, none⟩ = some (.pointer (some ⟨p, 0, none⟩)) ∧ w'.cell? ⟨b, 0, none⟩ = some (.string x.key) ∧ w'.cell? ⟨b, 1, none⟩ = some (.int .i64 x.no)) 6 (by kernel_rfl) ?_
        replace hx1 := hid (hx1.out.drew_right)
        clear I3
        generalize w3.drew = w3 at *
        refine J_takeO 0 (v := ?vd0) rfl (by kernel_rfl) (by kernel_rfl) (by kernel_rfl) (by kernel_rfl) (fun _ _ _ h => h) (Or.inl ⟨by rfl, ?yd0⟩) I0 ?rd0
        case yd0 => (intro w hSw; obtain ⟨_, _, _⟩ := hSw; (go_simp; with_reducible rfl))
        simp only [Act.put, List.getElem_toArray, List.getElem_cons_zero, List.getElem_cons_succ, List.setIfInBounds_toArray, List.set_cons_zero, List.set_cons_succ]
        refine J_takeO 1 (v := ?vd1) rfl (by kernel_rfl) (by kernel_rfl) (by kernel_rfl) (by kernel_rfl) (fun _ _ _ h => h) (Or.inl ⟨by rfl, ?yd1⟩) I0 ?rd1
        case yd1 => (intro w hSw; obtain ⟨_, _, _⟩ := hSw; (go_simp; with_reducible rfl))
        simp only [Act.put, List.getElem_toArray, List.getElem_cons_zero, List.getElem_cons_succ, List.setIfInBounds_toArray, List.set_cons_zero, List.set_cons_succ]
        refine J_takeO 2 (v := ?vd2) rfl (by kernel_rfl) (by kernel_rfl) (by kernel_rfl) (by kernel_rfl) (fun _ _ _ h => h) (Or.inl ⟨by rfl, ?yd2⟩) I0 ?rd2
        case yd2 => (intro w hSw; obtain ⟨_, _, _⟩ := hSw; (go_simp; with_reducible rfl))
        simp only [Act.put, List.getElem_toArray, List.getElem_cons_zero, List.getElem_cons_succ, List.setIfInBounds_toArray, List.set_cons_zero, List.set_cons_succ]
        refine J_takeO 3 (v := ?vd3) rfl (by kernel_rfl) (by kernel_rfl) (by kernel_rfl) (by kernel_rfl) (fun _ _ _ h => h) (Or.inl ⟨by rfl, ?yd3⟩) I0 ?rd3
        case yd3 => (intro w hSw; obtain ⟨_, _, _⟩ := hSw; (go_simp; with_reducible rfl))
        simp only [Act.put, List.getElem_toArray, List.getElem_cons_zero, List.getElem_cons_succ, List.setIfInBounds_toArray, List.set_cons_zero, List.set_cons_succ]
        refine J_takeO 4 (v := ?vd4) rfl (by kernel_rfl) (by kernel_rfl) (by kernel_rfl) (by kernel_rfl) (fun _ _ _ h => h) (Or.inl ⟨by rfl, ?yd4⟩) I0 ?rd4
        case yd4 => (intro w hSw; obtain ⟨_, _, _⟩ := hSw; (go_simp; with_reducible rfl))
        simp only [Act.put, List.getElem_toArray, List.getElem_cons_zero, List.getElem_cons_succ, List.setIfInBounds_toArray, List.set_cons_zero, List.set_cons_succ]
        refine J_one 5 rfl (by kernel_rfl) (fun K hK => ?_)
        go_simp
        refine (hPut.out w3 hx1.out).mono ?_
        rintro e' w4 ⟨rfl, ht⟩
        have hft := ht
        obtain ⟨f4, tn4, nd4, le4, fr4⟩ := ht
        have hbc : ∀ (j : Addr) (u : Value), fT j.block = 0 → w3.cell? j = some u → w4.cell? j = some u := fun j u hj hu => by
          rw [World.cell?_of_block (fr4.2.2.2.2 j.block (World.block_lt_of_cell? _ _ hu) hj)]
          exact hu
        have I4 : (fun w' : World => w'.cell? ⟨t, 2, none⟩ = some (.pointer (some ⟨p, 0, none⟩)) ∧ w'.cell? ⟨b, 0, none⟩ = some (.string x.key) ∧ w'.cell? ⟨b, 1, none⟩ = some (.int .i64 x.no)) w4 := ⟨hbc _ _ hft0.out I0.1, hbc _ _ hfb0.out I0.2.1, hbc _ _ hfb0.out I0.2.2⟩
        have ht4 : Hid (w4.heap[t]? = some (.cells #[.int .i32 lk, .int .u32 q, .pointer (some ⟨p, 0, none⟩), .int .i64 L.length] 64 (0, 0))) := by
          have h0 := (hx1.out.block (Array.getElem?_eq_some_iff.1 ht0.out).1).trans ht0.out
          exact (fr4.2.2.2.2 t (Array.getElem?_eq_some_iff.1 h0).1 hft0.out).trans h0
        replace tn4 := hid tn4
        replace nd4 := hid nd4
        have le4' : Hid (∀ a, a < w.heap.size → f4 a ≤ fT a) := fun a ha => le4 a (Nat.lt_of_lt_of_le ha hx1.out.size)
        have fr4' : Hid (FR fT w w4) := (FR.of_ext hx1.out).trans fr4 (fun _ _ h => h)
        clear hft hbc fr4 le4 I0 hPut hx1
        refine hK _ _ ⟨fun _ => I4, ?_⟩
        clear hK K
        try simp only [Act.put, List.getElem_toArray, List.getElem_cons_zero, List.getElem_cons_succ, List.setIfInBounds_toArray, List.set_cons_zero, List.set_cons_succ]
        refine J_done (by kernel_rfl) (OnlyOn.normal ?_)
        obtain ⟨lv, kv, ps, g, u1, u2, u3, u5, u4⟩ := tn4.out.opn
        obtain ⟨A, c, rfl, hr⟩ := own_rd u2
        have hmr := Rd.max hr
        have zr := node_c0 u1
        have zt := I4.1
        have zn : w4.cell? ⟨t, 3, none⟩ = some (.int .i64 L.length) := by rw [Lib.cell_of_heap ht4.out]; rfl
        have zf := Lib.frozen_of_heap ht4.out 3
        have zf2 := Lib.frozen_of_heap ht4.out 2
        have lt4 := (Array.getElem?_eq_some_iff.1 ht4.out).1
        have lp4 := (Array.getElem?_eq_some_iff.1 u1).1
        have hw1 : IntKind.i64.wrap ((L.length : Int) + 1) = ((insT L x).length : Int) := by rw [IntWalk.i64_in _ (by omega), hln2.out]; omega
        have hf4t : Hid (f4 t = 0) := by have := le4'.out t (Array.getElem?_eq_some_iff.1 ht0.out).1; have := hft0.out; unfold Hid; omega
        have hlk := hid (show T.l.length ≤ lk'.length ∧ lk'.length ≤ T.l.length + 1 from hpo'.out.2.2)
        replace u1 := hid u1
        replace u2 := hid u2
        replace u3 := hid u3
        replace u4 := hid u4
        replace u5 := hid u5
        clear hr I4
        by_cases h5 : 4 < lk'.length
        · have d5 : (4 : Int) < (lk'.length : Int) := by omega
          replace hX1 := hid (hX1.out.trans (if_pos h5))
          have hl5 : Hid (lk'.length = 5) := by have := hlk.out; have := hT4.out; unfold Hid; omega
          go_upto_region 10 with fail
          obtain ⟨kb, hkb0⟩ : ∃ u, u = w4.heap.size := ⟨_, rfl⟩
          simp only [← hkb0]
          generalize hr0 : kb + 1 = r at *
          have hpt : t ≠ p := fun e => by have := hf4t.out; rw [u4.out t, ← e, one_self] at this; omega
          have h5s : (w4.setCell ⟨t, 2, none⟩ (.pointer (some ⟨r, 0, none⟩))).heap.size = kb := by rw [hkb0]; simp
          have ht5 := tree_set2 ht4.out (.pointer (some ⟨r, 0, none⟩))
          have tn5 := tn4.out.setc (j := 2) (u := .pointer (some ⟨r, 0, none⟩)) hf4t.out
          have v1 := heap_set_other u1.out hpt 2 (.pointer (some ⟨r, 0, none⟩))
          have v2 := own_set u2.out (fun e => by have := hf4t.out; rw [u4.out t, ob_some e] at this; omega) 2 (.pointer (some ⟨r, 0, none⟩))
          have v3 := own_set u3.out (fun e => by have := hf4t.out; rw [u4.out t, ob_some e] at this; omega) 2 (.pointer (some ⟨r, 0, none⟩))
          have v5 := u5.out.frame (fr_set (b := t) (j := 2) (u := .pointer (some ⟨r, 0, none⟩))) (fun a ha => if_neg (fun e => by have := hf4t.out; rw [u4.out t] at this; rw [e] at ha; omega))
          have fr5 : FR (fun a => one1 t a + fT a) w (w4.setCell ⟨t, 2, none⟩ (.pointer (some ⟨r, 0, none⟩))) := (fr4'.out.mono (fun k _ h0 => by show fT k = 0; omega)).trans (fr_set (b := t)) (fun k _ h0 => by show one1 t k = 0; omega)
          have hsz4 : w.heap.size ≤ kb := by have := fr4'.out.2.2.2.1; omega
          clear tn4 u1 u2 u3 u5 ht4 zt zn zf zf2 zr lt4 lp4 fr4'
          generalize w4.setCell ⟨t, 2, none⟩ (.pointer (some ⟨r, 0, none⟩)) = w5 at *
          have hxk := (Ext.refl w5).alloc_right (.cells #[.pointer (some ⟨p, 0, none⟩)] 51)
          have hkb := heap_alloc_new w5 (.cells #[.pointer (some ⟨p, 0, none⟩)] 51)
          have hxr := (Ext.refl (w5.alloc (.cells #[.pointer (some ⟨p, 0, none⟩)] 51))).alloc_right (.cells #[.slice none 0 0, .slice (some ⟨kb, 0, none⟩) 1 1] 55)
          have hrb := heap_alloc_new (w5.alloc (.cells #[.pointer (some ⟨p, 0, none⟩)] 51)) (.cells #[.slice none 0 0, .slice (some ⟨kb, 0, none⟩) 1 1] 55)
          rw [World.size_alloc, h5s, hr0] at hrb
          rw [h5s] at hkb
          have hx57 := hxk.trans hxr
          have ht7 := (hx57.block (Array.getElem?_eq_some_iff.1 ht5).1).trans ht5
          have hkb7 := (hxr.block (Array.getElem?_eq_some_iff.1 hkb).1).trans hkb
          replace v1 := (hx57.block (Array.getElem?_eq_some_iff.1 v1).1).trans v1
          replace v2 := hx57.own v2
          replace v3 := hx57.own v3
          have b5 : ∀ a, kb ≤ a → f4 a = 0 := fun a ha => tn5.bound a (by omega)
          replace v5 := v5.frame (FR.of_ext (f := fun _ => 0) hx57) (fun _ _ => rfl)
          replace fr5 := fr5.trans (FR.of_ext (f := fun _ => 0) hx57) (fun _ _ _ => rfl)
          clear hxk hxr hkb ht5
          have hokv : ((w5.alloc (.cells #[.pointer (some ⟨p, 0, none⟩)] 51)).alloc (.cells #[.slice none 0 0, .slice (some ⟨kb, 0, none⟩) 1 1] 55)).ownsRow 0 51 1 (.slice (some ⟨kb, 0, none⟩) 1 1) 1 (ptrs [p]) := ⟨rfl, .inr ⟨kb, 1, _, rfl, Nat.zero_le _, hkb7, Nat.le_refl _, by decide, rfl, rfl⟩⟩
          have h7s : ((w5.alloc (.cells #[.pointer (some ⟨p, 0, none⟩)] 51)).alloc (.cells #[.slice none 0 0, .slice (some ⟨kb, 0, none⟩) 1 1] 55)).heap.size = kb + 2 := by simp [h5s]
          generalize (w5.alloc (.cells #[.pointer (some ⟨p, 0, none⟩)] 51)).alloc (.cells #[.slice none 0 0, .slice (some ⟨kb, 0, none⟩) 1 1] 55) = w7 at *
          have zt7 : w7.cell? ⟨t, 2, none⟩ = some (.pointer (some ⟨r, 0, none⟩)) := by rw [Lib.cell_of_heap ht7]; rfl
          have lt7 := (Array.getElem?_eq_some_iff.1 ht7).1
          have lr7 := (Array.getElem?_eq_some_iff.1 hrb).1
          have hnil : ∀ a, ob (.slice none 0 0) a = 0 := fun a => if_neg (fun e => by cases e)
          have hobk : ∀ a, ob (.slice (some ⟨kb, 0, none⟩) 1 1) a = one1 kb a := fun a => by
            unfold ob one1
            by_cases e : a = kb
            · rw [if_pos e, if_pos (by rw [e]; rfl)]
            · rw [if_neg e, if_neg]
              intro e2
              have h9 : kb = a := by simpa [Value.ownBlock] using e2
              exact e h9.symm
          have hsum : Hid (∀ a, one1 r a + ob (.slice none 0 0) a + ob (.slice (some ⟨kb, 0, none⟩) 1 1) a + (0 + (one1 p a + ob (.slice A lk'.length c) a + ob kv a + g a) + 0) ≤ 1) := fun a => by
            have h4 := nd4.out a
            have h40 := u4.out a
            rw [hnil a, hobk a]
            by_cases ha : a < kb
            · rw [show one1 r a = 0 from if_neg (by omega), show one1 kb a = 0 from if_neg (by omega)]; omega
            · have h6 := b5 a (by omega)
              have : one1 r a + one1 kb a ≤ 1 := by unfold one1; split <;> split <;> omega
              omega
          have hSp := hid (split_any (fun a => one1 r a + ob (.slice none 0 0) a + ob (.slice (some ⟨kb, 0, none⟩) 1 1) a + one1 p a + ob (.slice A lk'.length c) a + ob kv a) r p 0 [] lk' [p] ps _ _ _ _ w7 hrb v1 (World.ownsRow_nil _ _ _ _) hokv (by rw [hl5.out] at v2 ⊢; exact v2) v3 rfl (Nat.le_refl _) (by decide) (by show 1 ≤ 10; decide) hl5.out (by
            have h1 := v5.len
            have h2 := hpo'.out.1
            cases h with
            | zero => left; rw [h1]; have : kk = [] := h2; rw [this]; rfl
            | succ h => right; rw [h1]; have : kk.length = lk'.length + 1 := h2.1; have := hl5.out; omega) (fun a => by have := hsum.out a; omega) (fun _ => rfl))
          replace hnil := hid hnil
          replace hobk := hid hobk
          replace v5 := hid v5
          replace ht7 := hid ht7
          replace fr5 := hid fr5
          have b5' := hid b5
          clear b5 tn5 v1 v2 v3 hrb hkb7 hokv hx57
          go_wp2_with fail
          refine hSp.out.mono ?_
          rintro e' w8 ⟨rfl, r2, lv', kv', lq', kq', lr, kr, tri⟩
          have tri' := hid tri
          have hsz7 : t < w.heap.size := (Array.getElem?_eq_some_iff.1 ht0.out).1
          have hT8 := split_done (w := w7) (w5 := w7) (w6 := w8) (h := h) (p := r) (q := p) (r := r2) (i := 0) (l := []) (lk := lk') (ks := [T]) (kk := kk) (ps := [p]) (pk := ps) (lv := .slice none 0 0) (kv := .slice (some ⟨kb, 0, none⟩) 1 1) (lq := .slice A lk'.length c) (kq := kv) (f := fun a => one1 r a + one1 kb a + f4 a) (g0 := fun _ => 0) (gk := g) (g2 := fun _ => 0) (by show 0 < 1; decide) hl5.out (FR.of_ext (Ext.refl w7)) rfl (fun a _ => by
            have h1 := u4.out a
            rw [hnil.out a, hobk.out a]
            show one1 r a + 0 + one1 kb a + (0 + (one1 p a + ob (.slice A lk'.length c) a + ob kv a + g a) + 0) ≤ one1 r a + one1 kb a + f4 a
            omega) hsum.out (show Ks _ [] [] _ from fun _ => rfl) (show Ks _ [] [] _ from fun _ => rfl) v5.out (fun _ => rfl) tri (Nat.le_refl _)
          clear tri hSp
          obtain ⟨f8, tn8, nd8, le8, fr8⟩ := hT8
          have hT4' : Hid (T.l.length = 4) := by have := hlk.out; have := hT4.out; have := hl5.out; unfold Hid; omega
          have hsp := splitT_ok (h := h) (l := []) (ks := [T]) (i := 0) (K := .nd lk' kk) ⟨rfl, fun k hk => by
            rcases List.mem_cons.1 hk with rfl | hk
            · exact ⟨by rw [hT4'.out]; decide, by rw [hT4'.out]; decide, hsh.out⟩
            · cases hk⟩ (Nat.le_refl _) hpo'.out.1 hl5.out
          have hlt1 : (splitT [] [T] 0 (.nd lk' kk)).l.length = 1 := rfl
          generalize splitT [] [T] 0 (.nd lk' kk) = T8 at *
          have hfl8 : flat (h + 1) T8 = insT L x := by
            rw [hsp.2, hpo'.out.2.1]
            simp [wvp, tlW]
          have hrt : t ≠ r := by omega
          have hkt : t ≠ kb := by omega
          have hF7 : one1 r t + one1 kb t + f4 t = 0 := by rw [show one1 r t = 0 from if_neg hrt, show one1 kb t = 0 from if_neg hkt, hf4t.out]
          have hf8t : Hid (f8 t = 0) := by have h1 : f8 t ≤ one1 r t + one1 kb t + f4 t := le8 t lt7; unfold Hid; omega
          have ht8 := (fr8.2.2.2.2 t lt7 hF7).trans ht7.out
          have lt8 := (Array.getElem?_eq_some_iff.1 ht8).1
          have zn8 : w8.cell? ⟨t, 3, none⟩ = some (.int .i64 L.length) := by rw [Lib.cell_of_heap ht8]; rfl
          have zf8 := Lib.frozen_of_heap ht8 3
          have hfin : Hid (TreeTurnedX X lk w (w8.setCell ⟨t, 3, none⟩ (.int .i64 (insT L x).length)) t fT ls) := by
            rw [hL1.out, hX1.out]
            refine ⟨r, f8, ⟨⟨q, tree_set3 ht8 _⟩, tn8.setc hf8t.out, fun a => ?_, hsp.1, by rw [hlt1]; decide, fun _ => by rw [hlt1]; exact Nat.le_refl _, hfl8, hsr2.out, hok2.out, hle2.out⟩, fun a ha => ?_, ?_⟩
            · by_cases e : a = t
              · rw [e, hf8t.out, one_self]; exact Nat.le_refl _
              · rw [show one1 t a = 0 from if_neg e]; have := nd8 a; omega
            · have h1 := le8 a (by omega)
              have h2 := le4'.out a ha
              have h3 : one1 r a + one1 kb a + f4 a = f4 a := by rw [show one1 r a = 0 from if_neg (by omega), show one1 kb a = 0 from if_neg (by omega)]; omega
              have h4 : f8 a ≤ one1 r a + one1 kb a + f4 a := h1
              omega
            · refine (fr5.out.trans fr8 (fun k hk h0 => ?_)).trans (fr_set (b := t)) (fun k _ h0 => ?_)
              · have h2 := le4'.out k hk
                have h0' : one1 t k + fT k = 0 := h0
                show one1 r k + one1 kb k + f4 k = 0
                rw [show one1 r k = 0 from if_neg (by omega), show one1 kb k = 0 from if_neg (by omega)]; omega
              · have h0' : one1 t k + fT k = 0 := h0
                omega
          clear fr8 le8 nd8 tn8 hsp hfl8 hlt1 hsum hrt hkt hF7 ht8 hsz4 b5' v5
          go_wp2_with fail
          go_ret
          exact ⟨ret_int hE1.out.symm, hfin.out⟩
        · have d5 : ¬ (4 : Int) < (lk'.length : Int) := by omega
          replace hX1 := hid (hX1.out.trans (if_neg h5))
          have hfin : Hid (TreeTurnedX X lk w (w4.setCell ⟨t, 3, none⟩ (.int .i64 (insT L x).length)) t fT ls) := by
            rw [hL1.out, hX1.out]
            refine ⟨p, f4, ⟨⟨q, tree_set3 ht4.out _⟩, tn4.out.setc hf4t.out, fun a => ?_, hpo'.out.1, by show lk'.length ≤ 4; omega, fun h0 => ?_, hpo'.out.2.1, hsr2.out, hok2.out, hle2.out⟩, le4'.out, ?_⟩
            · by_cases e : a = t
              · rw [e, hf4t.out, one_self]; exact Nat.le_refl _
              · rw [show one1 t a = 0 from if_neg e]; have := nd4.out a; omega
            · show 1 ≤ lk'.length
              have := hlk.out.1
              have := l1 h0
              omega
            · exact (fr4'.out.mono (fun k _ h0 => by show fT k = 0; omega)).trans (fr_set (b := t)) (fun k _ h0 => by show one1 t k = 0; omega)
          go_wp2_with fail
          go_ret
          exact ⟨ret_int hE1.out.symm, hfin.out⟩
end Go.Proofs.YtpijfiaecicpfaaGreat

namespace Go.Proofs.YtpijfiaecicpfaaGreat
open Go.RowKit Go.Shelf Go.MuLone
set_option linter.unusedVariables false
set_option linter.unusedSimpArgs false
theorem tree_set0 {w : World} {t : Nat} {a b c d : Value} (h : w.heap[t]? = some (.cells #[a, b, c, d] 64 (0, 0))) (u : Value) : (w.setCell ⟨t, 0, none⟩ u).heap[t]? = some (.cells #[u, b, c, d] 64 (0, 0)) := by
  simp [World.setCell, Array.getElem?_modify, h]
section
variable {lk lk' : Int} {w w' : World} {t h p : Nat} {L : List Te} {T : BT} {fT : Nat → Nat}
theorem TreeAt.ft (H : TreeAt lk w t L h p T fT) : fT t = 0 := by have := H.nd t; rw [one_self] at this; omega
theorem TreeAt.lock (H : TreeAt lk w t L h p T fT) (lk' : Int) : TreeAt lk' (w.setCell ⟨t, 0, none⟩ (.int .i32 lk')) t L h p T fT := by
  obtain ⟨q, hq⟩ := H.ht
  exact ⟨⟨q, tree_set0 hq _⟩, H.tn.setc H.ft, H.nd, H.sh, H.l4, H.l1, H.fl, H.sr, H.ok, H.le⟩
theorem TreeAt.c0 (H : TreeAt lk w t L h p T fT) : w.cell? ⟨t, 0, none⟩ = some (.int .i32 lk) := by obtain ⟨q, hq⟩ := H.ht; rw [Lib.cell_of_heap hq]; rfl
theorem TreeAt.c2 (H : TreeAt lk w t L h p T fT) : w.cell? ⟨t, 2, none⟩ = some (.pointer (some ⟨p, 0, none⟩)) := by obtain ⟨q, hq⟩ := H.ht; rw [Lib.cell_of_heap hq]; rfl
theorem TreeAt.free (H : TreeAt lk w t L h p T fT) (k : Nat) : w.frozen? ⟨t, k, none⟩ = false := by obtain ⟨q, hq⟩ := H.ht; exact Lib.frozen_of_heap hq k
theorem TreeAt.lt (H : TreeAt lk w t L h p T fT) : t < w.heap.size := by obtain ⟨q, hq⟩ := H.ht; exact (Array.getElem?_eq_some_iff.1 hq).1
theorem TreeTurned.unlock {L' : List Te} (H : TreeTurned 1 (w.setCell ⟨t, 0, none⟩ (.int .i32 1)) w' t fT L') : TreeTurned 0 w (w'.setCell ⟨t, 0, none⟩ (.int .i32 0)) t fT L' := by
  obtain ⟨h, p, T, f', H1, H2, H3⟩ := H
  refine ⟨h, p, T, f', H1.lock 0, fun a ha => H2 a (by simpa using ha), ?_⟩
  refine ((fr_set (b := t) (j := 0) (u := .int .i32 1)).mono (fun k _ h0 => ?_)).trans (H3.trans (fr_set (b := t)) (fun k _ h0 => ?_)) (fun k _ h0 => h0)
  · have h1 : one1 t k + fT k = 0 := h0; omega
  · have h1 : one1 t k + fT k = 0 := h0; omega
theorem TreeTurnedX.unlock {X : Nat × BT} {L' : List Te} (H : TreeTurnedX X 1 (w.setCell ⟨t, 0, none⟩ (.int .i32 1)) w' t fT L') : TreeTurnedX X 0 w (w'.setCell ⟨t, 0, none⟩ (.int .i32 0)) t fT L' := by
  obtain ⟨p, f', H1, H2, H3⟩ := H
  refine ⟨p, f', H1.lock 0, fun a ha => H2 a (by simpa using ha), ?_⟩
  refine ((fr_set (b := t) (j := 0) (u := .int .i32 1)).mono (fun k _ h0 => ?_)).trans (H3.trans (fr_set (b := t)) (fun k _ h0 => ?_)) (fun k _ h0 => h0)
  · have h1 : one1 t k + fT k = 0 := h0; omega
  · have h1 : one1 t k + fT k = 0 := h0; omega
theorem Ext.of_FR {f : Nat → Nat} (h : FR f w w') (h0 : ∀ a, a < w.heap.size → f a = 0) : Ext w w' := ⟨h.1.symm, h.2.1.symm, h.2.2.1.symm, h.2.2.2.1, fun k hk => h.2.2.2.2 k hk (h0 k hk)⟩
/-- Locked, read, and unlocked again: nothing has turned. -/
theorem TreeAt.back (H : TreeAt 0 w t L h p T fT) {u : Int} (hx : Ext (w.setCell ⟨t, 0, none⟩ (.int .i32 u)) w') : Ext w (w'.setCell ⟨t, 0, none⟩ (.int .i32 0)) := by
  obtain ⟨q, hq⟩ := H.ht
  have hb := (hx.block (k := t) (by simpa using H.lt)).trans (tree_set0 hq (.int .i32 u))
  refine ⟨hx.os, hx.tape, hx.output, ?_, fun k hk => ?_⟩
  · have := hx.size
    simp at this
    simpa using this
  · by_cases e : k = t
    · subst e
      rw [tree_set0 hb, hq]
    · have hne : t ≠ k := fun h => e h.symm
      rw [show (w'.setCell ⟨t, 0, none⟩ (.int .i32 0)).heap[k]? = w'.heap[k]? by simp [World.setCell, Array.getElem?_modify, hne], hx.block (k := k) (by simpa using hk)]
      simp [World.setCell, Array.getElem?_modify, hne]
end
set_option maxRecDepth 100000 in
set_option maxHeartbeats 4000000 in
theorem New_any (w : World) : Calls Tryz.prog 7 #[] w fun e w' => ∃ t, e = .returned (.pointer (some ⟨t, 0, none⟩)) ∧ w.heap.size ≤ t ∧ Ext w w' ∧ ∃ p fT, TreeAt 0 w' t [] 0 p (.nd [] []) fT ∧ ∀ a, a < w.heap.size → fT a = 0 := by
  have hx := hid (((Ext.refl w).alloc_right (.cells #[.slice none 0 0, .slice none 0 0] 55)).alloc_right (.cells #[.int .i32 0, .int .u32 0, .pointer (some ⟨w.heap.size, 0, none⟩), .int .i64 0] 64))
  have hp0 := heap_alloc_new w (.cells #[.slice none 0 0, .slice none 0 0] 55)
  have ht := heap_alloc_new (w.alloc (.cells #[.slice none 0 0, .slice none 0 0] 55)) (.cells #[.int .i32 0, .int .u32 0, .pointer (some ⟨w.heap.size, 0, none⟩), .int .i64 0] 64)
  have hp := (((Ext.refl (w.alloc (.cells #[.slice none 0 0, .slice none 0 0] 55))).alloc_right (.cells #[.int .i32 0, .int .u32 0, .pointer (some ⟨w.heap.size, 0, none⟩), .int .i64 0] 64)).block (Array.getElem?_eq_some_iff.1 hp0).1).trans hp0
  rw [World.size_alloc] at ht
  have hT : Hid (TreeAt 0 ((w.alloc (.cells #[.slice none 0 0, .slice none 0 0] 55)).alloc (.cells #[.int .i32 0, .int .u32 0, .pointer (some ⟨w.heap.size, 0, none⟩), .int .i64 0] 64)) (w.heap.size + 1) [] 0 w.heap.size (.nd [] []) (one1 w.heap.size)) := by
    have hnil : ∀ a, ob (.slice none 0 0) a = 0 := fun a => if_neg (by intro e; cases e)
    refine ⟨⟨0, ht⟩, ⟨rfl, _, _, hp, World.ownsRow_nil _ _ _ _, World.ownsRow_nil _ _ _ _, fun a => by rw [hnil a]; rfl⟩, fun a => ?_, rfl, Nat.zero_le _, fun h => absurd rfl h, rfl, List.Pairwise.nil, fun e h => (by cases h), Nat.zero_le _⟩
    by_cases e : a = w.heap.size
    · rw [show one1 (w.heap.size + 1) a = 0 from if_neg (by omega), show one1 w.heap.size a = 1 from if_pos e]; omega
    · rw [show one1 w.heap.size a = 0 from if_neg e]; unfold one1; split <;> omega
  clear hp0 ht hp
  go_enter Tryz.func7, Tryz.ntmps7
  go_wp2
  go_ret
  exact ⟨w.heap.size + 1, rfl, by omega, hx.out, w.heap.size, one1 w.heap.size, hT.out, fun a ha => if_neg (by omega)⟩
set_option maxRecDepth 100000 in
set_option maxHeartbeats 4000000 in
theorem PutX_any (t : Nat) (L : List Te) (h p : Nat) (T : BT) (fT : Nat → Nat) (s : ByteArray) (n : Int) (w : World) (H : TreeAt 0 w t L h p T fT) : Calls Tryz.prog 16 #[.pointer (some ⟨t, 0, none⟩), .string s, .int .i64 n] w fun e w' => e = .returned (.int .i64 (putEr L ⟨s, n⟩)) ∧ TreeTurnedX (putX h T L ⟨s, n⟩) 0 w w' t fT (putLs L ⟨s, n⟩) := by
  have c0 := H.c0
  have f0 := H.free 0
  have h1 := hid (H.lock 1)
  have hP := hid (tputX_any 1 t L h p T fT ⟨s, n⟩ _ (H.lock 1))
  generalize putEr L ⟨s, n⟩ = er at *
  generalize putLs L ⟨s, n⟩ = ls at *
  obtain ⟨X, hX⟩ : ∃ X, Hid (X = putX h T L ⟨s, n⟩) := ⟨_, rfl⟩
  rw [← hX.out] at hP ⊢
  clear hX
  go_enter_defers Tryz.func16, Tryz.ntmps16
  go_wp2_with (go_at_call 41; refine (lock_free muLib ⟨t, 0, none⟩ _ c0 f0).mono ?_; rintro e w' ⟨rfl, rfl⟩)
  refine hP.out.mono ?_
  rintro e w2 ⟨rfl, h2⟩
  have h2' := hid h2
  obtain ⟨p', f', H1, -, -⟩ := h2
  have k0 := hid H1.c0
  have kf := hid (H1.free 0)
  clear H1
  go_wp2
  refine leaves_cons (f := 42) (args := #[.pointer (some ⟨t, 0, none⟩)]) (by simp) (by simp [go_sem]) ?_
  refine (unlock_deferred muLib ⟨t, 0, none⟩ .returning _ k0.out kf.out).mono ?_
  rintro e u' w'' ⟨rfl, rfl, rfl⟩
  exact ⟨_, results_tmp rfl _ _ _, rfl, h2'.out.unlock⟩
theorem Put_any (t : Nat) (L : List Te) (h p : Nat) (T : BT) (fT : Nat → Nat) (s : ByteArray) (n : Int) (w : World) (H : TreeAt 0 w t L h p T fT) : Calls Tryz.prog 16 #[.pointer (some ⟨t, 0, none⟩), .string s, .int .i64 n] w fun e w' => e = .returned (.int .i64 (putEr L ⟨s, n⟩)) ∧ TreeTurned 0 w w' t fT (putLs L ⟨s, n⟩) :=
  (PutX_any t L h p T fT s n w H).mono fun _ _ ⟨he, hx⟩ => ⟨he, hx.out⟩
set_option maxRecDepth 100000 in
set_option maxHeartbeats 4000000 in
theorem entries_any (t : Nat) (L : List Te) (h p : Nat) (T : BT) (fT : Nat → Nat) (w : World) (H : TreeAt 0 w t L h p T fT) : Calls Tryz.prog 46 #[.pointer (some ⟨t, 0, none⟩)] w fun e w' => ∃ v, e = .returned v ∧ w'.ownsRow w.heap.size 83 2 v L.length (tents L) ∧ Ext w w' := by
  have c0 := H.c0
  have f0 := H.free 0
  have h1 := hid (H.lock 1)
  have hnil : ∀ a, ob (.slice none 0 0) a = 0 := fun a => if_neg (by intro e; cases e)
  have hA := hid (all_any h p T fT w.heap.size (.slice none 0 0) [] (w.setCell ⟨t, 0, none⟩ (.int .i32 1)) h1.out.tn h1.out.sh.w (fun a ha => by rw [hnil a] at ha; omega) (World.ownsRow_nil _ _ _ _) (by simp) (by rw [h1.out.fl]; have := h1.out.le; show 0 + L.length ≤ 100000; omega))
  rw [h1.out.fl, List.nil_append] at hA
  have hb := hid (fun w' (hx : Ext (w.setCell ⟨t, 0, none⟩ (.int .i32 1)) w') => H.back hx)
  have hlt := hid H.lt
  have c2 := h1.out.c2
  have l1 : t < (w.setCell ⟨t, 0, none⟩ (.int .i32 1)).heap.size := by simpa using H.lt
  replace hnil := hid hnil
  clear H
  go_enter_defers Tryz.func46, Tryz.ntmps46
  go_wp2_with (go_at_call 41; refine (lock_free muLib ⟨t, 0, none⟩ _ c0 f0).mono ?_; rintro e w' ⟨rfl, rfl⟩)
  generalize w.setCell ⟨t, 0, none⟩ (.int .i32 1) = w1 at *
  go_wp2_with fail
  refine hA.out.mono ?_
  rintro e w2 ⟨v, rfl, own2, gr2⟩
  have hx2 := Ext.of_FR gr2.1 (fun a _ => hnil.out a)
  have own2' := hid own2
  have k0 := hid (hx2.cell h1.out.c0)
  have kf : Hid (w2.frozen? ⟨t, 0, none⟩ = false) := (hx2.frozen (p := ⟨t, 0, none⟩) l1).trans (h1.out.free 0)
  have hx3 := hid (hb.out w2 hx2)
  clear own2 gr2 hx2
  go_wp2
  refine leaves_cons (f := 42) (args := #[.pointer (some ⟨t, 0, none⟩)]) (by simp) (by simp [go_sem]) ?_
  refine (unlock_deferred muLib ⟨t, 0, none⟩ .returning _ k0.out kf.out).mono ?_
  rintro e u' w'' ⟨rfl, rfl, rfl⟩
  exact ⟨_, results_tmp rfl _ _ _, _, rfl, own_set own2'.out (fun e => by have := own_freshB own2'.out _ e; have := hlt.out; omega) 0 _, hx3.out⟩
set_option maxRecDepth 100000 in
set_option maxHeartbeats 4000000 in
theorem Len_any (t : Nat) (L : List Te) (h p : Nat) (T : BT) (fT : Nat → Nat) (w : World) (H : TreeAt 0 w t L h p T fT) : Calls Tryz.prog 18 #[.pointer (some ⟨t, 0, none⟩)] w (Give (.int .i64 L.length) w) := by
  have hE := hid (entries_any t L h p T fT w H)
  clear H
  go_enter Tryz.func18, Tryz.ntmps18
  go_wp2_with fail
  refine hE.out.mono ?_
  rintro e w2 ⟨v, rfl, own2, hx⟩
  obtain ⟨A, c, rfl, -⟩ := own_form own2
  clear own2
  go_wp2
  go_ret
  exact ⟨rfl, hx⟩
end Go.Proofs.YtpijfiaecicpfaaGreat

