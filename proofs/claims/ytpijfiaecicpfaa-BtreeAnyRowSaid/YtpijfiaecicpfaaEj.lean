/-
  Places of keys; At, Seek, Prev, Next, between and Count of an index.
-/
import Derived.Test.YtpijfiaecicpfaaBe
import Derived.Test.YtpijfiaecicpfaaBk
import Derived.Test.YtpijfiaecicpfaaDb
namespace Go.Proofs.Ytpijfiaecicpfaa
open Go.RowKit Go.Shelf
set_option linter.unusedVariables false
set_option linter.unusedSimpArgs false
/-! ### Plainly -/
def keyR (l : List Te) (s : ByteArray) : Nat := (l.takeWhile fun x => decide (cmpK x.key s < 0)).length
theorem takeWhile_at {α : Type} (p : α → Bool) : ∀ (l : List α), (l.takeWhile p).length ≤ l.length ∧ (∀ t (h : t < l.length), t < (l.takeWhile p).length → p l[t] = true) ∧ (∀ h : (l.takeWhile p).length < l.length, p l[(l.takeWhile p).length] = false)
  | [] => ⟨Nat.le_refl _, fun t h => absurd h (Nat.not_lt_zero _), fun h => absurd h (Nat.not_lt_zero _)⟩
  | a :: l => by
    obtain ⟨i1, i2, i3⟩ := takeWhile_at p l
    cases h : p a with
    | true =>
      rw [List.takeWhile_cons_of_pos h]
      refine ⟨by simp; omega, fun t ht hlt => ?_, fun hh => ?_⟩
      · cases t with
        | zero => exact h
        | succ t => exact i2 t (by simpa using ht) (by simpa using hlt)
      · exact i3 (by simpa using hh)
    | false =>
      rw [List.takeWhile_cons_of_neg (by rw [h]; decide)]
      exact ⟨Nat.zero_le _, fun t _ ht => absurd ht (Nat.not_lt_zero _), fun _ => h⟩
theorem cmpK_trans {a b c : ByteArray} (h : cmpK a b < 0) (h2 : cmpK b c < 0) : cmpK a c < 0 := cmp_trans h h2
theorem key_mono {x y : Te} {s : ByteArray} (h : cmpT x y < 0) (hx : ¬ cmpK x.key s < 0) : ¬ cmpK y.key s < 0 := by
  intro hy
  unfold cmpT at h
  by_cases h0 : cmpK x.key y.key = 0
  · rw [cmpK_zero.1 h0] at hx
    exact hx hy
  · rw [if_neg h0] at h
    exact hx (cmpK_trans h hy)
theorem keyR_cut {l : List Te} (h : Srt l) (s : ByteArray) : keyR l s ≤ l.length ∧ (∀ t, t < keyR l s → cmpK (tth l t).key s < 0) ∧ (∀ t, keyR l s ≤ t → t < l.length → ¬ cmpK (tth l t).key s < 0) := by
  obtain ⟨h1, h2, h3⟩ := takeWhile_at (fun x : Te => decide (cmpK x.key s < 0)) l
  refine ⟨h1, fun t ht => ?_, fun t ht hl => ?_⟩
  · rw [tth_get (Nat.lt_of_lt_of_le ht h1)]
    exact of_decide_eq_true (h2 t (Nat.lt_of_lt_of_le ht h1) ht)
  · have h0 : ¬ cmpK (tth l (keyR l s)).key s < 0 := by
      have hh : keyR l s < l.length := Nat.lt_of_le_of_lt ht hl
      rw [tth_get hh]
      exact of_decide_eq_false (h3 hh)
    rcases Nat.lt_or_eq_of_le ht with h4 | h4
    · exact key_mono (srt_nth h h4 hl) h0
    · rw [← h4]; exact h0
/-- How many entries are not greater than one. -/
def nextR (l : List Te) (e : Te) : Nat := rankT l e + (if memT l e = true then 1 else 0)
theorem nextR_cut {l : List Te} (h : Srt l) (e : Te) : nextR l e ≤ l.length ∧ (∀ t, t < nextR l e → ¬ 0 < cmpT (tth l t) e) ∧ (∀ t, nextR l e ≤ t → t < l.length → 0 < cmpT (tth l t) e) := by
  obtain ⟨r1, r2, r3⟩ := rank_cut h e
  have r2' : ∀ t, t < rankT l e → cmpT (tth l t) e < 0 := fun t ht => r2 _ (by rw [tth_get (by omega)]; exact List.mem_take_iff_getElem.2 ⟨t, by omega, rfl⟩)
  have r3' : ∀ t, rankT l e ≤ t → t < l.length → ¬ cmpT (tth l t) e < 0 := fun t ht hl => r3 _ (by rw [tth_get hl]; exact List.mem_drop_iff_getElem.2 ⟨t - rankT l e, by omega, by congr 1; omega⟩)
  unfold nextR
  by_cases hm : memT l e = true
  · obtain ⟨a1, a2⟩ := at_rank h (memT_iff.1 hm)
    have a3 : tth l (rankT l e) = e := by
      rw [tth_get a1]
      rw [List.drop_eq_getElem_cons a1] at a2
      exact (List.cons.inj a2).1
    rw [if_pos hm]
    refine ⟨a1, fun t ht => ?_, fun t ht hl => ?_⟩
    · rcases Nat.lt_or_eq_of_le (Nat.lt_succ_iff.1 ht) with h4 | h4
      · have := r2' t h4; omega
      · rw [h4, a3, cmpT_refl]; decide
    · have := srt_nth h (show rankT l e < t by omega) hl
      rw [a3] at this
      rw [cmpT_anti]
      omega
  · rw [if_neg hm, Nat.add_zero]
    refine ⟨r1, fun t ht => by have := r2' t ht; omega, fun t ht hl => ?_⟩
    have h5 := r3' t ht hl
    have h6 : cmpT (tth l t) e ≠ 0 := fun h0 => hm (memT_iff.2 (by rw [← cmpT_zero.1 h0, tth_get hl]; exact List.getElem_mem hl))
    omega
/-- An entry that is told, or none. -/
def TV : Option Te → Value
  | some x => .tuple #[.string x.key, .int .i64 x.no, .bool true]
  | none => .tuple #[.string ⟨#[]⟩, .int .i64 0, .bool false]
def atT (l : List Te) (i : Int) : Option Te := if i < 0 then none else l[i.toNat]?
theorem atT_nat (l : List Te) (k : Nat) : atT l (k : Int) = l[k]? := by unfold atT; rw [if_neg (by omega)]; rfl
/-- The entries between two keys. -/
def endR (L : List Te) (hi : ByteArray) : Nat := if hi = ⟨#[]⟩ then L.length else keyR L hi
def betwT (L : List Te) (lo hi : ByteArray) : List Te := (L.take (endR L hi)).drop (min (keyR L lo) (endR L hi))
/-! ### In the program -/
set_option maxRecDepth 100000 in
set_option maxHeartbeats 4000000 in
theorem told_any (A : Option Addr) (n c : Nat) (l : List Te) (i : Int) (w : World) (hl : RdN w A n c l) : Calls Try.prog 66 #[.slice A n c, .int .i64 i] w (Give (TV (atT l i)) w) := by
  have hlen := hl.len
  by_cases h : i < 0 ∨ (n : Int) ≤ i
  · refine (told_no A n c i w h).mono ?_
    rintro e w' ⟨rfl, rfl⟩
    have : atT l i = none := by
      unfold atT
      rcases h with h | h
      · rw [if_pos h]
      · rw [if_neg (by omega)]
        exact List.getElem?_eq_none (by omega)
    rw [this]
    exact ⟨rfl, Ext.refl _⟩
  · obtain ⟨k, rfl⟩ : ∃ k : Nat, i = k := ⟨i.toNat, by omega⟩
    have hk : k < n := by omega
    obtain ⟨ad, rfl, x0, x1⟩ := hl.at_ hk
    have hmx := Rd.max hl
    have ea : atT l (k : Int) = some (tth l k) := by rw [atT_nat, tth_get (by omega)]; exact List.getElem?_eq_getElem (by omega)
    rw [ea]
    have hki : (k : Int) < (n : Int) := by omega
    have hk0 : ¬ (n : Int) ≤ (k : Int) := by omega
    generalize tth l k = x at *
    clear h hl hlen ea
    show Calls Try.prog _ _ w (Give (.tuple #[.string x.key, .int .i64 x.no, .bool true]) w)
    go_enter Try.func66, Try.ntmps66
    go_upto_region 3 with fail
    go_quiet (fail)
    go_wp2
    go_ret3
    exact ⟨rfl, Ext.drewN _ _⟩
set_option maxRecDepth 100000 in
set_option maxHeartbeats 4000000 in
theorem fromKeyC_any (A : Option Addr) (n c p q k : Nat) (l : List Te) (s : ByteArray) (w : World) (hl : RdN w A n c l) (hk : k < n) (hn : n ≤ 1000000) (hp : w.cell? ⟨p, 0, none⟩ = some (.slice A n c)) (h0 : w.cell? ⟨q, 0, none⟩ = some (.string s)) : Calls Try.prog 101 #[.int .i64 k, .pointer (some ⟨p, 0, none⟩), .pointer (some ⟨q, 0, none⟩)] w (Give (.bool (!decide (cmpK (tth l k).key s < 0))) w) := by
  obtain ⟨ad, rfl, x0, x1⟩ := hl.at_ hk
  have hmx := Rd.max hl
  have hkn : (k : Int) < (n : Int) := by omega
  have hb : Hid (decide (cmpK (tth l k).key s < 0) = Op.bytesLess (tth l k).key.toList s.toList) := by unfold Hid; rw [ByteArray.toList_eq, ByteArray.toList_eq]; exact (less_cmp _ _).symm
  generalize tth l k = x at *
  clear hl
  go_enter Try.func101, Try.ntmps101
  go_upto_region 1 with fail
  go_quiet (fail)
  go_wp2
  go_ret
  exact ⟨by rw [hb.out]; rfl, Ext.drewN _ _⟩
set_option maxRecDepth 100000 in
set_option maxHeartbeats 4000000 in
theorem fromKey_any (A : Option Addr) (n c : Nat) (l : List Te) (s : ByteArray) (w : World) (hl : RdN w A n c l) (hS : Srt l) (hn : n ≤ 1000000) : Calls Try.prog 68 #[.slice A n c, .string s] w (Give (.int .i64 (keyR l s)) w) := by
  have hlen := hl.len
  have hx := hid (((Ext.refl w).alloc_right (.cells #[.slice A n c] 92)).alloc_right (.cells #[.string s] 9))
  have hp0 := heap_alloc_new w (.cells #[.slice A n c] 92)
  have hq := heap_alloc_new (w.alloc (.cells #[.slice A n c] 92)) (.cells #[.string s] 9)
  have hp := (((Ext.refl (w.alloc (.cells #[.slice A n c] 92))).alloc_right (.cells #[.string s] 9)).block (Array.getElem?_eq_some_iff.1 hp0).1).trans hp0
  rw [World.size_alloc] at hq
  obtain ⟨r1, r2, r3⟩ := keyR_cut hS s
  have en : ∀ (x y a : Value) (w : World), (callFunc 101 #[a, x, y]).run Try.prog w = .ok (.enter 101 #[a, x, y]) w := fun x y a w => by kernel_rfl
  have hQ1 : Hid (∀ t, t < keyR l s → (!decide (cmpK (tth l t).key s < 0)) = false) := fun t ht => by rw [decide_eq_true (r2 t ht)]; rfl
  have hQ2 : Hid (∀ t, keyR l s ≤ t → t < n → (!decide (cmpK (tth l t).key s < 0)) = true) := fun t ht htn => by rw [decide_eq_false (r3 t ht (by omega))]; rfl
  have hC : Hid (∀ w1, Ext ((w.alloc (.cells #[.slice A n c] 92)).alloc (.cells #[.string s] 9)) w1 → Calls Try.prog 69 #[.int .i64 n, .func (.func 101) #[] #[.pointer (some ⟨w.heap.size, 0, none⟩), .pointer (some ⟨w.heap.size + 1, 0, none⟩)]] w1 (Give (.int .i64 (keyR l s)) w1)) := fun w1 hx1 => by
    refine search_any n (keyR l s) 101 _ _ (fun t => (!decide (cmpK (tth l t).key s < 0))) w1 hn (by omega) (en _ _) (fun k w' hk hx' => fromKeyC_any A n c _ _ k l s w' (hl.ext (hx.out.trans (hx1.trans hx'))) hk hn ?_ ?_) hQ1 hQ2
    all_goals first
      | exact (hx1.trans hx').cell (by rw [Lib.cell_of_heap hp]; rfl)
      | exact (hx1.trans hx').cell (by rw [Lib.cell_of_heap hq]; rfl)
  have zp : ((w.alloc (.cells #[.slice A n c] 92)).alloc (.cells #[.string s] 9)).cell? ⟨w.heap.size, 0, none⟩ = some (.slice A n c) := by rw [Lib.cell_of_heap hp]; rfl
  have lz := World.block_lt_of_cell? _ _ zp
  dsimp only at lz
  have hmx := Rd.max hl
  generalize keyR l s = r at *
  clear r1 r2 r3 hp hq hp0 hQ1 hQ2 hl hlen hS
  go_enter Try.func68, Try.ntmps68
  go_upto_region 1 with fail
  generalize ((w.alloc (.cells #[.slice A n c] 92)).alloc (.cells #[.string s] 9)) = w1 at *
  go_wp2_with fail
  refine (hC.out _ (Ext.refl _)).mono ?_
  rintro e' w3 ⟨rfl, hx3⟩
  go_wp2
  go_ret
  exact ⟨rfl, hx.out.trans hx3⟩
set_option maxRecDepth 100000 in
set_option maxHeartbeats 4000000 in
theorem At_any (t : Nat) (L : List Te) (h p : Nat) (T : BT) (fT : Nat → Nat) (i : Int) (w : World) (H : TreeAt 0 w t L h p T fT) (o : Option Te) (ho : Hid (o = atT L i)) : Calls Try.prog 31 #[.pointer (some ⟨t, 0, none⟩), .int .i64 i] w (Give (TV o) w) := by
  have hE := hid (entries_any t L h p T fT w H)
  have hsr := hid H.sr
  have hle := hid H.le
  clear H
  go_enter Try.func31, Try.ntmps31
  go_wp2_with fail
  refine hE.out.mono ?_
  rintro e w2 ⟨v, rfl, own2, hx⟩
  obtain ⟨A, c, rfl, -⟩ := own_form own2
  have hrd := hid (show RdN w2 A L.length c L from Rd.of_own own2)
  have hmx := Rd.max hrd.out
  clear own2
  have hT := hid (told_any A L.length c L i w2 hrd.out)
  rw [← ho.out] at hT
  clear ho
  go_wp2_with fail
  refine hT.out.mono ?_
  rintro e w3 ⟨rfl, hx3⟩
  replace hx := hid (hx.trans hx3)
  cases o with
  | none =>
    simp only [TV]
    go_wp2
    go_ret3
    exact ⟨rfl, hx.out⟩
  | some x =>
    simp only [TV]
    go_wp2
    go_ret3
    exact ⟨rfl, hx.out⟩
set_option maxRecDepth 100000 in
set_option maxHeartbeats 4000000 in
theorem Seek_any (t : Nat) (L : List Te) (h p : Nat) (T : BT) (fT : Nat → Nat) (s : ByteArray) (w : World) (H : TreeAt 0 w t L h p T fT) (o : Option Te) (ho : Hid (o = L[keyR L s]?)) : Calls Try.prog 33 #[.pointer (some ⟨t, 0, none⟩), .string s] w (Give (TV o) w) := by
  have hE := hid (entries_any t L h p T fT w H)
  have hsr := hid H.sr
  have hle := hid H.le
  clear H
  go_enter Try.func33, Try.ntmps33
  go_wp2_with fail
  refine hE.out.mono ?_
  rintro e w2 ⟨v, rfl, own2, hx⟩
  obtain ⟨A, c, rfl, -⟩ := own_form own2
  have hrd := hid (show RdN w2 A L.length c L from Rd.of_own own2)
  have hmx := Rd.max hrd.out
  clear own2
  have hF := hid (fromKey_any A L.length c L s w2 hrd.out hsr.out (by have := hle.out; omega))
  have hT := hid (fun w' (hx' : Ext w2 w') => told_any A L.length c L (keyR L s : Nat) w' (hrd.out.ext hx'))
  rw [atT_nat] at hT
  rw [← ho.out] at hT
  clear ho
  generalize keyR L s = r at *
  go_wp2_with fail
  refine hF.out.mono ?_
  rintro e w3 ⟨rfl, hx3⟩
  replace hx := hid (hx.trans hx3)
  replace hx3 := hid hx3
  go_wp2_with fail
  refine (hT.out w3 hx3.out).mono ?_
  rintro e w4 ⟨rfl, hx4⟩
  replace hx := hid (hx.out.trans hx4)
  cases o with
  | none =>
    simp only [TV]
    go_wp2
    go_ret3
    exact ⟨rfl, hx.out⟩
  | some x =>
    simp only [TV]
    go_wp2
    go_ret3
    exact ⟨rfl, hx.out⟩
set_option maxRecDepth 100000 in
set_option maxHeartbeats 4000000 in
theorem Prev_any (t : Nat) (L : List Te) (h p : Nat) (T : BT) (fT : Nat → Nat) (s : ByteArray) (i : Int) (w : World) (H : TreeAt 0 w t L h p T fT) (o : Option Te) (ho : Hid (o = atT L ((rankT L ⟨s, i⟩ : Nat) - 1 : Int))) : Calls Try.prog 35 #[.pointer (some ⟨t, 0, none⟩), .string s, .int .i64 i] w (Give (TV o) w) := by
  have hE := hid (entries_any t L h p T fT w H)
  have hsr := hid H.sr
  have hle := hid H.le
  clear H
  go_enter Try.func35, Try.ntmps35
  go_wp2_with fail
  refine hE.out.mono ?_
  rintro e w2 ⟨v, rfl, own2, hx⟩
  obtain ⟨A, c, rfl, -⟩ := own_form own2
  have hrd := hid (show RdN w2 A L.length c L from Rd.of_own own2)
  have hmx := Rd.max hrd.out
  clear own2
  have hF := hid (from_any A L.length c L ⟨s, i⟩ w2 hrd.out hsr.out (by have := hle.out; omega))
  have hT := hid (fun w' (hx' : Ext w2 w') => told_any A L.length c L ((rankT L ⟨s, i⟩ : Nat) - 1 : Int) w' (hrd.out.ext hx'))
  have hr := (rank_cut hsr.out ⟨s, i⟩).1
  rw [← ho.out] at hT
  clear ho
  generalize rankT L ⟨s, i⟩ = r at *
  have hw1 : IntKind.i64.wrap ((r : Int) - 1) = (r : Int) - 1 := IntWalk.i64_in _ (by have := hle.out; omega)
  have hr10 : r ≤ 10000 := by have := hle.out; omega
  go_wp2_with fail
  refine hF.out.mono ?_
  rintro e w3 ⟨rfl, hx3⟩
  replace hx := hid (hx.trans hx3)
  replace hx3 := hid hx3
  go_wp2_with fail
  refine (hT.out w3 hx3.out).mono ?_
  rintro e w4 ⟨rfl, hx4⟩
  replace hx := hid (hx.out.trans hx4)
  cases o with
  | none =>
    simp only [TV]
    go_wp2
    go_ret3
    exact ⟨rfl, hx.out⟩
  | some x =>
    simp only [TV]
    go_wp2
    go_ret3
    exact ⟨rfl, hx.out⟩
set_option maxRecDepth 100000 in
set_option maxHeartbeats 4000000 in
theorem Next_any (t : Nat) (L : List Te) (h p : Nat) (T : BT) (fT : Nat → Nat) (s : ByteArray) (i : Int) (w : World) (H : TreeAt 0 w t L h p T fT) (o : Option Te) (ho : Hid (o = L[nextR L ⟨s, i⟩]?)) : Calls Try.prog 34 #[.pointer (some ⟨t, 0, none⟩), .string s, .int .i64 i] w (Give (TV o) w) := by
  have hE := hid (entries_any t L h p T fT w H)
  have hsr := hid H.sr
  have hle := hid H.le
  clear H
  go_enter Try.func34, Try.ntmps34
  go_wp2_with fail
  refine hE.out.mono ?_
  rintro e w2 ⟨v, rfl, own2, hx⟩
  obtain ⟨A, c, rfl, -⟩ := own_form own2
  have hrd := hid (show RdN w2 A L.length c L from Rd.of_own own2)
  have hmx := Rd.max hrd.out
  clear own2
  have hp0 := heap_alloc_new w2 (.cells #[.slice A L.length c] 92)
  have hq := heap_alloc_new (w2.alloc (.cells #[.slice A L.length c] 92)) (.cells #[.string s, .int .i64 i] 71)
  have hxa := (Ext.refl w2).alloc_right (.cells #[.slice A L.length c] 92)
  have hxb := (Ext.refl (w2.alloc (.cells #[.slice A L.length c] 92))).alloc_right (.cells #[.string s, .int .i64 i] 71)
  have hp := (hxb.block (Array.getElem?_eq_some_iff.1 hp0).1).trans hp0
  rw [World.size_alloc] at hq
  have zp : ((w2.alloc (.cells #[.slice A L.length c] 92)).alloc (.cells #[.string s, .int .i64 i] 71)).cell? ⟨w2.heap.size, 0, none⟩ = some (.slice A L.length c) := by rw [Lib.cell_of_heap hp]; rfl
  have lz := World.block_lt_of_cell? _ _ zp
  dsimp only at lz
  have hx5 := hid (hxa.trans hxb)
  obtain ⟨r1, r2, r3⟩ := nextR_cut hsr.out ⟨s, i⟩
  have en : ∀ (x y a : Value) (w : World), (callFunc 70 #[a, x, y]).run Try.prog w = .ok (.enter 70 #[a, x, y]) w := fun x y a w => by kernel_rfl
  have hSe : Hid (∀ w1, Ext ((w2.alloc (.cells #[.slice A L.length c] 92)).alloc (.cells #[.string s, .int .i64 i] 71)) w1 → Calls Try.prog 69 #[.int .i64 L.length, .func (.func 70) #[] #[.pointer (some ⟨w2.heap.size, 0, none⟩), .pointer (some ⟨w2.heap.size + 1, 0, none⟩)]] w1 (Give (.int .i64 (nextR L ⟨s, i⟩)) w1)) := fun w1 hx1 => by
    refine search_any L.length (nextR L ⟨s, i⟩) 70 _ _ (fun t => decide (0 < cmpT (tth L t) ⟨s, i⟩)) w1 (by have := hle.out; omega) r1 (en _ _) (fun k w' hk hx' => nextC_any A L.length c _ _ k L ⟨s, i⟩ w' (hrd.out.ext (hx5.out.trans (hx1.trans hx'))) hk (by have := hle.out; omega) ?_ ?_ ?_) (fun t ht => decide_eq_false (r2 t ht)) (fun t ht hl => decide_eq_true (r3 t ht hl))
    all_goals first
      | exact (hx1.trans hx').cell (by rw [Lib.cell_of_heap hp]; rfl)
      | exact (hx1.trans hx').cell (by rw [Lib.cell_of_heap hq]; rfl)
  have hT := hid (fun w' (hx' : Ext w2 w') => told_any A L.length c L (nextR L ⟨s, i⟩ : Nat) w' (hrd.out.ext hx'))
  rw [atT_nat] at hT
  rw [← ho.out] at hT
  clear ho
  generalize nextR L ⟨s, i⟩ = r at *
  replace hx := hid hx
  clear hp hp0 hq hxa hxb r1 r2 r3 en
  go_upto_region 3 with fail
  obtain ⟨b, hbe⟩ : ∃ b, b = w2.heap.size := ⟨_, rfl⟩
  rw [← hbe] at zp lz hSe
  simp only [← hbe]
  clear hbe
  have I0 : (fun w' : World => w'.cell? ⟨b, 0, none⟩ = some (.slice A L.length c)) ((w2.alloc (.cells #[.slice A L.length c] 92)).alloc (.cells #[.string s, .int .i64 i] 71)).drew := zp
  refine region_J (fun w' : World => w'.cell? ⟨b, 0, none⟩ = some (.slice A L.length c)) 12 (by kernel_rfl) ?_
  have hx6 := hid ((Ext.refl ((w2.alloc (.cells #[.slice A L.length c] 92)).alloc (.cells #[.string s, .int .i64 i] 71))).drew_right)
  clear zp
  generalize ((w2.alloc (.cells #[.slice A L.length c] 92)).alloc (.cells #[.string s, .int .i64 i] 71)).drew = w3 at *
  generalize ((w2.alloc (.cells #[.slice A L.length c] 92)).alloc (.cells #[.string s, .int .i64 i] 71)) = w2' at *
  refine J_takeO 0 (v := ?vc0) rfl (by kernel_rfl) (by kernel_rfl) (by kernel_rfl) (by kernel_rfl) (fun _ _ _ h => h) (Or.inl ⟨by rfl, ?yc0⟩) I0 ?rc0
  case yc0 => (intro w hSw; have := hSw; (go_simp; with_reducible rfl))
  simp only [Act.put, List.getElem_toArray, List.getElem_cons_zero, List.getElem_cons_succ, List.setIfInBounds_toArray, List.set_cons_zero, List.set_cons_succ]
  refine J_takeO 1 (v := ?vc1) rfl (by kernel_rfl) (by kernel_rfl) (by kernel_rfl) (by kernel_rfl) (fun _ _ _ h => h) (Or.inl ⟨by rfl, ?yc1⟩) I0 ?rc1
  case yc1 => (intro w hSw; have := hSw; (go_simp; with_reducible rfl))
  simp only [Act.put, List.getElem_toArray, List.getElem_cons_zero, List.getElem_cons_succ, List.setIfInBounds_toArray, List.set_cons_zero, List.set_cons_succ]
  refine J_takeO 2 (v := ?vc2) rfl (by kernel_rfl) (by kernel_rfl) (by kernel_rfl) (by kernel_rfl) (fun _ _ _ h => h) (Or.inl ⟨by rfl, ?yc2⟩) I0 ?rc2
  case yc2 => (intro w hSw; have := hSw; (go_simp; with_reducible rfl))
  simp only [Act.put, List.getElem_toArray, List.getElem_cons_zero, List.getElem_cons_succ, List.setIfInBounds_toArray, List.set_cons_zero, List.set_cons_succ]
  refine J_takeO 3 (v := ?vc3) rfl (by kernel_rfl) (by kernel_rfl) (by kernel_rfl) (by kernel_rfl) (fun _ _ _ h => h) (Or.inl ⟨by rfl, ?yc3⟩) I0 ?rc3
  case yc3 => (intro w hSw; have := hSw; (go_simp; with_reducible rfl))
  simp only [Act.put, List.getElem_toArray, List.getElem_cons_zero, List.getElem_cons_succ, List.setIfInBounds_toArray, List.set_cons_zero, List.set_cons_succ]
  refine J_one 4 rfl (by kernel_rfl) (fun K hK => ?_)
  go_simp
  refine (hSe.out _ hx6.out).mono ?_
  rintro e w4 ⟨rfl, hx4⟩
  have I4 : (fun w' : World => w'.cell? ⟨b, 0, none⟩ = some (.slice A L.length c)) w4 := hx4.cell I0
  have hx8 := hid (hx6.out.trans hx4)
  clear hx4
  refine hK _ _ ⟨fun _ => I4, ?_⟩
  clear hK K
  try simp only [Act.put, List.getElem_toArray, List.getElem_cons_zero, List.getElem_cons_succ, List.setIfInBounds_toArray, List.set_cons_zero, List.set_cons_succ]
  refine J_one 5 rfl (by kernel_rfl) (fun K hK => ?_)
  go_simp
  refine (hT.out _ (hx5.out.trans hx8.out)).mono ?_
  rintro e w5 ⟨rfl, hx9⟩
  have I5 : (fun w' : World => w'.cell? ⟨b, 0, none⟩ = some (.slice A L.length c)) w5 := hx9.cell I4
  have hxa := hid (hx.out.trans (hx5.out.trans (hx8.out.trans hx9)))
  clear hx9
  refine hK _ _ ⟨fun _ => I5, ?_⟩
  clear hK K
  try simp only [Act.put, List.getElem_toArray, List.getElem_cons_zero, List.getElem_cons_succ, List.setIfInBounds_toArray, List.set_cons_zero, List.set_cons_succ]
  cases o with
  | none =>
    simp only [TV]
    refine J_takeO 6 (v := ?vd6) rfl (by kernel_rfl) (by kernel_rfl) (by kernel_rfl) (by kernel_rfl) (fun _ _ _ h => h) (Or.inl ⟨by rfl, ?yd6⟩) I5 ?rd6
    case yd6 => (intro w hSw; have := hSw; (go_simp; with_reducible rfl))
    simp only [Act.put, List.getElem_toArray, List.getElem_cons_zero, List.getElem_cons_succ, List.setIfInBounds_toArray, List.set_cons_zero, List.set_cons_succ]
    refine J_takeO 7 (v := ?vd7) rfl (by kernel_rfl) (by kernel_rfl) (by kernel_rfl) (by kernel_rfl) (fun _ _ _ h => h) (Or.inl ⟨by rfl, ?yd7⟩) I5 ?rd7
    case yd7 => (intro w hSw; have := hSw; (go_simp; with_reducible rfl))
    simp only [Act.put, List.getElem_toArray, List.getElem_cons_zero, List.getElem_cons_succ, List.setIfInBounds_toArray, List.set_cons_zero, List.set_cons_succ]
    refine J_takeO 8 (v := ?vd8) rfl (by kernel_rfl) (by kernel_rfl) (by kernel_rfl) (by kernel_rfl) (fun _ _ _ h => h) (Or.inl ⟨by rfl, ?yd8⟩) I5 ?rd8
    case yd8 => (intro w hSw; have := hSw; (go_simp; with_reducible rfl))
    simp only [Act.put, List.getElem_toArray, List.getElem_cons_zero, List.getElem_cons_succ, List.setIfInBounds_toArray, List.set_cons_zero, List.set_cons_succ]
    refine J_one 9 rfl (by kernel_rfl) (fun K hK => ?_)
    go_simp
    refine hK _ _ ⟨fun _ => I5, ?_⟩
    clear hK K
    try simp only [Act.put, List.setIfInBounds_toArray, List.set_cons_zero, List.set_cons_succ]
    refine J_one 10 rfl (by kernel_rfl) (fun K hK => ?_)
    go_simp
    refine hK _ _ ⟨fun _ => I5, ?_⟩
    clear hK K
    try simp only [Act.put, List.setIfInBounds_toArray, List.set_cons_zero, List.set_cons_succ]
    refine J_one 11 rfl (by kernel_rfl) (fun K hK => ?_)
    go_simp
    refine hK _ _ ⟨fun _ => I5, ?_⟩
    clear hK K
    try simp only [Act.put, List.setIfInBounds_toArray, List.set_cons_zero, List.set_cons_succ]
    refine J_done (by kernel_rfl) (OnlyOn.normal ?_)
    go_wp2
    go_ret3
    exact ⟨rfl, hxa.out⟩
  | some x =>
    simp only [TV]
    refine J_takeO 6 (v := ?ve6) rfl (by kernel_rfl) (by kernel_rfl) (by kernel_rfl) (by kernel_rfl) (fun _ _ _ h => h) (Or.inl ⟨by rfl, ?ye6⟩) I5 ?re6
    case ye6 => (intro w hSw; have := hSw; (go_simp; with_reducible rfl))
    simp only [Act.put, List.getElem_toArray, List.getElem_cons_zero, List.getElem_cons_succ, List.setIfInBounds_toArray, List.set_cons_zero, List.set_cons_succ]
    refine J_takeO 7 (v := ?ve7) rfl (by kernel_rfl) (by kernel_rfl) (by kernel_rfl) (by kernel_rfl) (fun _ _ _ h => h) (Or.inl ⟨by rfl, ?ye7⟩) I5 ?re7
    case ye7 => (intro w hSw; have := hSw; (go_simp; with_reducible rfl))
    simp only [Act.put, List.getElem_toArray, List.getElem_cons_zero, List.getElem_cons_succ, List.setIfInBounds_toArray, List.set_cons_zero, List.set_cons_succ]
    refine J_takeO 8 (v := ?ve8) rfl (by kernel_rfl) (by kernel_rfl) (by kernel_rfl) (by kernel_rfl) (fun _ _ _ h => h) (Or.inl ⟨by rfl, ?ye8⟩) I5 ?re8
    case ye8 => (intro w hSw; have := hSw; (go_simp; with_reducible rfl))
    simp only [Act.put, List.getElem_toArray, List.getElem_cons_zero, List.getElem_cons_succ, List.setIfInBounds_toArray, List.set_cons_zero, List.set_cons_succ]
    refine J_one 9 rfl (by kernel_rfl) (fun K hK => ?_)
    go_simp
    refine hK _ _ ⟨fun _ => I5, ?_⟩
    clear hK K
    try simp only [Act.put, List.setIfInBounds_toArray, List.set_cons_zero, List.set_cons_succ]
    refine J_one 10 rfl (by kernel_rfl) (fun K hK => ?_)
    go_simp
    refine hK _ _ ⟨fun _ => I5, ?_⟩
    clear hK K
    try simp only [Act.put, List.setIfInBounds_toArray, List.set_cons_zero, List.set_cons_succ]
    refine J_one 11 rfl (by kernel_rfl) (fun K hK => ?_)
    go_simp
    refine hK _ _ ⟨fun _ => I5, ?_⟩
    clear hK K
    try simp only [Act.put, List.setIfInBounds_toArray, List.set_cons_zero, List.set_cons_succ]
    refine J_done (by kernel_rfl) (OnlyOn.normal ?_)
    go_wp2
    go_ret3
    exact ⟨rfl, hxa.out⟩
end Go.Proofs.Ytpijfiaecicpfaa
