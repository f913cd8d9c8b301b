/-
  sort.Search; the place of an entry, of a key; Rank.
-/
import Derived.Test.YtpijfiaecicpfaaBc
namespace Go.Proofs.Ytpijfiaecicpfaa
open Go.RowKit Go.Shelf
set_option linter.unusedVariables false
set_option linter.unusedSimpArgs false
set_option maxRecDepth 100000 in
set_option maxHeartbeats 4000000 in
theorem search_any (n r fid : Nat) (x y : Value) (Q : Nat → Bool) (w : World) (hn : n ≤ 1000000) (hr : r ≤ n) (en : ∀ (a : Value) (w : World), (callFunc fid #[a, x, y]).run Try.prog w = .ok (.enter fid #[a, x, y]) w)
    (hC : Hid (∀ (k : Nat) (w' : World), k < n → Ext w w' → Calls Try.prog fid #[.int .i64 k, x, y] w' (Give (.bool (Q k)) w'))) (h1 : Hid (∀ t, t < r → Q t = false)) (h2 : Hid (∀ t, r ≤ t → t < n → Q t = true)) : Calls Try.prog 69 #[.int .i64 n, .func (.func fid) #[] #[x, y]] w (Give (.int .i64 r) w) := by
  go_enter Try.func69, Try.ntmps69
  go_wp2_with fail
  go_loopw [5, 6] (fun i j wr => ∃ lo hi : Nat, i = .int .i64 lo ∧ j = .int .i64 hi ∧ lo ≤ r ∧ r ≤ hi ∧ hi ≤ n ∧ Hid (Ext w wr)) (fun i j _ => (intOf j).toNat - (intOf i).toNat)
  case atStart => exact ⟨0, n, rfl, rfl, by omega, by omega, by omega, Ext.refl _⟩
  case round =>
    obtain ⟨lo, hi, rfl, rfl, hle, hri, hhi, hx⟩ := hrel
    by_cases hlt : lo < hi
    · obtain ⟨md, hmd⟩ : ∃ md, md = (lo + hi) / 2 := ⟨_, rfl⟩
      have hm1 : lo ≤ md ∧ md < hi := by omega
      have hms : ((lo : Int) + (hi : Int)) / 2 = (md : Int) := by omega
      have hcl := hid (hC.out md wr (by omega) hx.out)
      by_cases hmr : md < r
      · rw [h1.out md hmr] at hcl
        replace hmd := hid hmd
        go_wp2_with fail
        refine (hcl.out).mono ?_
        rintro e w3 ⟨rfl, hx3⟩
        replace hx := hid (hx.out.trans hx3)
        clear hx3 hcl
        go_wp2_with fail
        go_roundw
        case rel => exact ⟨md + 1, hi, by go_num, rfl, by omega, hri, hhi, hx⟩
        case measure => simp [intOf]; omega
      · rw [h2.out md (by omega) (by omega)] at hcl
        replace hmd := hid hmd
        go_wp2_with fail
        refine (hcl.out).mono ?_
        rintro e w3 ⟨rfl, hx3⟩
        replace hx := hid (hx.out.trans hx3)
        clear hx3 hcl
        go_wp2_with fail
        go_roundw
        case rel => exact ⟨lo, md, rfl, rfl, hle, by omega, by omega, hx⟩
        case measure => simp [intOf]; omega
    · obtain rfl : lo = r := by omega
      obtain rfl : hi = lo := by omega
      go_wp2
      go_ret
      exact ⟨rfl, hx.out⟩
set_option maxRecDepth 100000 in
set_option maxHeartbeats 4000000 in
theorem fromC_any (A : Option Addr) (n c p q k : Nat) (l : List Te) (e : Te) (w : World) (hl : RdN w A n c l) (hk : k < n) (hn : n ≤ 1000000) (hp : w.cell? ⟨p, 0, none⟩ = some (.slice A n c)) (h0 : w.cell? ⟨q, 0, none⟩ = some (.string e.key)) (h1 : w.cell? ⟨q, 1, none⟩ = some (.int .i64 e.no)) : Calls Try.prog 100 #[.int .i64 k, .pointer (some ⟨p, 0, none⟩), .pointer (some ⟨q, 0, none⟩)] w (Give (.bool (decide (0 ≤ cmpT (tth l k) e))) w) := by
  obtain ⟨ad, rfl, x0, x1⟩ := hl.at_ hk
  have hmx := Rd.max hl
  have hkn : (k : Int) < (n : Int) := by omega
  generalize tth l k = x at *
  replace hl := hid hl
  go_enter Try.func100, Try.ntmps100
  go_upto_region 1 with fail
  have I0 : (fun w' : World => w'.cell? ⟨p, 0, none⟩ = some (.slice (some ad) n c) ∧ w'.cell? (ad.add (k * 2)) = some (.string x.key) ∧ w'.cell? ⟨(ad.add (k * 2)).block, (ad.add (k * 2)).off + 1, none⟩ = some (.int .i64 x.no) ∧ w'.cell? ⟨q, 0, none⟩ = some (.string e.key) ∧ w'.cell? ⟨q, 1, none⟩ = some (.int .i64 e.no)) w.drew := ⟨hp, x0, x1, h0, h1⟩
  have hx := hid ((Ext.refl w).drew_right)
  refine region_J (fun w' : World => w'.cell? ⟨p, 0, none⟩ = some (.slice (some ad) n c) ∧ w'.cell? (ad.add (k * 2)) = some (.string x.key) ∧ w'.cell? ⟨(ad.add (k * 2)).block, (ad.add (k * 2)).off + 1, none⟩ = some (.int .i64 x.no) ∧ w'.cell? ⟨q, 0, none⟩ = some (.string e.key) ∧ w'.cell? ⟨q, 1, none⟩ = some (.int .i64 e.no)) 8 (by kernel_rfl) ?_
  clear hp x0 x1 h0 h1
  generalize w.drew = w1 at *
  refine J_takeO 0 (v := ?vc0) rfl (by kernel_rfl) (by kernel_rfl) (by kernel_rfl) (by kernel_rfl) (fun _ _ _ h => h) (Or.inl ⟨by rfl, ?yc0⟩) I0 ?rc0
  case yc0 => (intro w hSw; obtain ⟨_, _, _, _, _⟩ := hSw; (go_simp; with_reducible rfl))
  simp only [Act.put, List.getElem_toArray, List.getElem_cons_zero, List.getElem_cons_succ, List.setIfInBounds_toArray, List.set_cons_zero, List.set_cons_succ]
  refine J_takeO 1 (v := ?vc1) rfl (by kernel_rfl) (by kernel_rfl) (by kernel_rfl) (by kernel_rfl) (fun _ _ _ h => h) (Or.inl ⟨by rfl, ?yc1⟩) I0 ?rc1
  case yc1 => (intro w hSw; obtain ⟨_, _, _, _, _⟩ := hSw; (go_simp; with_reducible rfl))
  simp only [Act.put, List.getElem_toArray, List.getElem_cons_zero, List.getElem_cons_succ, List.setIfInBounds_toArray, List.set_cons_zero, List.set_cons_succ]
  refine J_takeO 2 (v := ?vc2) rfl (by kernel_rfl) (by kernel_rfl) (by kernel_rfl) (by kernel_rfl) (fun _ _ _ h => h) (Or.inl ⟨by rfl, ?yc2⟩) I0 ?rc2
  case yc2 => (intro w hSw; obtain ⟨_, _, _, _, _⟩ := hSw; (go_simp; with_reducible rfl))
  simp only [Act.put, List.getElem_toArray, List.getElem_cons_zero, List.getElem_cons_succ, List.setIfInBounds_toArray, List.set_cons_zero, List.set_cons_succ]
  refine J_takeO 3 (v := ?vc3) rfl (by kernel_rfl) (by kernel_rfl) (by kernel_rfl) (by kernel_rfl) (fun _ _ _ h => h) (Or.inl ⟨by rfl, ?yc3⟩) I0 ?rc3
  case yc3 => (intro w hSw; obtain ⟨_, _, _, _, _⟩ := hSw; (go_simp; with_reducible rfl))
  simp only [Act.put, List.getElem_toArray, List.getElem_cons_zero, List.getElem_cons_succ, List.setIfInBounds_toArray, List.set_cons_zero, List.set_cons_succ]
  refine J_takeO 4 (v := ?vc4) rfl (by kernel_rfl) (by kernel_rfl) (by kernel_rfl) (by kernel_rfl) (fun _ _ _ h => h) (Or.inl ⟨by rfl, ?yc4⟩) I0 ?rc4
  case yc4 => (intro w hSw; obtain ⟨_, _, _, _, _⟩ := hSw; (go_simp; with_reducible rfl))
  simp only [Act.put, List.getElem_toArray, List.getElem_cons_zero, List.getElem_cons_succ, List.setIfInBounds_toArray, List.set_cons_zero, List.set_cons_succ]
  refine J_one 5 rfl (by kernel_rfl) (fun K hK => ?_)
  go_simp
  refine (compare_any x e _ ).mono ?_
  rintro e' w5 ⟨rfl, hx5⟩
  have I5 : (fun w' : World => w'.cell? ⟨p, 0, none⟩ = some (.slice (some ad) n c) ∧ w'.cell? (ad.add (k * 2)) = some (.string x.key) ∧ w'.cell? ⟨(ad.add (k * 2)).block, (ad.add (k * 2)).off + 1, none⟩ = some (.int .i64 x.no) ∧ w'.cell? ⟨q, 0, none⟩ = some (.string e.key) ∧ w'.cell? ⟨q, 1, none⟩ = some (.int .i64 e.no)) w5 := ⟨hx5.cell I0.1, hx5.cell I0.2.1, hx5.cell I0.2.2.1, hx5.cell I0.2.2.2.1, hx5.cell I0.2.2.2.2⟩
  have hx6 := hid (hx.out.trans hx5)
  clear hx5
  refine hK _ _ ⟨fun _ => I5, ?_⟩
  clear hK K
  try simp only [Act.put, List.getElem_toArray, List.getElem_cons_zero, List.getElem_cons_succ, List.setIfInBounds_toArray, List.set_cons_zero, List.set_cons_succ]
  refine J_takeO 6 (v := ?vce6) rfl (by kernel_rfl) (by kernel_rfl) (by kernel_rfl) (by kernel_rfl) (fun _ _ _ h => h) (Or.inl ⟨by rfl, ?yce6⟩) I5 ?rce6
  case yce6 => (intro w hSw; obtain ⟨_, _, _, _, _⟩ := hSw; (go_simp; with_reducible rfl))
  simp only [Act.put, List.getElem_toArray, List.getElem_cons_zero, List.getElem_cons_succ, List.setIfInBounds_toArray, List.set_cons_zero, List.set_cons_succ]
  refine J_one 7 rfl (by kernel_rfl) (fun K hK => ?_)
  go_simp
  refine hK _ _ ⟨fun _ => I5, ?_⟩
  clear hK K
  try simp only [Act.put, List.setIfInBounds_toArray, List.set_cons_zero, List.set_cons_succ]
  refine J_done (by kernel_rfl) (OnlyOn.normal ?_)
  generalize cmpT x e = z at *
  go_wp2
  go_ret
  exact ⟨by first | rfl | (congr 2; simp), hx6.out⟩
set_option maxRecDepth 100000 in
set_option maxHeartbeats 4000000 in
theorem nextC_any (A : Option Addr) (n c p q k : Nat) (l : List Te) (e : Te) (w : World) (hl : RdN w A n c l) (hk : k < n) (hn : n ≤ 1000000) (hp : w.cell? ⟨p, 0, none⟩ = some (.slice A n c)) (h0 : w.cell? ⟨q, 0, none⟩ = some (.string e.key)) (h1 : w.cell? ⟨q, 1, none⟩ = some (.int .i64 e.no)) : Calls Try.prog 70 #[.int .i64 k, .pointer (some ⟨p, 0, none⟩), .pointer (some ⟨q, 0, none⟩)] w (Give (.bool (decide (0 < cmpT (tth l k) e))) w) := by
  obtain ⟨ad, rfl, x0, x1⟩ := hl.at_ hk
  have hmx := Rd.max hl
  have hkn : (k : Int) < (n : Int) := by omega
  generalize tth l k = x at *
  replace hl := hid hl
  go_enter Try.func70, Try.ntmps70
  go_upto_region 1 with fail
  have I0 : (fun w' : World => w'.cell? ⟨p, 0, none⟩ = some (.slice (some ad) n c) ∧ w'.cell? (ad.add (k * 2)) = some (.string x.key) ∧ w'.cell? ⟨(ad.add (k * 2)).block, (ad.add (k * 2)).off + 1, none⟩ = some (.int .i64 x.no) ∧ w'.cell? ⟨q, 0, none⟩ = some (.string e.key) ∧ w'.cell? ⟨q, 1, none⟩ = some (.int .i64 e.no)) w.drew := ⟨hp, x0, x1, h0, h1⟩
  have hx := hid ((Ext.refl w).drew_right)
  refine region_J (fun w' : World => w'.cell? ⟨p, 0, none⟩ = some (.slice (some ad) n c) ∧ w'.cell? (ad.add (k * 2)) = some (.string x.key) ∧ w'.cell? ⟨(ad.add (k * 2)).block, (ad.add (k * 2)).off + 1, none⟩ = some (.int .i64 x.no) ∧ w'.cell? ⟨q, 0, none⟩ = some (.string e.key) ∧ w'.cell? ⟨q, 1, none⟩ = some (.int .i64 e.no)) 8 (by kernel_rfl) ?_
  clear hp x0 x1 h0 h1
  generalize w.drew = w1 at *
  refine J_takeO 0 (v := ?vd0) rfl (by kernel_rfl) (by kernel_rfl) (by kernel_rfl) (by kernel_rfl) (fun _ _ _ h => h) (Or.inl ⟨by rfl, ?yd0⟩) I0 ?rd0
  case yd0 => (intro w hSw; obtain ⟨_, _, _, _, _⟩ := hSw; (go_simp; with_reducible rfl))
  simp only [Act.put, List.getElem_toArray, List.getElem_cons_zero, List.getElem_cons_succ, List.setIfInBounds_toArray, List.set_cons_zero, List.set_cons_succ]
  refine J_takeO 1 (v := ?vd1) rfl (by kernel_rfl) (by kernel_rfl) (by kernel_rfl) (by kernel_rfl) (fun _ _ _ h => h) (Or.inl ⟨by rfl, ?yd1⟩) I0 ?rd1
  case yd1 => (intro w hSw; obtain ⟨_, _, _, _, _⟩ := hSw; (go_simp; with_reducible rfl))
  simp only [Act.put, List.getElem_toArray, List.getElem_cons_zero, List.getElem_cons_succ, List.setIfInBounds_toArray, List.set_cons_zero, List.set_cons_succ]
  refine J_takeO 2 (v := ?vd2) rfl (by kernel_rfl) (by kernel_rfl) (by kernel_rfl) (by kernel_rfl) (fun _ _ _ h => h) (Or.inl ⟨by rfl, ?yd2⟩) I0 ?rd2
  case yd2 => (intro w hSw; obtain ⟨_, _, _, _, _⟩ := hSw; (go_simp; with_reducible rfl))
  simp only [Act.put, List.getElem_toArray, List.getElem_cons_zero, List.getElem_cons_succ, List.setIfInBounds_toArray, List.set_cons_zero, List.set_cons_succ]
  refine J_takeO 3 (v := ?vd3) rfl (by kernel_rfl) (by kernel_rfl) (by kernel_rfl) (by kernel_rfl) (fun _ _ _ h => h) (Or.inl ⟨by rfl, ?yd3⟩) I0 ?rd3
  case yd3 => (intro w hSw; obtain ⟨_, _, _, _, _⟩ := hSw; (go_simp; with_reducible rfl))
  simp only [Act.put, List.getElem_toArray, List.getElem_cons_zero, List.getElem_cons_succ, List.setIfInBounds_toArray, List.set_cons_zero, List.set_cons_succ]
  refine J_takeO 4 (v := ?vd4) rfl (by kernel_rfl) (by kernel_rfl) (by kernel_rfl) (by kernel_rfl) (fun _ _ _ h => h) (Or.inl ⟨by rfl, ?yd4⟩) I0 ?rd4
  case yd4 => (intro w hSw; obtain ⟨_, _, _, _, _⟩ := hSw; (go_simp; with_reducible rfl))
  simp only [Act.put, List.getElem_toArray, List.getElem_cons_zero, List.getElem_cons_succ, List.setIfInBounds_toArray, List.set_cons_zero, List.set_cons_succ]
  refine J_one 5 rfl (by kernel_rfl) (fun K hK => ?_)
  go_simp
  refine (compare_any x e _ ).mono ?_
  rintro e' w5 ⟨rfl, hx5⟩
  have I5 : (fun w' : World => w'.cell? ⟨p, 0, none⟩ = some (.slice (some ad) n c) ∧ w'.cell? (ad.add (k * 2)) = some (.string x.key) ∧ w'.cell? ⟨(ad.add (k * 2)).block, (ad.add (k * 2)).off + 1, none⟩ = some (.int .i64 x.no) ∧ w'.cell? ⟨q, 0, none⟩ = some (.string e.key) ∧ w'.cell? ⟨q, 1, none⟩ = some (.int .i64 e.no)) w5 := ⟨hx5.cell I0.1, hx5.cell I0.2.1, hx5.cell I0.2.2.1, hx5.cell I0.2.2.2.1, hx5.cell I0.2.2.2.2⟩
  have hx6 := hid (hx.out.trans hx5)
  clear hx5
  refine hK _ _ ⟨fun _ => I5, ?_⟩
  clear hK K
  try simp only [Act.put, List.getElem_toArray, List.getElem_cons_zero, List.getElem_cons_succ, List.setIfInBounds_toArray, List.set_cons_zero, List.set_cons_succ]
  refine J_takeO 6 (v := ?vde6) rfl (by kernel_rfl) (by kernel_rfl) (by kernel_rfl) (by kernel_rfl) (fun _ _ _ h => h) (Or.inl ⟨by rfl, ?yde6⟩) I5 ?rde6
  case yde6 => (intro w hSw; obtain ⟨_, _, _, _, _⟩ := hSw; (go_simp; with_reducible rfl))
  simp only [Act.put, List.getElem_toArray, List.getElem_cons_zero, List.getElem_cons_succ, List.setIfInBounds_toArray, List.set_cons_zero, List.set_cons_succ]
  refine J_one 7 rfl (by kernel_rfl) (fun K hK => ?_)
  go_simp
  refine hK _ _ ⟨fun _ => I5, ?_⟩
  clear hK K
  try simp only [Act.put, List.setIfInBounds_toArray, List.set_cons_zero, List.set_cons_succ]
  refine J_done (by kernel_rfl) (OnlyOn.normal ?_)
  generalize cmpT x e = z at *
  go_wp2
  go_ret
  exact ⟨by first | rfl | (congr 2; simp), hx6.out⟩
set_option maxRecDepth 100000 in
set_option maxHeartbeats 4000000 in
theorem from_any (A : Option Addr) (n c : Nat) (l : List Te) (e : Te) (w : World) (hl : RdN w A n c l) (hS : Srt l) (hn : n ≤ 1000000) : Calls Try.prog 67 #[.slice A n c, .agg #[.string e.key, .int .i64 e.no]] w (Give (.int .i64 (rankT l e)) w) := by
  have hlen := hl.len
  have hx := hid (((Ext.refl w).alloc_right (.cells #[.slice A n c] 92)).alloc_right (.cells #[.string e.key, .int .i64 e.no] 71))
  have hp0 := heap_alloc_new w (.cells #[.slice A n c] 92)
  have hq := heap_alloc_new (w.alloc (.cells #[.slice A n c] 92)) (.cells #[.string e.key, .int .i64 e.no] 71)
  have hp := (((Ext.refl (w.alloc (.cells #[.slice A n c] 92))).alloc_right (.cells #[.string e.key, .int .i64 e.no] 71)).block (Array.getElem?_eq_some_iff.1 hp0).1).trans hp0
  rw [World.size_alloc] at hq
  obtain ⟨r1, r2, r3⟩ := rank_cut hS e
  have en : ∀ (x y a : Value) (w : World), (callFunc 100 #[a, x, y]).run Try.prog w = .ok (.enter 100 #[a, x, y]) w := fun x y a w => by kernel_rfl
  have hQ1 : Hid (∀ t, t < rankT l e → decide (0 ≤ cmpT (tth l t) e) = false) := fun t ht => by
    have := r2 (tth l t) (by rw [tth_get (by omega)]; exact List.mem_take_iff_getElem.2 ⟨t, by omega, rfl⟩)
    exact decide_eq_false (by omega)
  have hQ2 : Hid (∀ t, rankT l e ≤ t → t < n → decide (0 ≤ cmpT (tth l t) e) = true) := fun t ht htn => by
    have := r3 (tth l t) (by rw [tth_get (by omega)]; exact List.mem_drop_iff_getElem.2 ⟨t - rankT l e, by omega, by congr 1; omega⟩)
    exact decide_eq_true (by omega)
  have hC : Hid (∀ w1, Ext ((w.alloc (.cells #[.slice A n c] 92)).alloc (.cells #[.string e.key, .int .i64 e.no] 71)) w1 → Calls Try.prog 69 #[.int .i64 n, .func (.func 100) #[] #[.pointer (some ⟨w.heap.size, 0, none⟩), .pointer (some ⟨w.heap.size + 1, 0, none⟩)]] w1 (Give (.int .i64 (rankT l e)) w1)) := fun w1 hx1 => by
    refine search_any n (rankT l e) 100 _ _ _ w1 hn (by omega) (en _ _) (fun k w' hk hx' => fromC_any A n c _ _ k l e w' (hl.ext (hx.out.trans (hx1.trans hx'))) hk hn ?_ ?_ ?_) hQ1 hQ2
    · exact (hx1.trans hx').cell (by rw [Lib.cell_of_heap hp]; rfl)
    · exact (hx1.trans hx').cell (by rw [Lib.cell_of_heap hq]; rfl)
    · exact (hx1.trans hx').cell (by rw [Lib.cell_of_heap hq]; rfl)
  have zp : ((w.alloc (.cells #[.slice A n c] 92)).alloc (.cells #[.string e.key, .int .i64 e.no] 71)).cell? ⟨w.heap.size, 0, none⟩ = some (.slice A n c) := by rw [Lib.cell_of_heap hp]; rfl
  have lz := World.block_lt_of_cell? _ _ zp
  dsimp only at lz
  have hmx := Rd.max hl
  generalize rankT l e = r at *
  clear r1 r2 r3 hp hq hp0 hQ1 hQ2 hl hlen hS
  go_enter Try.func67, Try.ntmps67
  go_upto_region 1 with fail
  generalize (w.alloc (.cells #[.slice A n c] 92)).alloc (.cells #[.string e.key, .int .i64 e.no] 71) = w1 at *
  go_wp2_with fail
  refine (hC.out _ (Ext.refl _)).mono ?_
  rintro e' w3 ⟨rfl, hx3⟩
  go_wp2
  go_ret
  exact ⟨rfl, hx.out.trans hx3⟩
set_option maxRecDepth 100000 in
set_option maxHeartbeats 4000000 in
theorem Rank_any (t : Nat) (L : List Te) (h p : Nat) (T : BT) (fT : Nat → Nat) (s : ByteArray) (i : Int) (w : World) (H : TreeAt 0 w t L h p T fT) : Calls Try.prog 32 #[.pointer (some ⟨t, 0, none⟩), .string s, .int .i64 i] w (Give (.int .i64 (rankT L ⟨s, i⟩)) w) := by
  have hE := hid (entries_any t L h p T fT w H)
  have hsr := hid H.sr
  have hle := hid H.le
  clear H
  go_enter Try.func32, Try.ntmps32
  go_wp2_with fail
  refine hE.out.mono ?_
  rintro e w2 ⟨v, rfl, own2, hx⟩
  obtain ⟨A, c, rfl, -⟩ := own_form own2
  have hF := hid (from_any A L.length c L ⟨s, i⟩ w2 (Rd.of_own own2) hsr.out (by have := hle.out; omega))
  generalize rankT L ⟨s, i⟩ = r at *
  clear own2
  go_wp2_with fail
  refine hF.out.mono ?_
  rintro e w3 ⟨rfl, hx3⟩
  go_wp2
  go_ret
  exact ⟨rfl, hx.trans hx3⟩
set_option maxRecDepth 100000 in
set_option maxHeartbeats 4000000 in
theorem Rank_nil (s : ByteArray) (i : Int) (w : World) : Calls Try.prog 32 #[.pointer none, .string s, .int .i64 i] w (Give (.int .i64 0) w) := by
  have hF := hid (fun w => from_any none 0 0 [] ⟨s, i⟩ w (Rd.none_ _ _) List.Pairwise.nil (by decide))
  go_enter Try.func32, Try.ntmps32
  go_wp2_with fail
  refine (entries_nil _).mono ?_
  rintro e w2 ⟨rfl, hx⟩
  go_wp2_with fail
  refine (hF.out w2).mono ?_
  rintro e w3 ⟨rfl, hx3⟩
  go_wp2
  go_ret
  exact ⟨rfl, hx.trans hx3⟩
end Go.Proofs.Ytpijfiaecicpfaa
