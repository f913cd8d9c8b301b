/-
  What the program asks of nodes and entries: shape, fullness, order.
-/
import Derived.Test.YtpijfiaecicpfaaBx
namespace Go.Proofs.Ytpijfiaecicpfaa
open Go.RowKit Go.Shelf
set_option linter.unusedVariables false
set_option linter.unusedSimpArgs false
set_option maxRecDepth 100000 in
set_option maxHeartbeats 4000000 in
theorem Shaped_any (A1 A2 A3 : Option Addr) (a b d c1 c2 c3 : Nat) (w : World) (ha : a ≤ 9223372036854775807) (hb : b ≤ 9223372036854775807) (hd : d ≤ 9223372036854775807) : Calls Try.prog 81 #[.agg #[.slice A1 a c1, .slice A2 b c2, .slice A3 d c3]] w (Give (.bool (shapeN a b d)) w) := by
  unfold shapeN
  by_cases h1 : b = a
  · subst h1
    by_cases h2 : b ≤ 4
    · have e2 : (b : Int) ≤ 4 := by omega
      rw [decide_eq_true h2, decide_eq_true rfl]
      by_cases h3 : d = 0
      · subst h3
        clear h2
        go_enter Try.func81, Try.ntmps81
        go_wp2
        go_ret
        exact ⟨rfl, (Ext.refl w).alloc_right _⟩
      · have e3 : ¬ (d : Int) = 0 := by omega
        rw [decide_eq_false h3]
        have e5 : IntKind.i64.wrap ((b : Int) + 1) = (b : Int) + 1 := IntWalk.i64_in _ (by omega)
        by_cases h4 : d = b + 1
        · have e4 : (d : Int) = (b : Int) + 1 := by omega
          rw [decide_eq_true h4]
          clear h2 h3 h4
          go_enter Try.func81, Try.ntmps81
          go_wp2
          go_ret
          exact ⟨rfl, (Ext.refl w).alloc_right _⟩
        · have e4 : ¬ (d : Int) = (b : Int) + 1 := by omega
          rw [decide_eq_false h4]
          clear h2 h3 h4
          go_enter Try.func81, Try.ntmps81
          go_wp2
          go_ret
          exact ⟨ret_bool (by rw [beq_eq_false_iff_ne.2 e3, beq_eq_false_iff_ne.2 e4]; rfl), (Ext.refl w).alloc_right _⟩
    · have e2 : ¬ (b : Int) ≤ 4 := by omega
      rw [decide_eq_false h2, decide_eq_true rfl]
      clear h2
      go_enter Try.func81, Try.ntmps81
      go_wp2
      go_ret
      exact ⟨rfl, (Ext.refl w).alloc_right _⟩
  · have e1 : ¬ (a : Int) = (b : Int) := by omega
    have e1' : ¬ a = b := by omega
    rw [decide_eq_false h1]
    clear h1
    go_enter Try.func81, Try.ntmps81
    go_wp2
    go_ret
    exact ⟨rfl, (Ext.refl w).alloc_right _⟩
/-- A place, or -1. -/
def GiveIx (p : Prop) (w : World) (e : Ending) (w' : World) : Prop := ∃ r : Int, e = .returned (.int .i64 r) ∧ decide (0 ≤ r) = !(cdec p) ∧ Ext w w'
theorem GiveIx.no {p : Prop} {w w' : World} {r : Int} (hx : Ext w w') (h : ¬ p) (hr : 0 ≤ r) : GiveIx p w (.returned (.int .i64 r)) w' := ⟨r, rfl, by rw [cdec_not.2 h]; simpa using hr, hx⟩
theorem GiveIx.yes {p : Prop} {w w' : World} (hx : Ext w w') (h : p) : GiveIx p w (.returned (.int .i64 (-1))) w' := ⟨-1, rfl, by rw [cdec_iff.2 h]; rfl, hx⟩
set_option maxRecDepth 100000 in
set_option maxHeartbeats 4000000 in
theorem shapC_any (A1 A2 A3 : Option Addr) (a b d c1 c2 c3 : Nat) (w : World) (ha : a ≤ 9223372036854775807) (hb : b ≤ 9223372036854775807) (hd : d ≤ 9223372036854775807) : Calls Try.prog 80 #[.agg #[.slice A1 a c1, .slice A2 b c2, .slice A3 d c3]] w (Give (.bool (!(shapeN a b d))) w) := by
  have hC := hid (fun w' => Shaped_any A1 A2 A3 a b d c1 c2 c3 w' ha hb hd)
  have hx := hid ((Ext.refl w).alloc_right (.cells #[.slice A1 a c1, .slice A2 b c2, .slice A3 d c3] 69))
  generalize shapeN a b d = B at *
  go_enter Try.func80, Try.ntmps80
  go_wp2_with fail
  refine (hC.out _).mono ?_
  rintro e w2 ⟨rfl, hx2⟩
  go_wp2
  go_ret
  exact ⟨rfl, hx.out.trans hx2⟩
set_option maxRecDepth 100000 in
set_option maxHeartbeats 4000000 in
theorem okC_any (x : Te) (w : World) : Calls Try.prog 86 #[.agg #[.string x.key, .int .i64 x.no]] w (Give (.bool (!(okT x))) w) := by
  have hC := hid (fun w' => isEntry_any x w')
  have hx := hid ((Ext.refl w).alloc_right (.cells #[.string x.key, .int .i64 x.no] 71))
  generalize okT x = B at *
  go_enter Try.func86, Try.ntmps86
  go_wp2_with fail
  refine (hC.out _).mono ?_
  rintro e w2 ⟨rfl, hx2⟩
  go_wp2
  go_ret
  exact ⟨rfl, hx.out.trans hx2⟩
set_option maxRecDepth 100000 in
set_option maxHeartbeats 4000000 in
theorem idxN_any (A : Option Addr) (n c : Nat) (xs : List Nx) (w : World) (hr : RX w A n c xs) (hm : n ≤ 9223372036854775807) : Calls Try.prog 108 #[.slice A n c, .func (.func 80) #[] #[]] w (GiveIx (∀ k, k < n → shapeB (xth xs k) = true) w) := by
  have en : ∀ (a : Value) (w : World), (callFunc 80 #[a]).run Try.prog w = .ok (.enter 80 #[a]) w := fun a w => by kernel_rfl
  replace hr := hid hr
  go_enter Try.func108, Try.ntmps108
  go_wp2_with fail
  go_loopw [8] (fun i wr => ∃ k : Nat, k ≤ n ∧ i = .int .i64 k ∧ Hid (Ext w wr) ∧ Hid (∀ k', k' < k → shapeB (xth xs k') = true)) (fun i _ => n - (intOf i).toNat)
  case atStart => exact ⟨0, by omega, rfl, Ext.refl _, fun k' h => by omega⟩
  case round =>
    obtain ⟨k, hk, rfl, hx, hno⟩ := hrel
    by_cases hlt : k < n
    · obtain ⟨ad, A1, c1, A2, c2, A3, c3, rfl, z0, z1, z2, r1, r2, r3⟩ := (hr.out.ext hx.out).at_ hlt
      have m1 := (Rd.max r1).1
      have m2 := (Rd.max r2).1
      have m3 := (Rd.max r3).1
      clear r1 r2 r3
      have hki : (k : Int) < (n : Int) := by omega
      have hcl := hid (fun w' => shapC_any A1 A2 A3 _ _ _ c1 c2 c3 w' m1 m2 m3)
      cases hs : shapeB (xth xs k) with
      | false =>
        rw [show shapeN _ _ _ = false from hs] at hcl
        have hf := hid (fun w' (h9 : Ext w w') => GiveIx.no (r := (k : Int)) (p := ∀ k, k < n → shapeB (xth xs k) = true) h9 (fun h => by rw [h k hlt] at hs; cases hs) (by omega))
        clear hs hno
        go_wp2_with fail
        refine (hcl.out _).mono ?_
        rintro e w3 ⟨rfl, hx3⟩
        replace hx := hid (hx.out.trans hx3)
        clear hx3
        go_wp2
        go_ret
        exact hf.out _ hx.out
      | true =>
        rw [show shapeN _ _ _ = true from hs] at hcl
        have hno2 : Hid (∀ k', k' < k + 1 → shapeB (xth xs k') = true) := fun k' h => by
          by_cases e : k' = k
          · rw [e]; exact hs
          · exact hno.out k' (by omega)
        clear hs hno
        go_wp2_with fail
        refine (hcl.out _).mono ?_
        rintro e w3 ⟨rfl, hx3⟩
        replace hx := hid (hx.out.trans hx3)
        clear hx3
        go_wp2_with fail
        go_roundw
        case rel => exact ⟨k + 1, by omega, by go_num, hx, hno2⟩
        case measure => simp [intOf]; omega
    · obtain rfl : n = k := by omega
      have hf := hid (fun w' (h9 : Ext w w') => GiveIx.yes (p := ∀ k, k < n → shapeB (xth xs k) = true) h9 hno.out)
      clear hno
      go_wp2
      go_ret
      exact hf.out _ hx.out
set_option maxRecDepth 100000 in
set_option maxHeartbeats 4000000 in
theorem hasN_any (A : Option Addr) (n c : Nat) (xs : List Nx) (w : World) (hr : RX w A n c xs) (hm : n ≤ 9223372036854775807) : Calls Try.prog 79 #[.slice A n c, .func (.func 80) #[] #[]] w (Give (.bool (!(cdec (∀ k, k < n → shapeB (xth xs k) = true)))) w) := by
  have hi := hid (idxN_any A n c xs w hr hm)
  clear hr
  generalize hp : (∀ k, k < n → shapeB (xth xs k) = true) = p at *
  clear hp
  go_enter Try.func79, Try.ntmps79
  go_wp2_with fail
  refine hi.out.mono ?_
  rintro e w2 ⟨r, rfl, hr, hx⟩
  replace hr := hid hr
  go_wp2
  go_ret
  exact ⟨ret_bool hr.out, hx⟩
set_option maxRecDepth 100000 in
set_option maxHeartbeats 4000000 in
theorem idxE_any (A : Option Addr) (n c : Nat) (xs : List Te) (w : World) (hr : RdN w A n c xs) (hm : n ≤ 9223372036854775807) : Calls Try.prog 109 #[.slice A n c, .func (.func 86) #[] #[]] w (GiveIx (∀ k, k < n → okT (tth xs k) = true) w) := by
  have en : ∀ (a : Value) (w : World), (callFunc 86 #[a]).run Try.prog w = .ok (.enter 86 #[a]) w := fun a w => by kernel_rfl
  replace hr := hid hr
  go_enter Try.func109, Try.ntmps109
  go_wp2_with fail
  go_loopw [8] (fun i wr => ∃ k : Nat, k ≤ n ∧ i = .int .i64 k ∧ Hid (Ext w wr) ∧ Hid (∀ k', k' < k → okT (tth xs k') = true)) (fun i _ => n - (intOf i).toNat)
  case atStart => exact ⟨0, by omega, rfl, Ext.refl _, fun k' h => by omega⟩
  case round =>
    obtain ⟨k, hk, rfl, hx, hno⟩ := hrel
    by_cases hlt : k < n
    · obtain ⟨ad, rfl, z0, z1⟩ := (hr.out.ext hx.out).at_ hlt
      have hki : (k : Int) < (n : Int) := by omega
      have hcl := hid (fun w' => okC_any (tth xs k) w')
      cases hs : okT (tth xs k) with
      | false =>
        rw [hs] at hcl
        have hf := hid (fun w' (h9 : Ext w w') => GiveIx.no (r := (k : Int)) (p := ∀ k, k < n → okT (tth xs k) = true) h9 (fun h => by rw [h k hlt] at hs; cases hs) (by omega))
        clear hs hno
        generalize tth xs k = x at *
        go_wp2_with fail
        refine (hcl.out _).mono ?_
        rintro e w3 ⟨rfl, hx3⟩
        replace hx := hid (hx.out.trans hx3)
        clear hx3
        go_wp2
        go_ret
        exact hf.out _ hx.out
      | true =>
        rw [hs] at hcl
        have hno2 : Hid (∀ k', k' < k + 1 → okT (tth xs k') = true) := fun k' h => by
          by_cases e : k' = k
          · rw [e]; exact hs
          · exact hno.out k' (by omega)
        clear hs hno
        generalize tth xs k = x at *
        go_wp2_with fail
        refine (hcl.out _).mono ?_
        rintro e w3 ⟨rfl, hx3⟩
        replace hx := hid (hx.out.trans hx3)
        clear hx3
        go_wp2_with fail
        go_roundw
        case rel => exact ⟨k + 1, by omega, by go_num, hx, hno2⟩
        case measure => simp [intOf]; omega
    · obtain rfl : n = k := by omega
      have hf := hid (fun w' (h9 : Ext w w') => GiveIx.yes (p := ∀ k, k < n → okT (tth xs k) = true) h9 hno.out)
      clear hno
      go_wp2
      go_ret
      exact hf.out _ hx.out
set_option maxRecDepth 100000 in
set_option maxHeartbeats 4000000 in
theorem hasE_any (A : Option Addr) (n c : Nat) (xs : List Te) (w : World) (hr : RdN w A n c xs) (hm : n ≤ 9223372036854775807) : Calls Try.prog 85 #[.slice A n c, .func (.func 86) #[] #[]] w (Give (.bool (!(cdec (∀ k, k < n → okT (tth xs k) = true)))) w) := by
  have hi := hid (idxE_any A n c xs w hr hm)
  clear hr
  generalize hp : (∀ k, k < n → okT (tth xs k) = true) = p at *
  clear hp
  go_enter Try.func85, Try.ntmps85
  go_wp2_with fail
  refine hi.out.mono ?_
  rintro e w2 ⟨r, rfl, hr, hx⟩
  replace hr := hid hr
  go_wp2
  go_ret
  exact ⟨ret_bool hr.out, hx⟩
set_option maxRecDepth 100000 in
set_option maxHeartbeats 4000000 in
theorem isFull_any (A1 A2 A3 : Option Addr) (a b d c1 c2 c3 : Nat) (k : Nat) (w : World) (ha : a ≤ 9223372036854775807) (hd : d ≤ 9223372036854775807) : Calls Try.prog 83 #[.agg #[.slice A1 a c1, .slice A2 b c2, .slice A3 d c3], .int .i64 k] w (Give (.bool (decide ((if k = 0 then min 1 d else 2) ≤ a))) w) := by
  have hx := hid ((Ext.refl w).alloc_right (.cells #[.slice A1 a c1, .slice A2 b c2, .slice A3 d c3] 69))
  rcases Nat.eq_zero_or_pos k with rfl | hk
  · rw [if_pos rfl]
    rcases Nat.eq_zero_or_pos a with rfl | ha0
    · rcases Nat.eq_zero_or_pos d with rfl | hd0
      · rw [decide_eq_true (by omega)]
        go_enter Try.func83, Try.ntmps83
        go_wp2
        go_ret
        exact ⟨rfl, hx.out⟩
      · rw [decide_eq_false (by omega)]
        have h1 : ((d : Int) == 0) = false := by rw [beq_eq_false_iff_ne]; omega
        have h2 : ¬ d = 0 := by omega
        go_enter Try.func83, Try.ntmps83
        go_wp2
        go_ret
        exact ⟨by first | rfl | exact ret_bool (by simp [h2]), hx.out⟩
    · rw [decide_eq_true (by omega)]
      have h1 : (0 : Int) < (a : Int) := by omega
      go_enter Try.func83, Try.ntmps83
      go_wp2
      go_ret
      exact ⟨rfl, hx.out⟩
  · rw [if_neg (by omega)]
    have hk1 : ((k : Int) == 0) = false := by rw [beq_eq_false_iff_ne]; omega
    have hk2 : ¬ k = 0 := by omega
    by_cases h2 : 2 ≤ a
    · rw [decide_eq_true h2]
      have h1 : (2 : Int) ≤ (a : Int) := by omega
      go_enter Try.func83, Try.ntmps83
      go_wp2
      go_ret
      exact ⟨rfl, hx.out⟩
    · rw [decide_eq_false h2]
      have h1 : ¬ (2 : Int) ≤ (a : Int) := by omega
      go_enter Try.func83, Try.ntmps83
      go_wp2
      go_ret
      exact ⟨by first | rfl | exact ret_bool (by simp; omega), hx.out⟩
set_option maxRecDepth 100000 in
set_option maxHeartbeats 4000000 in
theorem isOrdered_any (A : Option Addr) (n c : Nat) (L : List Te) (w : World) (hr : RdN w A n c L) (hn : n ≤ 1000000) : Calls Try.prog 87 #[.slice A n c] w (Give (.bool (cdec (Srt L))) w) := by
  have hll := hid hr.len
  replace hr := hid hr
  obtain ⟨W, hW⟩ : ∃ W, cdec (Srt L) = W := ⟨_, rfl⟩
  rw [hW]
  replace hW := hid hW
  go_enter Try.func87, Try.ntmps87
  go_wp2_with fail
  go_loopw [3] (fun i wr => ∃ k : Nat, Hid (1 ≤ k) ∧ i = .int .i64 k ∧ Hid (∀ t, t + 1 < k → t + 1 < L.length → cmpT (tth L t) (tth L (t + 1)) < 0) ∧ Hid (Ext w wr)) (fun i _ => n + 1 - (intOf i).toNat)
  case atStart => exact ⟨1, by unfold Hid; omega, rfl, fun j hj => by omega, Ext.refl _⟩
  case round =>
    obtain ⟨k, hk1, rfl, hso, hx⟩ := hrel
    obtain ⟨j, hj⟩ : ∃ j, k = j + 1 := ⟨k - 1, by have := hk1.out; omega⟩
    replace hj := hid hj
    by_cases hlt : k < n
    · obtain ⟨ad, rfl, z0, z1⟩ := (hr.out.ext hx.out).at_ (k := j) (by have := hj.out; omega)
      obtain ⟨ad', e1, z2, z3⟩ := (hr.out.ext hx.out).at_ hlt
      injection e1 with e1
      subst e1
      have hki : (k : Int) < (n : Int) := by omega
      have hji : (j : Int) < (n : Int) := by have := hj.out; omega
      have hwj : IntKind.i64.wrap ((k : Int) - 1) = (j : Int) := by rw [show (k : Int) - 1 = j by have := hj.out; omega]; exact IntWalk.i64_in _ (by have := hj.out; omega)
      have hF := hid (fun w' => compare_any (tth L j) (tth L k) w')
      by_cases hc : cmpT (tth L j) (tth L k) < 0
      · have hso2 : Hid (∀ t, t + 1 < k + 1 → t + 1 < L.length → cmpT (tth L t) (tth L (t + 1)) < 0) := fun t ht ht2 => by
          by_cases e : t = j
          · rw [e, ← hj.out]; exact hc
          · exact hso.out t (by have := hj.out; omega) ht2
        have hge : ¬ 0 ≤ cmpT (tth L j) (tth L k) := by omega
        clear hc hso
        generalize cmpT (tth L j) (tth L k) = z at *
        generalize tth L j = x at *
        generalize tth L k = y at *
        go_upto_region 4 with fail
        have I0 : (fun w' : World => w'.cell? (ad.add (j * 2)) = some (.string x.key) ∧ w'.cell? ⟨(ad.add (j * 2)).block, (ad.add (j * 2)).off + 1, none⟩ = some (.int .i64 x.no) ∧ w'.cell? (ad.add (k * 2)) = some (.string y.key) ∧ w'.cell? ⟨(ad.add (k * 2)).block, (ad.add (k * 2)).off + 1, none⟩ = some (.int .i64 y.no)) wr.drew := ⟨z0, z1, z2, z3⟩
        refine region_J (fun w' : World => w'.cell? (ad.add (j * 2)) = some (.string x.key) ∧ w'.cell? ⟨(ad.add (j * 2)).block, (ad.add (j * 2)).off + 1, none⟩ = some (.int .i64 x.no) ∧ w'.cell? (ad.add (k * 2)) = some (.string y.key) ∧ w'.cell? ⟨(ad.add (k * 2)).block, (ad.add (k * 2)).off + 1, none⟩ = some (.int .i64 y.no)) 11 (by kernel_rfl) ?_
        have hx9 := hid hx.out.drew_right
        clear z0 z1 z2 z3
        generalize wr.drew = w9 at *
        refine J_takeO 0 (v := ?vo10) rfl (by kernel_rfl) (by kernel_rfl) (by kernel_rfl) (by kernel_rfl) (fun _ _ _ h => h) (Or.inl ⟨by rfl, ?yo10⟩) I0 ?ro10
        case yo10 => (intro w hSw; obtain ⟨_, _, _, _⟩ := hSw; (go_simp; with_reducible rfl))
        simp only [Act.put, List.getElem_toArray, List.getElem_cons_zero, List.getElem_cons_succ, List.setIfInBounds_toArray, List.set_cons_zero, List.set_cons_succ]
        refine J_takeO 1 (v := ?vo11) rfl (by kernel_rfl) (by kernel_rfl) (by kernel_rfl) (by kernel_rfl) (fun _ _ _ h => h) (Or.inl ⟨by rfl, ?yo11⟩) I0 ?ro11
        case yo11 => (intro w hSw; obtain ⟨_, _, _, _⟩ := hSw; (go_simp; with_reducible rfl))
        simp only [Act.put, List.getElem_toArray, List.getElem_cons_zero, List.getElem_cons_succ, List.setIfInBounds_toArray, List.set_cons_zero, List.set_cons_succ]
        refine J_takeO 2 (v := ?vo12) rfl (by kernel_rfl) (by kernel_rfl) (by kernel_rfl) (by kernel_rfl) (fun _ _ _ h => h) (Or.inl ⟨by rfl, ?yo12⟩) I0 ?ro12
        case yo12 => (intro w hSw; obtain ⟨_, _, _, _⟩ := hSw; (go_simp; with_reducible rfl))
        simp only [Act.put, List.getElem_toArray, List.getElem_cons_zero, List.getElem_cons_succ, List.setIfInBounds_toArray, List.set_cons_zero, List.set_cons_succ]
        refine J_takeO 3 (v := ?vo13) rfl (by kernel_rfl) (by kernel_rfl) (by kernel_rfl) (by kernel_rfl) (fun _ _ _ h => h) (Or.inl ⟨by rfl, ?yo13⟩) I0 ?ro13
        case yo13 => (intro w hSw; obtain ⟨_, _, _, _⟩ := hSw; (go_simp; with_reducible rfl))
        simp only [Act.put, List.getElem_toArray, List.getElem_cons_zero, List.getElem_cons_succ, List.setIfInBounds_toArray, List.set_cons_zero, List.set_cons_succ]
        refine J_takeO 4 (v := ?vo14) rfl (by kernel_rfl) (by kernel_rfl) (by kernel_rfl) (by kernel_rfl) (fun _ _ _ h => h) (Or.inl ⟨by rfl, ?yo14⟩) I0 ?ro14
        case yo14 => (intro w hSw; obtain ⟨_, _, _, _⟩ := hSw; (go_simp; with_reducible rfl))
        simp only [Act.put, List.getElem_toArray, List.getElem_cons_zero, List.getElem_cons_succ, List.setIfInBounds_toArray, List.set_cons_zero, List.set_cons_succ]
        refine J_takeO 5 (v := ?vo15) rfl (by kernel_rfl) (by kernel_rfl) (by kernel_rfl) (by kernel_rfl) (fun _ _ _ h => h) (Or.inl ⟨by rfl, ?yo15⟩) I0 ?ro15
        case yo15 => (intro w hSw; obtain ⟨_, _, _, _⟩ := hSw; (go_simp; with_reducible rfl))
        simp only [Act.put, List.getElem_toArray, List.getElem_cons_zero, List.getElem_cons_succ, List.setIfInBounds_toArray, List.set_cons_zero, List.set_cons_succ]
        refine J_takeO 6 (v := ?vo16) rfl (by kernel_rfl) (by kernel_rfl) (by kernel_rfl) (by kernel_rfl) (fun _ _ _ h => h) (Or.inl ⟨by rfl, ?yo16⟩) I0 ?ro16
        case yo16 => (intro w hSw; obtain ⟨_, _, _, _⟩ := hSw; (go_simp; with_reducible rfl))
        simp only [Act.put, List.getElem_toArray, List.getElem_cons_zero, List.getElem_cons_succ, List.setIfInBounds_toArray, List.set_cons_zero, List.set_cons_succ]
        refine J_takeO 7 (v := ?vo17) rfl (by kernel_rfl) (by kernel_rfl) (by kernel_rfl) (by kernel_rfl) (fun _ _ _ h => h) (Or.inl ⟨by rfl, ?yo17⟩) I0 ?ro17
        case yo17 => (intro w hSw; obtain ⟨_, _, _, _⟩ := hSw; (go_simp; with_reducible rfl))
        simp only [Act.put, List.getElem_toArray, List.getElem_cons_zero, List.getElem_cons_succ, List.setIfInBounds_toArray, List.set_cons_zero, List.set_cons_succ]
        refine J_takeO 8 (v := ?vo18) rfl (by kernel_rfl) (by kernel_rfl) (by kernel_rfl) (by kernel_rfl) (fun _ _ _ h => h) (Or.inl ⟨by rfl, ?yo18⟩) I0 ?ro18
        case yo18 => (intro w hSw; obtain ⟨_, _, _, _⟩ := hSw; (go_simp; with_reducible rfl))
        simp only [Act.put, List.getElem_toArray, List.getElem_cons_zero, List.getElem_cons_succ, List.setIfInBounds_toArray, List.set_cons_zero, List.set_cons_succ]
        refine J_one 9 rfl (by kernel_rfl) (fun K hK => ?_)
        go_simp
        refine (hF.out _).mono ?_
        rintro e' w8 ⟨rfl, hx8⟩
        have I1 : (fun w' : World => w'.cell? (ad.add (j * 2)) = some (.string x.key) ∧ w'.cell? ⟨(ad.add (j * 2)).block, (ad.add (j * 2)).off + 1, none⟩ = some (.int .i64 x.no) ∧ w'.cell? (ad.add (k * 2)) = some (.string y.key) ∧ w'.cell? ⟨(ad.add (k * 2)).block, (ad.add (k * 2)).off + 1, none⟩ = some (.int .i64 y.no)) w8 := ⟨hx8.cell I0.1, hx8.cell I0.2.1, hx8.cell I0.2.2.1, hx8.cell I0.2.2.2⟩
        replace hx9 := hid (hx9.out.trans hx8)
        clear I0 hx8
        refine hK _ _ ⟨fun _ => I1, ?_⟩
        clear hK K
        try simp only [Act.put, List.getElem_toArray, List.getElem_cons_zero, List.getElem_cons_succ, List.setIfInBounds_toArray, List.set_cons_zero, List.set_cons_succ]
        refine J_one 10 rfl (by kernel_rfl) (fun K hK => ?_)
        go_simp
        refine hK _ _ ⟨fun _ => I1, ?_⟩
        clear hK K
        try simp only [Act.put, List.setIfInBounds_toArray, List.set_cons_zero, List.set_cons_succ]
        refine J_done (by kernel_rfl) (OnlyOn.normal ?_)
        go_wp2
        go_roundw
        case rel => exact ⟨k + 1, by unfold Hid; omega, by go_num, hso2, hx9⟩
        case measure => simp [intOf]; omega
      · have hw1 : W = false := by
          rw [← hW.out]
          refine cdec_not.2 (fun h => hc ?_)
          have h9 := srt_steps.1 h j (by rw [← hj.out, hll.out]; exact hlt)
          rw [← hj.out] at h9
          exact h9
        subst hw1
        have hge : 0 ≤ cmpT (tth L j) (tth L k) := by omega
        clear hc hso
        generalize cmpT (tth L j) (tth L k) = z at *
        generalize tth L j = x at *
        generalize tth L k = y at *
        go_upto_region 4 with fail
        have I0 : (fun w' : World => w'.cell? (ad.add (j * 2)) = some (.string x.key) ∧ w'.cell? ⟨(ad.add (j * 2)).block, (ad.add (j * 2)).off + 1, none⟩ = some (.int .i64 x.no) ∧ w'.cell? (ad.add (k * 2)) = some (.string y.key) ∧ w'.cell? ⟨(ad.add (k * 2)).block, (ad.add (k * 2)).off + 1, none⟩ = some (.int .i64 y.no)) wr.drew := ⟨z0, z1, z2, z3⟩
        refine region_J (fun w' : World => w'.cell? (ad.add (j * 2)) = some (.string x.key) ∧ w'.cell? ⟨(ad.add (j * 2)).block, (ad.add (j * 2)).off + 1, none⟩ = some (.int .i64 x.no) ∧ w'.cell? (ad.add (k * 2)) = some (.string y.key) ∧ w'.cell? ⟨(ad.add (k * 2)).block, (ad.add (k * 2)).off + 1, none⟩ = some (.int .i64 y.no)) 11 (by kernel_rfl) ?_
        have hx9 := hid hx.out.drew_right
        clear z0 z1 z2 z3
        generalize wr.drew = w9 at *
        refine J_takeO 0 (v := ?vo20) rfl (by kernel_rfl) (by kernel_rfl) (by kernel_rfl) (by kernel_rfl) (fun _ _ _ h => h) (Or.inl ⟨by rfl, ?yo20⟩) I0 ?ro20
        case yo20 => (intro w hSw; obtain ⟨_, _, _, _⟩ := hSw; (go_simp; with_reducible rfl))
        simp only [Act.put, List.getElem_toArray, List.getElem_cons_zero, List.getElem_cons_succ, List.setIfInBounds_toArray, List.set_cons_zero, List.set_cons_succ]
        refine J_takeO 1 (v := ?vo21) rfl (by kernel_rfl) (by kernel_rfl) (by kernel_rfl) (by kernel_rfl) (fun _ _ _ h => h) (Or.inl ⟨by rfl, ?yo21⟩) I0 ?ro21
        case yo21 => (intro w hSw; obtain ⟨_, _, _, _⟩ := hSw; (go_simp; with_reducible rfl))
        simp only [Act.put, List.getElem_toArray, List.getElem_cons_zero, List.getElem_cons_succ, List.setIfInBounds_toArray, List.set_cons_zero, List.set_cons_succ]
        refine J_takeO 2 (v := ?vo22) rfl (by kernel_rfl) (by kernel_rfl) (by kernel_rfl) (by kernel_rfl) (fun _ _ _ h => h) (Or.inl ⟨by rfl, ?yo22⟩) I0 ?ro22
        case yo22 => (intro w hSw; obtain ⟨_, _, _, _⟩ := hSw; (go_simp; with_reducible rfl))
        simp only [Act.put, List.getElem_toArray, List.getElem_cons_zero, List.getElem_cons_succ, List.setIfInBounds_toArray, List.set_cons_zero, List.set_cons_succ]
        refine J_takeO 3 (v := ?vo23) rfl (by kernel_rfl) (by kernel_rfl) (by kernel_rfl) (by kernel_rfl) (fun _ _ _ h => h) (Or.inl ⟨by rfl, ?yo23⟩) I0 ?ro23
        case yo23 => (intro w hSw; obtain ⟨_, _, _, _⟩ := hSw; (go_simp; with_reducible rfl))
        simp only [Act.put, List.getElem_toArray, List.getElem_cons_zero, List.getElem_cons_succ, List.setIfInBounds_toArray, List.set_cons_zero, List.set_cons_succ]
        refine J_takeO 4 (v := ?vo24) rfl (by kernel_rfl) (by kernel_rfl) (by kernel_rfl) (by kernel_rfl) (fun _ _ _ h => h) (Or.inl ⟨by rfl, ?yo24⟩) I0 ?ro24
        case yo24 => (intro w hSw; obtain ⟨_, _, _, _⟩ := hSw; (go_simp; with_reducible rfl))
        simp only [Act.put, List.getElem_toArray, List.getElem_cons_zero, List.getElem_cons_succ, List.setIfInBounds_toArray, List.set_cons_zero, List.set_cons_succ]
        refine J_takeO 5 (v := ?vo25) rfl (by kernel_rfl) (by kernel_rfl) (by kernel_rfl) (by kernel_rfl) (fun _ _ _ h => h) (Or.inl ⟨by rfl, ?yo25⟩) I0 ?ro25
        case yo25 => (intro w hSw; obtain ⟨_, _, _, _⟩ := hSw; (go_simp; with_reducible rfl))
        simp only [Act.put, List.getElem_toArray, List.getElem_cons_zero, List.getElem_cons_succ, List.setIfInBounds_toArray, List.set_cons_zero, List.set_cons_succ]
        refine J_takeO 6 (v := ?vo26) rfl (by kernel_rfl) (by kernel_rfl) (by kernel_rfl) (by kernel_rfl) (fun _ _ _ h => h) (Or.inl ⟨by rfl, ?yo26⟩) I0 ?ro26
        case yo26 => (intro w hSw; obtain ⟨_, _, _, _⟩ := hSw; (go_simp; with_reducible rfl))
        simp only [Act.put, List.getElem_toArray, List.getElem_cons_zero, List.getElem_cons_succ, List.setIfInBounds_toArray, List.set_cons_zero, List.set_cons_succ]
        refine J_takeO 7 (v := ?vo27) rfl (by kernel_rfl) (by kernel_rfl) (by kernel_rfl) (by kernel_rfl) (fun _ _ _ h => h) (Or.inl ⟨by rfl, ?yo27⟩) I0 ?ro27
        case yo27 => (intro w hSw; obtain ⟨_, _, _, _⟩ := hSw; (go_simp; with_reducible rfl))
        simp only [Act.put, List.getElem_toArray, List.getElem_cons_zero, List.getElem_cons_succ, List.setIfInBounds_toArray, List.set_cons_zero, List.set_cons_succ]
        refine J_takeO 8 (v := ?vo28) rfl (by kernel_rfl) (by kernel_rfl) (by kernel_rfl) (by kernel_rfl) (fun _ _ _ h => h) (Or.inl ⟨by rfl, ?yo28⟩) I0 ?ro28
        case yo28 => (intro w hSw; obtain ⟨_, _, _, _⟩ := hSw; (go_simp; with_reducible rfl))
        simp only [Act.put, List.getElem_toArray, List.getElem_cons_zero, List.getElem_cons_succ, List.setIfInBounds_toArray, List.set_cons_zero, List.set_cons_succ]
        refine J_one 9 rfl (by kernel_rfl) (fun K hK => ?_)
        go_simp
        refine (hF.out _).mono ?_
        rintro e' w8 ⟨rfl, hx8⟩
        have I1 : (fun w' : World => w'.cell? (ad.add (j * 2)) = some (.string x.key) ∧ w'.cell? ⟨(ad.add (j * 2)).block, (ad.add (j * 2)).off + 1, none⟩ = some (.int .i64 x.no) ∧ w'.cell? (ad.add (k * 2)) = some (.string y.key) ∧ w'.cell? ⟨(ad.add (k * 2)).block, (ad.add (k * 2)).off + 1, none⟩ = some (.int .i64 y.no)) w8 := ⟨hx8.cell I0.1, hx8.cell I0.2.1, hx8.cell I0.2.2.1, hx8.cell I0.2.2.2⟩
        replace hx9 := hid (hx9.out.trans hx8)
        clear I0 hx8
        refine hK _ _ ⟨fun _ => I1, ?_⟩
        clear hK K
        try simp only [Act.put, List.getElem_toArray, List.getElem_cons_zero, List.getElem_cons_succ, List.setIfInBounds_toArray, List.set_cons_zero, List.set_cons_succ]
        refine J_one 10 rfl (by kernel_rfl) (fun K hK => ?_)
        go_simp
        refine hK _ _ ⟨fun _ => I1, ?_⟩
        clear hK K
        try simp only [Act.put, List.setIfInBounds_toArray, List.set_cons_zero, List.set_cons_succ]
        refine J_done (by kernel_rfl) (OnlyOn.normal ?_)
        go_wp2
        go_ret
        exact ⟨rfl, hx9.out⟩
    · have hw1 : W = true := by
        rw [← hW.out]
        exact cdec_iff.2 (srt_steps.2 (fun t ht => hso.out t (by have := hj.out; have := hll.out; omega) ht))
      subst hw1
      have hki : ¬ (k : Int) < (n : Int) := by omega
      go_wp2
      go_ret
      exact ⟨rfl, hx.out⟩
end Go.Proofs.Ytpijfiaecicpfaa
