import Derived.Test.YtffcaoicokookaaT16
namespace Go.Proofs.Ytffcaoicokookaa
open Go.RowKit
attribute [local go_sem ↓] Go.wp_at_zero Go.wp_at_succ
set_option linter.unusedVariables false
def countB (N : Int) : Bool := decide (0 ≤ N) && decide (N ≤ 300)
theorem isCount_any (N : Int) (w : World) : Calls Try.prog 59 #[.int .i64 N] w fun e w' => e = .returned (.bool (countB N)) ∧ w = w' := by
  by_cases h0 : 0 ≤ N
  · have e0 : decide ((0 : Int) ≤ N) = true := by simpa using h0
    by_cases h1 : N ≤ 300
    · have e1 : decide (N ≤ (300 : Int)) = true := by simpa using h1
      have Fin : Hid (countB N = true) := by simp [Hid, countB, h0, h1]
      clear h0 h1
      go_enter Try.func59, Try.ntmps59
      go_wp2
      go_ret
      exact ⟨ret_bool Fin.out.symm, rfl⟩
    · have e1 : decide (N ≤ (300 : Int)) = false := by simpa using h1
      have Fin : Hid (countB N = false) := by simp [Hid, countB]; omega
      clear h0 h1
      go_enter Try.func59, Try.ntmps59
      go_wp2
      go_ret
      exact ⟨ret_bool Fin.out.symm, rfl⟩
  · have e0 : decide ((0 : Int) ≤ N) = false := by simpa using h0
    have Fin : Hid (countB N = false) := by simp [Hid, countB]; omega
    clear h0
    go_enter Try.func59, Try.ntmps59
    go_wp2
    go_ret
    exact ⟨ret_bool Fin.out.symm, rfl⟩
def belowB (l : List Int) (N : Int) : Bool := countB N && (decide (l.length = 0) || decide (nth l (l.length - 1) ≤ N))

set_option maxHeartbeats 400000 in
theorem isBelow_any (A : Option Addr) (n c : Nat) (l : List Int) (N : Int) (w : World) (hs : RdI w A n c l) :
    Calls Try.prog 61 #[.slice A n c, .int .i64 N] w fun e w' => e = .returned (.bool (belowB l N)) ∧ w = w' := by
  have hl := hs.len
  have hmx := hs.max
  by_cases h0 : 0 ≤ N
  · have e0 : decide ((0 : Int) ≤ N) = true := by simpa using h0
    by_cases h1 : N ≤ 300
    · have e1 : decide (N ≤ (300 : Int)) = true := by simpa using h1
      have hc : countB N = true := by simp [countB, h0, h1]
      by_cases hn : n = 0
      · have Fin : Hid (belowB l N = true) := by simp [Hid, belowB, hc, hl, hn]
        have e2 : ((n : Int) == 0) = true := by simp; omega
        clear h0 h1 hl hc
        go_enter Try.func61, Try.ntmps61
        go_wp2
        go_ret
        exact ⟨ret_bool Fin.out.symm, rfl⟩
      · have e2 : ((n : Int) == 0) = false := by simp; omega
        obtain ⟨ad, rfl, hcell⟩ := hs.at_ (k := n - 1) (by omega)
        have i1 : ((n : Int) - 1).toNat = n - 1 := by omega
        by_cases h2 : nth l (n - 1) ≤ N
        · have e3 : decide (nth l (n - 1) ≤ N) = true := by simpa using h2
          have Fin : Hid (belowB l N = true) := by simp [Hid, belowB, hc, hl, h2]
          clear h0 h1 hl hc h2
          go_enter Try.func61, Try.ntmps61
          go_wp2
          go_ret
          exact ⟨ret_bool Fin.out.symm, rfl⟩
        · have e3 : decide (nth l (n - 1) ≤ N) = false := by simpa using h2
          have Fin : Hid (belowB l N = false) := by simp [Hid, belowB, hc, hl, hn]; omega
          clear h0 h1 hl hc h2
          go_enter Try.func61, Try.ntmps61
          go_wp2
          go_ret
          exact ⟨ret_bool Fin.out.symm, rfl⟩
    · have e1 : decide (N ≤ (300 : Int)) = false := by simpa using h1
      have Fin : Hid (belowB l N = false) := by
        have hc : countB N = false := by simp [countB]; omega
        simp [Hid, belowB, hc]
      clear h0 h1 hl
      go_enter Try.func61, Try.ntmps61
      go_wp2
      go_ret
      exact ⟨ret_bool Fin.out.symm, rfl⟩
  · have e0 : decide ((0 : Int) ≤ N) = false := by simpa using h0
    have Fin : Hid (belowB l N = false) := by
      have hc : countB N = false := by simp [countB]; omega
      simp [Hid, belowB, hc]
    clear h0 hl
    go_enter Try.func61, Try.ntmps61
    go_wp2
    go_ret
    exact ⟨ret_bool Fin.out.symm, rfl⟩
theorem below_nil (N : Int) : belowB [] N = countB N := by simp [belowB]

set_option maxRecDepth 100000 in
set_option maxHeartbeats 1000000 in
theorem Any_yes (N : Nat) (w : World) (hN : N ≤ 300) : Calls Try.prog 28 #[.int .i64 N] w (GiveBN [] (upS N) 0 w) := by
  have hc : countB (N : Int) = true := by simp [countB]; omega
  skip
  go_enter Try.func28, Try.ntmps28
  go_wp2_with fail
  refine (isCount_any _ _).mono ?_
  rintro e w' ⟨rfl, rfl⟩
  go_wp2_with fail
  refine (all_any _ _ hN).mono ?_
  rintro e w1 ⟨C, j, cj, rfl, hj, hx1, hf1⟩
  have hw2 := hid (Ext.trans ((Ext.refl w).alloc_right _) hx1)
  have T2 := (There.new w #[.slice none 0 0, .slice none 0 0] 29 (n := 2) (by simp)).ext hx1
  simp at hf1
  have t0 := T2.cell (o := 0) (by omega)
  have t1 := T2.cell (o := 1) (by omega)
  have u0 := T2.free (o := 0) (by omega)
  have u1 := T2.free (o := 1) (by omega)
  obtain ⟨k0, k1, Fin⟩ := pairEnd hw2.out T2 (by omega) (RdI.nil _) hj (Fr.none_ _) hf1
  clear hx1 hj hf1 hw2
  clear T2
  go_wp2
  exact bodyPost_ret (v := .tuple #[.agg #[.slice none 0 0, .slice C j cj], .int .i64 0]) (by simp [results, Try.results28, go_sem, k0, k1]) rfl ⟨_, _, _, _, _, _, rfl, Fin.out⟩

set_option maxRecDepth 100000 in
set_option maxHeartbeats 1000000 in
theorem Any_no (N : Int) (w : World) (hN : countB N = false) : Calls Try.prog 28 #[.int .i64 N] w (GiveBN [] [] 1 w) := by
  skip
  go_enter Try.func28, Try.ntmps28
  go_wp2_with fail
  refine (isCount_any _ _).mono ?_
  rintro e w' ⟨rfl, rfl⟩
  go_wp2
  exact bodyPost_ret (v := .tuple #[.agg #[.slice none 0 0, .slice none 0 0], .int .i64 1]) (by simp [results, Try.results28, go_sem]) rfl ⟨_, _, _, _, _, _, rfl, RdI.nil _, RdI.nil _, (Ext.refl w).alloc_right _, Fr.none_ _, Fr.none_ _⟩

set_option maxRecDepth 100000 in
set_option maxHeartbeats 1000000 in
theorem rAny_yes (N : Nat) (w : World) (hN : N ≤ 300) : Calls Try.prog 29 #[.int .i64 N] w (GiveBN [] (upS N) 0 w) := by
  have hc : countB (N : Int) = true := by simp [countB]; omega
  have hb : belowB [] (N : Int) = true := by rw [below_nil]; exact hc
  go_enter Try.func29, Try.ntmps29
  go_wp2_with fail
  refine (isBelow_any _ _ _ [] _ _ (RdI.nil _)).mono ?_
  rintro e w' ⟨rfl, rfl⟩
  go_wp2_with fail
  refine (upTo_any _ _ hN).mono ?_
  rintro e w1 ⟨C, j, cj, rfl, hj, hx1, hf1⟩
  have hw2 := hid (Ext.trans ((Ext.refl w).alloc_right _) hx1)
  have T2 := (There.new w #[.slice none 0 0, .slice none 0 0] 29 (n := 2) (by simp)).ext hx1
  simp at hf1
  have t0 := T2.cell (o := 0) (by omega)
  have t1 := T2.cell (o := 1) (by omega)
  have u0 := T2.free (o := 0) (by omega)
  have u1 := T2.free (o := 1) (by omega)
  obtain ⟨k0, k1, Fin⟩ := pairEnd hw2.out T2 (by omega) (RdI.nil _) hj (Fr.none_ _) hf1
  clear hx1 hj hf1 hw2
  clear T2
  go_wp2
  exact bodyPost_ret (v := .tuple #[.agg #[.slice none 0 0, .slice C j cj], .int .i64 0]) (by simp [results, Try.results29, go_sem, k0, k1]) rfl ⟨_, _, _, _, _, _, rfl, Fin.out⟩

set_option maxRecDepth 100000 in
set_option maxHeartbeats 1000000 in
theorem rAny_no (N : Int) (w : World) (hN : countB N = false) : Calls Try.prog 29 #[.int .i64 N] w (GiveBN [] [] 1 w) := by
  have hb : belowB [] N = false := by rw [below_nil]; exact hN
  go_enter Try.func29, Try.ntmps29
  go_wp2_with fail
  refine (isBelow_any _ _ _ [] _ _ (RdI.nil _)).mono ?_
  rintro e w' ⟨rfl, rfl⟩
  go_wp2
  exact bodyPost_ret (v := .tuple #[.agg #[.slice none 0 0, .slice none 0 0], .int .i64 1]) (by simp [results, Try.results29, go_sem]) rfl ⟨_, _, _, _, _, _, rfl, RdI.nil _, RdI.nil _, (Ext.refl w).alloc_right _, Fr.none_ _, Fr.none_ _⟩

theorem run_append_nilsrc {P : Program} (w : World) (base : Nat) (t ty e : TypeId) (i : TypeInfo) (size : Nat) (ht : P.underlying t = some (.slice e)) (hi : P.info? e = some i)
    (v : Value) (n : Nat) (xs : List Value) (hown : w.ownsRow base e size v n xs) (c : Nat) : (Builtin.append_ #[t, t] ty #[v, .slice none 0 c]).run P w = .ok v w := by
  rcases hown.2 with ⟨rfl, rfl⟩ | ⟨g, cap, cur, rfl, _, _, hnc, _⟩
  · simp [Builtin.append_, run_underlying ht, sizeOf, typeInfo, hi, Builtin.lenOf, Builtin.firstCells]
  · simp [Builtin.append_, run_underlying ht, sizeOf, typeInfo, hi, Builtin.lenOf, Builtin.firstCells, hnc, storeCells]
/-- 'out = append(out, xs...)', xs whatever slice. -/
theorem wpList_appendAny {P : Program} (w : World) {ops : Array Oper} {rest : List Oper} {o : Oper} {a : Act} {Q : Exit → Act → World → Prop} (hgd : o.guard = none) (s x : Operand) (t : TypeId)
    (ho : o.op = .call { callee := .builtin .append, args := #[s, x], argTypes := #[t, t] })
    (base : Nat) (e : TypeId) (i : TypeInfo) (z : Value) (size bytes : Nat) (ht : P.underlying t = some (.slice e)) (hi : P.info? e = some i) (hz : i.zero = some z)
    (hsize : i.size = size) (hby : i.bytes = bytes) (hzs : z.cells.size = size) (hsz : 0 < size)
    (v : Value) (n : Nat) (xs : List Value) (hs : a.eval s = v) (hown : w.ownsRow base e size v n xs)
    (A : Option Addr) (m c : Nat) (es : List Value) (hx : a.eval x = .slice A m c) (hr : Rd w size A m c es) (h1 : ∀ u ∈ es, u.oneCell' = true)
    (h63 : n + m ≤ maxLen) (hbytes : (n + m) * bytes ≤ 140737488355328) (hbase : base ≤ w.heap.size)
    (h : ∀ v' w', w'.ownsRow base e size v' (n + m) (xs ++ es) → w.grownBy w' v.ownBlock → wpList P ops Q rest (a.put o.dst v') w') : wpList P ops Q (o :: rest) a w := by
  rcases A with _ | ad
  · have hm : m = 0 := by
      rcases Nat.eq_zero_or_pos m with h0 | h0
      · exact h0
      · obtain ⟨ad, h, _⟩ := hr.2.2.2 h0
        cases h
    subst hm
    have hn : es = [] := List.eq_nil_of_length_eq_zero (by simpa using hr.1)
    subst hn
    refine wpList_plain hgd fun K hK => ?_
    have hrun := run_append_nilsrc (P := P) w base t o.type e i size ht hi v n xs hown c
    unfold Oper.wp
    simp [execOp, ho, resolve, invoke, builtin, hs, hx, hrun, Result.andThen]
    exact hK _ _ (h v w (by simpa using hown) (World.grownBy.refl w _))
  · refine wpList_append_own w hgd s x t ho base e i z size bytes ht hi hz hsize hby hzs hsz v n xs hs hown ad m c es hx hr.1 ?_ h1 h63 hbytes hbase fun v' w' h2 h3 _ => h v' w' h2 h3
    intro j u hu
    rcases Nat.eq_zero_or_pos m with h0 | h0
    · subst h0
      have hn : es = [] := List.eq_nil_of_length_eq_zero (by simpa using hr.1)
      subst hn
      simp at hu
    · obtain ⟨ad', e', hc⟩ := hr.2.2.2 h0
      injection e' with e'
      subst e'
      exact hc j u hu
set_option maxRecDepth 100000 in
set_option maxHeartbeats 1000000 in
theorem clone_any (A : Option Addr) (n c : Nat) (l : List Int) (w : World) (hs : RdI w A n c l) (hn : n ≤ 10000) :
    Calls Try.prog 64 #[.slice A n c] w (GiveI l w) := by
  obtain ⟨i0, hi, hz0, hz1, hz2⟩ := info_parts Try.info3
  have hnil := fun w => Lib.run_eql_slice_nil (P := Try.prog) w 22 3 A n c 0 0 Try.underlying22
  rcases A with _ | ad
  · have h0 : n = 0 := by
      rcases Nat.eq_zero_or_pos n with h0 | h0
      · exact h0
      · obtain ⟨ad, e, _⟩ := hs.at_ h0
        cases e
    subst h0
    have hl : l = [] := List.eq_nil_of_length_eq_zero hs.len
    subst hl
    go_enter Try.func64, Try.ntmps64
    go_wp2
    go_ret
    exact ⟨none, 0, 0, rfl, RdI.nil _, Ext.refl _, Fr.none_ _⟩
  · have ho : (w.alloc (.cells #[] 3)).ownsRow w.heap.size 3 1 (.slice (some ⟨w.heap.size, 0, none⟩) 0 0) 0 [] := World.ownsRow_lit w #[] 0 (Nat.le_refl _) (by decide) rfl
    have Ho := hid ho
    clear ho
    go_enter Try.func64, Try.ntmps64
    go_wp2_with (at_builtin; refine wpList_appendAny _ rfl _ _ 22 rfl w.heap.size 3 i0 _ 1 8 Try.underlying22 hi hz0 hz1 hz2 rfl (by decide) _ _ _ rfl Ho.out _ _ _ _ rfl (hs.alloc _) (ints_one _) (by unfold maxLen; omega) (by omega) (by simp) ?_)
    intro v' w1 own1 hg1
    have hb1 : Below w.heap.size w w1 := Below.grown ((Below.refl _ _).alloc (Nat.le_refl _) _) hg1 (by simp) (fun k hk => by simp [Value.ownBlock] at hk; omega)
    obtain ⟨A1, c1, rfl, -⟩ := own_form own1
    clear hg1
    try simp only [List.nil_append, Nat.zero_add] at own1
    go_wp2
    go_ret
    exact ⟨A1, n, c1, by simp, RdI.of_own own1, hb1, own_fresh own1⟩

set_option maxRecDepth 100000 in
set_option maxHeartbeats 1000000 in
theorem Known_no (A : Option Addr) (n c : Nat) (l : List Int) (w : World) (hs : RdI w A n c l) (h1 : isSetS 300 l = false) :
    Calls Try.prog 37 #[.slice A n c] w (GiveBN [] [] 1 w) := by
  go_enter Try.func37, Try.ntmps37
  go_wp2_with fail
  refine (isSet_any _ _ _ _ _ _ (hs.alloc _)).mono ?_
  rintro e w1 ⟨rfl, hq⟩
  have hw2 := hid (Ext.trans ((Ext.refl w).alloc_right _) hq.ext)
  have T2 := (There.new w #[.slice none 0 0, .slice none 0 0] 29 (n := 2) (by simp)).ext hq.ext
  clear hq
  have t0 := T2.cell (o := 0) (by omega)
  have t1 := T2.cell (o := 1) (by omega)
  have u0 := T2.free (o := 0) (by omega)
  have u1 := T2.free (o := 1) (by omega)
  obtain ⟨k0, k1, Fin⟩ := pairEnd hw2.out T2 (by omega) (RdI.nil _) (RdI.nil _) (Fr.none_ _) (Fr.none_ _)
  clear T2
  go_wp2
  exact bodyPost_ret (v := .tuple #[.agg #[.slice none 0 0, .slice none 0 0], .int .i64 1]) (by simp [results, Try.results37, go_sem, k0, k1]) rfl ⟨_, _, _, _, _, _, rfl, Fin.out⟩

set_option maxRecDepth 100000 in
set_option maxHeartbeats 1000000 in
theorem rKnown_no (A : Option Addr) (n c : Nat) (l : List Int) (w : World) (hs : RdI w A n c l) (h1 : isSetS 300 l = false) :
    Calls Try.prog 38 #[.slice A n c] w (GiveBN [] [] 1 w) := by
  go_enter Try.func38, Try.ntmps38
  go_wp2_with fail
  refine (IsSet_any _ _ _ _ _ (hs.alloc _)).mono ?_
  rintro e w1 ⟨rfl, hq⟩
  have hw2 := hid (Ext.trans ((Ext.refl w).alloc_right _) hq.ext)
  have T2 := (There.new w #[.slice none 0 0, .slice none 0 0] 29 (n := 2) (by simp)).ext hq.ext
  clear hq
  have t0 := T2.cell (o := 0) (by omega)
  have t1 := T2.cell (o := 1) (by omega)
  have u0 := T2.free (o := 0) (by omega)
  have u1 := T2.free (o := 1) (by omega)
  obtain ⟨k0, k1, Fin⟩ := pairEnd hw2.out T2 (by omega) (RdI.nil _) (RdI.nil _) (Fr.none_ _) (Fr.none_ _)
  clear T2
  go_wp2
  exact bodyPost_ret (v := .tuple #[.agg #[.slice none 0 0, .slice none 0 0], .int .i64 1]) (by simp [results, Try.results38, go_sem, k0, k1]) rfl ⟨_, _, _, _, _, _, rfl, Fin.out⟩

set_option maxRecDepth 100000 in
set_option maxHeartbeats 1000000 in
theorem Known_yes (A : Option Addr) (n c : Nat) (l : List Int) (w : World) (hs : RdI w A n c l) (h1 : isSetS 300 l = true) (hn : n ≤ 10000) :
    Calls Try.prog 37 #[.slice A n c] w (GiveBN l l 0 w) := by
  go_enter Try.func37, Try.ntmps37
  go_wp2_with fail
  refine (isSet_any _ _ _ _ _ _ (hs.alloc _)).mono ?_
  rintro e w1 ⟨rfl, hq⟩
  have hw1 : Ext w w1 := Ext.trans ((Ext.refl w).alloc_right _) hq.ext
  have T1 := (There.new w #[.slice none 0 0, .slice none 0 0] 29 (n := 2) (by simp)).ext hq.ext
  clear hq
  go_wp2_with fail
  refine (clone_any _ _ _ _ _ (hs.ext hw1) hn).mono ?_
  rintro e w2 ⟨C, j, cj, rfl, hj, hx2, hf2⟩
  go_wp2_with fail
  refine (clone_any _ _ _ _ _ (hs.ext (hw1.trans hx2)) hn).mono ?_
  rintro e w3 ⟨D, q, cq, rfl, hq, hx3, hf3⟩
  have hw2 := hid ((hw1.trans hx2).trans hx3)
  have T2 := (T1.ext hx2).ext hx3
  have hj3 := hj.ext hx3
  have l1 := T1.lt (by omega)
  have z2 := hx2.size
  have f1 : Fr (w.heap.size + 1) C := hf2.mono (by omega)
  have f2 : Fr (w.heap.size + 1) D := hf3.mono (by omega)
  clear hx2 hx3 hw1 T1 hj hf2 hf3
  have t0 := T2.cell (o := 0) (by omega)
  have t1 := T2.cell (o := 1) (by omega)
  have u0 := T2.free (o := 0) (by omega)
  have u1 := T2.free (o := 1) (by omega)
  obtain ⟨k0, k1, Fin⟩ := pairEnd hw2.out T2 (by omega) hj3 hq f1 f2
  clear hj3 hq f1 f2 hw2
  clear T2
  go_wp2
  exact bodyPost_ret (v := .tuple #[.agg #[.slice C j cj, .slice D q cq], .int .i64 0]) (by simp [results, Try.results37, go_sem, k0, k1]) rfl ⟨_, _, _, _, _, _, rfl, Fin.out⟩

set_option maxRecDepth 100000 in
set_option maxHeartbeats 1000000 in
theorem rKnown_yes (A : Option Addr) (n c : Nat) (l : List Int) (w : World) (hs : RdI w A n c l) (h1 : isSetS 300 l = true) (hn : n ≤ 10000) :
    Calls Try.prog 38 #[.slice A n c] w (GiveBN l l 0 w) := by
  obtain ⟨i0, hi, hz0, hz1, hz2⟩ := info_parts Try.info3
  have tok1 : True := trivial
  have tok2 : True := trivial
  go_enter Try.func38, Try.ntmps38
  go_wp2_with fail
  refine (IsSet_any _ _ _ _ _ (hs.alloc _)).mono ?_
  rintro e w1 ⟨rfl, hq⟩
  have hw1 : Ext w w1 := Ext.trans ((Ext.refl w).alloc_right _) hq.ext
  have T1 := (There.new w #[.slice none 0 0, .slice none 0 0] 29 (n := 2) (by simp)).ext hq.ext
  clear hq
  go_wp2_with (first | (at_builtin; have _t := tok1; refine wpList_appendAny _ rfl _ _ 22 rfl w1.heap.size 3 i0 _ 1 8 Try.underlying22 hi hz0 hz1 hz2 rfl (by decide) (.slice none 0 0) 0 [] rfl (World.ownsRow_nil _ _ _ _) _ _ _ _ rfl (hs.ext hw1) (ints_one _) (by unfold maxLen; omega) (by omega) (Nat.le_refl _) ?_; intro v1 w2 own2 hg2; have hx2 : Ext w1 w2 := Below.grown (Below.refl _ _) hg2 (Nat.le_refl _) (fun k hk => by simp [Value.ownBlock] at hk); obtain ⟨C, cj, rfl, -⟩ := own_form own2; clear _t tok1) | (at_builtin; have _t := tok2; refine wpList_appendAny _ rfl _ _ 22 rfl w2.heap.size 3 i0 _ 1 8 Try.underlying22 hi hz0 hz1 hz2 rfl (by decide) (.slice none 0 0) 0 [] rfl (World.ownsRow_nil _ _ _ _) _ _ _ _ rfl (hs.ext (hw1.trans hx2)) (ints_one _) (by unfold maxLen; omega) (by omega) (Nat.le_refl _) ?_; intro v2 w3 own3 hg3; have hx3 : Ext w2 w3 := Below.grown (Below.refl _ _) hg3 (Nat.le_refl _) (fun k hk => by simp [Value.ownBlock] at hk); obtain ⟨D, cq, rfl, -⟩ := own_form own3; have T2 := (T1.ext hx2).ext hx3; have t0 := T2.cell (o := 0) (by omega); have t1 := T2.cell (o := 1) (by omega); have u0 := T2.free (o := 0) (by omega); have u1 := T2.free (o := 1) (by omega); clear _t tok2))
  try simp only [List.nil_append, Nat.zero_add] at own2
  try simp only [List.nil_append, Nat.zero_add] at own3
  have hw2 := hid ((hw1.trans hx2).trans hx3)
  have hj3 := (RdI.of_own own2).ext hx3
  have hq := RdI.of_own own3
  have l1 := T1.lt (by omega)
  have z2 := hx2.size
  have f1 : Fr (w.heap.size + 1) C := (own_fresh own2).mono (by omega)
  have f2 : Fr (w.heap.size + 1) D := (own_fresh own3).mono (by omega)
  clear hx2 hx3 hw1 T1 own2 own3 hg2 hg3
  obtain ⟨k0, k1, Fin⟩ := pairEnd hw2.out T2 (by omega) hj3 hq f1 f2
  go_wp2
  exact bodyPost_ret (v := .tuple #[.agg #[.slice C n cj, .slice D n cq], .int .i64 0]) (by simp [results, Try.results38, go_sem, k0, k1]) rfl ⟨_, _, _, _, _, _, rfl, Fin.out⟩
end Go.Proofs.Ytffcaoicokookaa
