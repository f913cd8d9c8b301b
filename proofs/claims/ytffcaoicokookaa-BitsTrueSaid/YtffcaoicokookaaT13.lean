import Derived.Test.YtffcaoicokookaaT12
namespace Go.Proofs.Ytffcaoicokookaa
open Go.RowKit
attribute [local go_sem ↓] Go.wp_at_zero Go.wp_at_succ
set_option linter.unusedVariables false
/-- 'out = append(out, x)' in a region that draws its order. -/
theorem step_push {P : Program} (w : World) {ops : Array Oper} {o : Oper} {a : Act} {K : Act → World → Prop} {Q : Exit → Act → World → Prop} {E : Prop} (hgd : o.guard = none) (s x : Operand) (t : TypeId)
    (ho : o.op = .call { callee := .builtin .append, args := #[s, x], argTypes := #[t, t] })
    (base : Nat) (e : TypeId) (i : TypeInfo) (z : Value) (size bytes : Nat) (ht : P.underlying t = some (.slice e)) (hi : P.info? e = some i) (hz : i.zero = some z)
    (hsize : i.size = size) (hby : i.bytes = bytes) (hzs : z.cells.size = size) (hsz : 0 < size)
    (v : Value) (n : Nat) (xs : List Value) (hs : a.eval s = v) (hown : w.ownsRow base e size v n xs)
    (b : Nat) (es : List Value) (hb : w.heap[b]? = some (.cells es.toArray e (0, 0))) (hx : a.eval x = .slice (some ⟨b, 0, none⟩) 1 1) (hl : es.length = size) (h1 : ∀ u ∈ es, u.oneCell' = true)
    (h63 : n + 1 ≤ maxLen) (hbytes : (n + 1) * bytes ≤ 140737488355328) (hbase : base ≤ w.heap.size)
    (h : ∀ g cap w', w'.ownsRow base e size (.slice (some ⟨g, 0, none⟩) (n + 1) cap) (n + 1) (xs ++ es) → w.grownBy w' v.ownBlock →
      K (a.put o.dst (.slice (some ⟨g, 0, none⟩) (n + 1) cap)) w') :
    if Region.wanted o (yielded ops a.tmps) = true then Oper.wp P o a w K Q else E :=
  step_append_lies w hgd s x t ho base e i z size bytes ht hi hz hsize hby hzs hsz v n xs hs hown ⟨b, 0, none⟩ 1 1 es hx (by omega)
    (World.news_of_block (cs := es.toArray) hb) h1 (by omega) h63 hbytes hbase _ rfl fun g cap w' h1 h2 _ _ => h g cap w' h1 h2

theorem rR_new {l : List Int} {k : Nat} {qs : List (Int × Int)} {a b x : Int} (h : rgTo l k = qs ++ [(a, b)]) (hk : k < l.length) (hx : nth l k = x) (hne : ¬ x = b + 1) : rgTo l (k + 1) = qs ++ [(a, b)] ++ [(x, x)] := by
  rw [rgTo_succ l k hk, h, hx, stepR_new _ _ _ _ (by omega)]

set_option maxRecDepth 100000 in
set_option maxHeartbeats 2000000 in
theorem rRanges_yes (A : Option Addr) (n c : Nat) (l : List Int) (w : World) (hs : RdI w A n c l) (hn : n ≤ 10000) (h1 : isSetS 300 l = true) :
    Calls Try.prog 25 #[.slice A n c] w (GivePN (rangesS l) 0 w) := by
  obtain ⟨i0, hi, hz0, hz1, hz2⟩ := info_parts Try.info38
  have Hl := hid hs.len
  have Hsm : Hid (Small l) := fun y hy => by have := isSetS_mem h1 hy; omega
  go_enter Try.func25, Try.ntmps25
  go_wp2_with fail
  refine (IsSet_any _ _ _ _ _ hs).mono ?_
  rintro e w' ⟨rfl, k1, rfl⟩
  go_wp2_with fail
  clear h1
  go_loopw [4, 5] (fun v i wr => ∃ k j : Nat, k ≤ n ∧ j ≤ k ∧ i = .int .i64 k ∧ wr.ownsRow w.heap.size 38 2 v j (flat (rgTo l k)) ∧ Below w.heap.size w wr) (fun _ i _ => n - (intOf i).toNat)
  case atStart => exact ⟨0, 0, by omega, by omega, rfl, World.ownsRow_nil _ _ _ _, below_drewN (Below.refl _ _) _⟩
  case round =>
    obtain ⟨k, j, hk, hj, rfl, hown, hb⟩ := hrel
    have hbs := hb.size
    by_cases hlt : k < n
    · have hs1 := hs.ext (w' := wr) hb
      obtain ⟨ad, rfl, hc⟩ := hs1.at_ hlt
      have hkl : k < l.length := by rw [Hl.out]; exact hlt
      have Hst := hid (rgTo_succ l k hkl)
      have hbd := small_nth Hsm.out hkl
      have jl : (rgTo l k).length = j := by have := hown.1; rw [flat_len] at this; omega
      have HS : Hid (∀ w', Below w.heap.size w w' → (w'.cell? (ad.add k) = some (.int .i64 (nth l k)) ∧ Below w.heap.size w w')) := fun w' h => ⟨(hs.ext (w' := w') h).cells hlt, h⟩
      have i1 : (0 : Int) ≤ (k : Int) := by omega
      have i2 : (k : Int) < (n : Int) := by omega
      clear hkl
      rcases Nat.eq_zero_or_pos k with h0 | h0
      · subst h0
        obtain rfl : j = 0 := by omega
        have c0 := hs1.cell0 hlt
        have e0 : (((0 : Nat) : Int) == 0) = true := by simp
        have Hnew : Hid (rgTo l 1 = [] ++ [(nth l 0, nth l 0)]) := by unfold Hid; rw [Hst.out]; rfl
        have Hq0 : Hid (flat (rgTo l 0) ++ [.int .i64 (nth l 0), .int .i64 (nth l 0)] = flat ([] ++ [(nth l 0, nth l 0)])) := rfl
        clear jl
        go_wp2_with fail
        go_quiet (fail)
        go_wp2_with fail
        have own0 := own_drewN hown nq
        have bel0 := below_drewN hb nq
        go_region_held3 (fun w' => w'.cell? ad = some (.int .i64 (nth l 0)) ∧ Below w.heap.size w w')
          ((first | exact HS.out _ bel0.drew | (go_split_ands; exact HS.out _ (Below.alloc (by assumption) (by simp; omega) _)) | (go_split_ands; exact HS.out _ (below_push (by assumption) ((own0.alloc _).drew) hgrow (by simp; omega)))))
          ((refine step_push _ (by rfl) _ _ _ (by rfl) w.heap.size 38 i0 _ 2 16 Try.underlying35 hi hz0 hz1 hz2 rfl (by decide) _ _ _ (by rfl) ((own0.alloc _).drew) wr.heap.size [.int .i64 (nth l 0), .int .i64 (nth l 0)] (heap_alloc_new wr _) (by rfl) rfl (by simp [Value.oneCell']) (by unfold maxLen; omega) (by omega) (by simp; omega) ?_; intro g cap w1 hown1 hgrow))
        have own := hown1
        have bel : Below w.heap.size w w1 := by rename_i hH; exact hH.2
        clear hown1 hgrow
        rw [Hq0.out] at own
        have cw := (HS.out w1 bel).1
        have hcell : w1.cell? ⟨g, 1, none⟩ = some (.int .i64 (nth l 0)) := by rw [World.ownsRow.cellAt own _ (by omega)]; exact flat_last [] (nth l 0) (nth l 0) 0 rfl
        have hfree : w1.frozen? ⟨g, 1, none⟩ = false := World.ownsRow.frozenAt own _
        have st1 := World.ownsRow.stored own (1) (.int .i64 (nth l 0))
        rw [flat_set [] (nth l 0) (nth l 0) (nth l 0) 0 rfl] at st1
        have St1 := hid st1.1
        have hb1 := bel.size
        have St2 := hid (below_push bel own st1.2 hb1)
        clear st1
        go_wp2_with fail
        go_region
        go_wp2_with fail
        go_roundw
        case rel => exact ⟨1, 1, by omega, by omega, by go_num, by rw [Hnew.out]; exact St1.out, below_drewN St2.out 1⟩
        case measure => simp [intOf]; omega
      · rcases List.eq_nil_or_concat (rgTo l k) with hq | ⟨qs, ⟨a, b⟩, hq⟩
        · obtain ⟨qs', a', h'⟩ := rgTo_last l (k - 1) (by rw [Hl.out]; omega)
          rw [show k - 1 + 1 = k by omega, hq] at h'
          simp at h'
        rw [List.concat_eq_append] at hq
        obtain ⟨-, rfl⟩ := rgTo_b l k (by rw [Hl.out]; omega) qs a b hq
        have hpd := small_nth Hsm.out (k := k - 1) (by rw [Hl.out]; omega)
        have hcp := hs1.cells (k := k - 1) (by omega)
        have hkl : k < l.length := by rw [Hl.out]; exact hlt
        obtain ⟨j, rfl⟩ : ∃ j', j = j' + 1 := ⟨j - 1, by rw [hq] at jl; simp at jl; omega⟩
        have ql : qs.length = j := by rw [hq] at jl; simpa using jl
        obtain ⟨g, cap, rfl, hgb, hgl⟩ := World.ownsRow.form hown (by omega)
        rw [hq] at hown
        have hk0 : ((k : Int) == 0) = false := by simp; omega
        have e1 : ((k : Int) - 1).toNat = k - 1 := by omega
        have i3 : (0 : Int) ≤ (k : Int) - 1 := by omega
        have i4 : (k : Int) - 1 < (n : Int) := by omega
        have Ql := hid ql
        clear ql jl
        by_cases hx : nth l (k - 1) + 1 = nth l k
        · have e2 : (nth l k != nth l (k - 1) + 1) = false := by simp; omega
          have Hnew : Hid (rgTo l (k + 1) = qs ++ [(a, nth l k)]) := by unfold Hid; rw [Hst.out, hq, stepR_on _ _ _ _ hx]
          have Hq := hid hq
          clear hx hq hkl
          go_wp2_with fail
          go_quiet (fail)
          have own := own_drewN hown nq
          have bel := below_drewN hb nq
          generalize hw1 : wr.drewN nq = w1 at *
          clear hw1
          have cw := (HS.out w1 bel).1
          have hcell : w1.cell? ⟨g, j * 2 + 1, none⟩ = some (.int .i64 (nth l (k - 1))) := by rw [World.ownsRow.cellAt own _ (by omega)]; exact flat_last qs a (nth l (k - 1)) j Ql.out
          have hfree : w1.frozen? ⟨g, j * 2 + 1, none⟩ = false := World.ownsRow.frozenAt own _
          have st1 := World.ownsRow.stored own (j * 2 + 1) (.int .i64 (nth l k))
          rw [flat_set qs a (nth l (k - 1)) (nth l k) j Ql.out] at st1
          have St1 := hid st1.1
          have hb1 := bel.size
          have St2 := hid (below_push bel own st1.2 hb1)
          clear st1
          go_wp2_with fail
          go_region
          go_wp2_with fail
          go_roundw
          case rel => exact ⟨k + 1, j + 1, by omega, by omega, by go_num, by rw [Hnew.out]; exact St1.out, below_drewN St2.out 1⟩
          case measure => simp [intOf]; omega
        · have e2 : (nth l k != nth l (k - 1) + 1) = true := by simp; omega
          have Hnew : Hid (rgTo l (k + 1) = qs ++ [(a, nth l (k - 1))] ++ [(nth l k, nth l k)]) := by unfold Hid; rw [Hst.out, hq, stepR_new _ _ _ _ hx]
          have Hq0 : Hid (flat (qs ++ [(a, nth l (k - 1))]) ++ [.int .i64 (nth l k), .int .i64 (nth l k)] = flat (qs ++ [(a, nth l (k - 1))] ++ [(nth l k, nth l k)])) := by unfold Hid; rw [flat_append (qs ++ [(a, nth l (k - 1))])]; rfl
          have Ql2 : Hid ((qs ++ [(a, nth l (k - 1))]).length = j + 1) := by unfold Hid; rw [List.length_append, Ql.out]; rfl
          have Hq := hid hq
          clear hx hq hkl
          go_wp2_with fail
          go_quiet (fail)
          go_wp2_with fail
          have own0 := own_drewN hown nq
          have bel0 := below_drewN hb nq
          go_region_held3 (fun w' => w'.cell? (ad.add k) = some (.int .i64 (nth l k)) ∧ Below w.heap.size w w')
            ((first | exact HS.out _ bel0.drew | (go_split_ands; exact HS.out _ (Below.alloc (by assumption) (by simp; omega) _)) | (go_split_ands; exact HS.out _ (below_push (by assumption) ((own0.alloc _).drew) hgrow (by simp; omega)))))
            ((refine step_push _ (by rfl) _ _ _ (by rfl) w.heap.size 38 i0 _ 2 16 Try.underlying35 hi hz0 hz1 hz2 rfl (by decide) _ _ _ (by rfl) ((own0.alloc _).drew) wr.heap.size [.int .i64 (nth l k), .int .i64 (nth l k)] (heap_alloc_new wr _) (by rfl) rfl (by simp [Value.oneCell']) (by unfold maxLen; omega) (by omega) (by simp; omega) ?_; intro g1 cap1 w1 hown1 hgrow))
          have own := hown1
          have bel : Below w.heap.size w w1 := by rename_i hH; exact hH.2
          clear hown1 hgrow
          rw [Hq0.out] at own
          have cw := (HS.out w1 bel).1
          have hcell : w1.cell? ⟨g1, (j + 1) * 2 + 1, none⟩ = some (.int .i64 (nth l k)) := by rw [World.ownsRow.cellAt own _ (by omega)]; exact flat_last (qs ++ [(a, nth l (k - 1))]) (nth l k) (nth l k) (j + 1) Ql2.out
          have hfree : w1.frozen? ⟨g1, (j + 1) * 2 + 1, none⟩ = false := World.ownsRow.frozenAt own _
          have st1 := World.ownsRow.stored own ((j + 1) * 2 + 1) (.int .i64 (nth l k))
          rw [flat_set (qs ++ [(a, nth l (k - 1))]) (nth l k) (nth l k) (nth l k) (j + 1) Ql2.out] at st1
          have St1 := hid st1.1
          have hb1 := bel.size
          have St2 := hid (below_push bel own st1.2 hb1)
          clear st1
          go_wp2_with fail
          go_region
          go_wp2_with fail
          go_roundw
          case rel => exact ⟨k + 1, (j + 1) + 1, by omega, by omega, by go_num, by rw [Hnew.out]; exact St1.out, below_drewN St2.out 1⟩
          case measure => simp [intOf]; omega
    · go_wp2
      obtain ⟨A1, c1, rfl, hcc⟩ := own_form hown
      go_ret2
      obtain rfl : k = n := by omega
      exact ⟨A1, _, c1, rfl, by unfold rangesS; rw [Hl.out]; exact Rd.of_own hown, hb, own_fresh hown⟩
end Go.Proofs.Ytffcaoicokookaa
