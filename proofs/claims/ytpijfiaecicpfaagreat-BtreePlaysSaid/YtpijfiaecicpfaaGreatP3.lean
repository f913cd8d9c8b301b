/-
  Three nodes in memory: what is turned one after the other; slices.Clone; slices.Insert of one element: where there is no room, at the end, and all together; split: a kid of five entries becomes two.
-/
import Derived.Test.YtpijfiaecicpfaaGreatP2
namespace Go.Proofs.YtpijfiaecicpfaaGreat
open Go.RowKit Go.Shelf
set_option linter.unusedVariables false
set_option linter.unusedSimpArgs false
set_option maxRecDepth 100000 in
set_option maxHeartbeats 4000000 in
theorem insB_N (g n i j t : Nat) (cur ns : List Value) (va : Nat) (w : World) (hj : Hid (j = i + 1)) (ht : Hid (t = n + 1)) (hin : i < n) (hjt : j < t) (hnt : n < t) (hc : n ≤ 1000000) (hcur : cur.length = n * 2) (hns : Hid (ns.length = 1 * 2)) (hne : g ≠ va)
    (hg : Hid (w.heap[g]? = some (.cells cur.toArray 83 (0, 0)))) (hv : Hid (w.heap[va]? = some (.cells ns.toArray 83 (0, 0)))) (ho : Hid (∀ v ∈ cur.take (n * 2), v.oneCell' = true)) (hon : Hid (∀ v ∈ ns, v.oneCell' = true)) :
    Calls Tryz.prog 88 #[.slice (some ⟨g, 0, none⟩) n n, .int .i64 i, .slice (some ⟨va, 0, none⟩) 1 1] w fun e w' => ∃ (c' : Nat) (r : List Value), e = .returned (.slice (some ⟨w.heap.size, 0, none⟩) t c') ∧ t ≤ c' ∧ c' ≤ maxLen ∧ r.length = c' * 2 ∧ r.take (t * 2) = cur.take (i * 2) ++ (ns ++ (cur.drop (i * 2)).take ((n - i) * 2)) ∧ w'.heap[w.heap.size]? = some (.cells r.toArray 83 (0, 0)) ∧ Ext w w' := by
  have q1 : ((i : Int) == (n : Int)) = false := by rw [beq_eq_false_iff_ne]; omega
  have q3 : IntKind.i64.wrap ((n : Int) + 1) = t := by rw [IntWalk.i64_in _ (by omega), ht.out]; omega
  have q4 : IntKind.i64.wrap ((i : Int) + 1) = j := by rw [IntWalk.i64_in _ (by omega), hj.out]; omega
  have q5 : ((n : Int) + 1) = t := by rw [ht.out]; omega
  have q6 : ((i : Int) + 1) = j := by rw [hj.out]; omega
  have q7 : IntKind.i64.wrap ((t : Int) - (i : Int)) = ((t - i : Nat) : Int) := by have := ht.out; rw [IntWalk.i64_in _ (by omega)]; omega
  have hin2 : i ≤ n := by omega
  obtain ⟨c', r, hap, hc1, hc2, hr1, hr2⟩ := azero_N w g n i (t - i) cur hg hcur hin2 (by omega) (by omega) (by have := ht.out; omega)
  rw [show i + (t - i) = t by omega] at hap hc1
  have hxa : Hid (Ext w (w.drew.alloc (.cells r.toArray 83))) := ((Ext.refl w).drew_right).alloc_right _
  have hga : Hid ((w.drew.alloc (.cells r.toArray 83)).heap[w.heap.size]? = some (.cells r.toArray 83 (0, 0))) := heap_alloc_new w.drew _
  have hgb : Hid ((w.drew.alloc (.cells r.toArray 83)).heap[g]? = some (.cells cur.toArray 83 (0, 0))) := (hxa.out.block (Array.getElem?_eq_some_iff.1 hg.out).1).trans hg.out
  have hva : Hid ((w.drew.alloc (.cells r.toArray 83)).heap[va]? = some (.cells ns.toArray 83 (0, 0))) := (hxa.out.block (Array.getElem?_eq_some_iff.1 hv.out).1).trans hv.out
  have hgl : Hid (g < w.heap.size ∧ va < w.heap.size) := ⟨(Array.getElem?_eq_some_iff.1 hg.out).1, (Array.getElem?_eq_some_iff.1 hv.out).1⟩
  have hcb : c' ≤ 9223372036854775807 := hc2
  have hq0 : ¬ c' = i := by omega
  have hq9 : ¬ c' = j := by omega
  have hni : ¬ n = i := by omega
  have hit : i ≤ t := by omega
  have hjt2 : j ≤ t := by omega
  go_enter Tryz.func88, Tryz.ntmps88
  go_wp2_with (at_builtin; refine Lib.wpList_append_run _ rfl _ _ _ _ rfl _ _ rfl rfl _ _ hap ?_; clear hap; generalize w.drew.alloc (.cells r.toArray 83) = w2 at *)
  have hgl2 := hgl.out
  generalize hGe : w.heap.size = G at *
  replace hGe := hid hGe
  clear hgl hg hv
  have hsrc : ∀ k v, ns[k]? = some v → w2.cell? ((⟨va, 0, none⟩ : Addr).add k) = some v := fun k v h => row_cell hva.out 0 k (by rw [Nat.zero_add]; exact h)
  have hfit : i * 2 + ns.length ≤ r.length := by rw [hr1, hns.out]; have := hj.out; have := ht.out; omega
  have hmn : Hid (Nat.min 1 (t - i) = 1) := Nat.min_eq_left (by omega)
  have hmn2 : Hid (Nat.min (n - i) (t - j) = n - i) := Nat.min_eq_left (by have := hj.out; have := ht.out; omega)
  obtain ⟨w3, hcp, hg3, hr3⟩ := ex_copy_k (P := Tryz.prog) w2 52 52 3 83 2 G (i * 2) (t - i) (c' - i) ⟨va, 0, none⟩ 1 1 r _ ns Tryz.underlying52 (by kernel_rfl) hga 1 hmn hns hsrc hfit hon.out
  have hl3 : Hid ((splice r (i * 2) ns).length = c' * 2) := by unfold Hid; rw [length_splice _ _ _ hfit]; exact hr1
  have hgb3 : Hid (w3.drew.heap[g]? = some (.cells cur.toArray 83 (0, 0))) := (hr3.out.block g (Array.getElem?_eq_some_iff.1 hgb.out).1 (fun e => by have := Option.some.inj e; omega)).trans hgb.out
  have hg3d : Hid (w3.drew.heap[G]? = some (.cells (splice r (i * 2) ns).toArray 83 (0, 0))) := hg3.out
  have hx3 : Hid (Ext w w3.drew) := ⟨hr3.out.os.trans hxa.out.os, hr3.out.tape.trans hxa.out.tape, hr3.out.output.trans hxa.out.output, Nat.le_trans hxa.out.size hr3.out.size, fun k hk => (hr3.out.block k (Nat.lt_of_lt_of_le hk hxa.out.size) (fun e => by have := Option.some.inj e; rw [hGe.out] at hk; omega)).trans (hxa.out.block hk)⟩
  clear hsrc hfit hr3 hg3 hga hgb hva hxa
  have hsrc := hid (seg_src hgb3.out (i * 2) ((n - i) * 2))
  have hone := hid (one_seg ho.out (i * 2) ((n - i) * 2) (by omega))
  have hcl : Hid (((cur.drop (i * 2)).take ((n - i) * 2)).length = (n - i) * 2) := by unfold Hid; rw [List.length_take, List.length_drop, hcur]; apply Nat.min_eq_left; omega
  generalize hq1 : (cur.drop (i * 2)).take ((n - i) * 2) = cs at *
  replace hq1 := hid hq1
  have hfit : j * 2 + cs.length ≤ (splice r (i * 2) ns).length := by rw [hl3.out, hcl.out]; have := hj.out; have := ht.out; omega
  obtain ⟨w4, hcp2, hg4, hr4⟩ := ex_copy_k (P := Tryz.prog) w3.drew 52 52 3 83 2 G (j * 2) (t - j) (c' - j) ⟨g, i * 2, none⟩ (n - i) (n - i) (splice r (i * 2) ns) _ cs Tryz.underlying52 (by kernel_rfl) hg3d (n - i) hmn2 hcl hsrc.out hfit hone.out
  have hl4 : Hid ((splice (splice r (i * 2) ns) (j * 2) cs).length = c' * 2) := by unfold Hid; rw [length_splice _ _ _ hfit]; exact hl3.out
  have hx4 : Hid (Ext w w4) := ⟨hr4.out.os.trans hx3.out.os, hr4.out.tape.trans hx3.out.tape, hr4.out.output.trans hx3.out.output, Nat.le_trans hx3.out.size hr4.out.size, fun k hk => (hr4.out.block k (Nat.lt_of_lt_of_le hk hx3.out.size) (fun e => by have := Option.some.inj e; rw [hGe.out] at hk; omega)).trans (hx3.out.block hk)⟩
  have hfin : Hid ((splice (splice r (i * 2) ns) (j * 2) cs).take (t * 2) = cur.take (i * 2) ++ (ns ++ cs)) := by
    have h := splice_out2 (r := r) (ns := ns) (cs := cs) (a := i * 2) (b := j * 2) (by have := hj.out; rw [hns.out]; omega) (by rw [hr1, hcl.out]; have := hj.out; have := ht.out; omega)
    rw [hr2, hcl.out, show j * 2 + (n - i) * 2 = t * 2 by have := hj.out; have := ht.out; omega] at h
    exact h
  generalize splice (splice r (i * 2) ns) (j * 2) cs = r4 at *
  clear hsrc hone hfit hr4 hg3d hgb3 hx3
  try simp only [Nat.mul_one] at hcp
  try simp only [Nat.mul_one] at hcp2
  rw [hcp]
  clear hcp
  go_upto_region 11 with fail
  go_region
  go_wp2_with fail
  go_ret
  rw [hGe.out]
  exact ⟨c', r4, rfl, hc1, hc2, hl4.out, by rw [hq1.out]; exact hfin.out, hg4.out, hx4.out⟩
set_option maxRecDepth 100000 in
set_option maxHeartbeats 4000000 in
theorem insC_N (n : Nat) (v : Value) (xs ns : List Value) (va : Nat) (w : World) (hn : n ≤ 1000000) (hown : w.ownsRow 0 83 2 v n xs) (hv : w.heap[va]? = some (.cells ns.toArray 83 (0, 0))) (hns : ns.length = 1 * 2) (hon : ∀ v ∈ ns, v.oneCell' = true) :
    Calls Tryz.prog 88 #[v, .int .i64 n, .slice (some ⟨va, 0, none⟩) 1 1] w fun e w' => ∃ v', e = .returned v' ∧ w'.ownsRow 0 83 2 v' (n + 1) (xs ++ ns) ∧ Rw v v' w w' := by
  obtain ⟨i0, hi0, hz0, hz1, hz2⟩ := info_parts infoN
  obtain ⟨A, c, rfl, hr⟩ := own_rd hown
  have hmx := Rd.max hr
  have hnews : Hid (∀ j u, ns[j]? = some u → w.cell? ((⟨va, 0, none⟩ : Addr).add j) = some u) := fun k v h => row_cell hv 0 k (by rw [Nat.zero_add]; exact h)
  replace hns := hid hns
  replace hon := hid hon
  clear hr hv
  generalize hG : w.heap.size = G at *
  replace hG := hid hG
  rcases A with _ | ad
  · obtain ⟨rfl, rfl, rfl⟩ := own_none hown
    replace hown := hid hown
    go_enter Tryz.func88, Tryz.ntmps88
    go_wp2_with (at_builtin; refine wpList_append_lies _ rfl _ _ 52 rfl 0 83 i0 _ 2 24 Tryz.underlying52 hi0 hz0 hz1 hz2 rfl (by decide) _ _ _ rfl hown.out ⟨va, 0, none⟩ 1 1 ns rfl hns.out hnews.out hon.out (by decide) (by unfold maxLen; omega) (by omega) (Nat.zero_le _) G hG.out ?_)
    intro g' cap w1 own1 hg1 hat _
    have hrw : Hid (Rw (.slice none 0 0) (.slice (some ⟨g', 0, none⟩) (0 + 1) cap) w w1) := by
      refine ⟨hg1, ?_⟩
      rcases hat with h | h
      · left; rw [h]; rfl
      · right; intro k hk; have : g' = k := by simpa [Value.ownBlock] using hk
        have := hG.out; omega
    replace own1 := hid own1
    clear hg1 hat
    go_wp2
    go_ret
    exact ⟨_, rfl, own1.out, hrw.out⟩
  · replace hown := hid hown
    by_cases hcn : c = n
    · subst hcn
      go_enter Tryz.func88, Tryz.ntmps88
      go_wp2_with (at_builtin; refine wpList_append_lies _ rfl _ _ 52 rfl 0 83 i0 _ 2 24 Tryz.underlying52 hi0 hz0 hz1 hz2 rfl (by decide) _ _ _ rfl hown.out ⟨va, 0, none⟩ 1 1 ns rfl hns.out hnews.out hon.out (by decide) (by unfold maxLen; omega) (by omega) (Nat.zero_le _) G hG.out ?_)
      intro g' cap w1 own1 hg1 hat _
      have hrw : Hid (Rw (.slice (some ad) c c) (.slice (some ⟨g', 0, none⟩) (c + 1) cap) w w1) := by
        refine ⟨hg1, ?_⟩
        rcases hat with h | h
        · left; rw [h]; rfl
        · right; intro k hk; have : g' = k := by simpa [Value.ownBlock] using hk
          have := hG.out; omega
      replace own1 := hid own1
      clear hg1 hat
      go_wp2
      go_ret
      exact ⟨_, rfl, own1.out, hrw.out⟩
    · go_enter Tryz.func88, Tryz.ntmps88
      go_wp2_with (at_builtin; refine wpList_append_lies _ rfl _ _ 52 rfl 0 83 i0 _ 2 24 Tryz.underlying52 hi0 hz0 hz1 hz2 rfl (by decide) _ _ _ rfl hown.out ⟨va, 0, none⟩ 1 1 ns rfl hns.out hnews.out hon.out (by decide) (by unfold maxLen; omega) (by omega) (Nat.zero_le _) G hG.out ?_)
      intro g' cap w1 own1 hg1 hat _
      have hrw : Hid (Rw (.slice (some ad) n c) (.slice (some ⟨g', 0, none⟩) (n + 1) cap) w w1) := by
        refine ⟨hg1, ?_⟩
        rcases hat with h | h
        · left; rw [h]; rfl
        · right; intro k hk; have : g' = k := by simpa [Value.ownBlock] using hk
          have := hG.out; omega
      replace own1 := hid own1
      clear hg1 hat
      go_wp2
      go_ret
      exact ⟨_, rfl, own1.out, hrw.out⟩
theorem ins_N (n i : Nat) (v : Value) (xs ns : List Value) (va : Nat) (w : World) (hi : i ≤ n) (hn : n ≤ 1000000) (hown : w.ownsRow 0 83 2 v n xs) (h1 : ∀ u ∈ xs, u.oneCell' = true) (hv : w.heap[va]? = some (.cells ns.toArray 83 (0, 0))) (hns : ns.length = 1 * 2) (hon : ∀ v ∈ ns, v.oneCell' = true) (hne : v.ownBlock ≠ some va) :
    Calls Tryz.prog 88 #[v, .int .i64 i, .slice (some ⟨va, 0, none⟩) 1 1] w fun e w' => ∃ v', e = .returned v' ∧ w'.ownsRow 0 83 2 v' (n + 1) (xs.take (i * 2) ++ (ns ++ xs.drop (i * 2))) ∧ Rw v v' w w' := by
  have hxl : xs.length = n * 2 := hown.1
  by_cases hin : i = n
  · subst hin
    rw [List.take_of_length_le (by omega), List.drop_of_length_le (by omega), List.append_nil]
    exact insC_N i v xs ns va w hn hown hv hns hon
  · obtain ⟨g, c, cur, rfl, hg, hnc, hc, hl, ht⟩ := row_open hown (by omega)
    have hgv : g ≠ va := fun e => hne (by rw [e]; rfl)
    have e1 : cur.take (i * 2) = xs.take (i * 2) := by rw [← ht, List.take_take, Nat.min_eq_left (by omega)]
    have e2 : (cur.drop (i * 2)).take ((n - i) * 2) = xs.drop (i * 2) := by
      rw [← ht, List.drop_take]
      congr 1
      omega
    have hcl : ((cur.drop (i * 2)).take ((n - i) * 2)).length = (n - i) * 2 := by rw [e2, List.length_drop, hxl]; omega
    have hlen : (xs.take (i * 2) ++ (ns ++ xs.drop (i * 2))).length = (n + 1) * 2 := by
      rw [List.length_append, List.length_append, List.length_take, List.length_drop, hns, hxl]; omega
    by_cases hroom : n + 1 ≤ c
    · refine (insA_N g n c i (i + 1) (n + 1) cur ns va w rfl rfl (by omega) (by omega) (by omega) hroom hc hn hl hns hgv hg hv (by rw [ht]; exact h1) hon).mono ?_
      rintro e w' ⟨rfl, h2, h3⟩
      refine ⟨_, rfl, row_shut h2.out hroom hc (by rw [length_splice _ _ _ (by rw [length_splice _ _ _ (by rw [hcl, hl]; omega), hl, hns]; omega), length_splice _ _ _ (by rw [hcl, hl]; omega)]; exact hl) hlen ?_, h3.out, .inl rfl⟩
      have h := splice_in2 (cur := cur) (ns := ns) (cs := (cur.drop (i * 2)).take ((n - i) * 2)) (a := i * 2) (b := (i + 1) * 2) (by rw [hns]; omega) (by rw [hcl, hl]; omega)
      rw [hcl, show (i + 1) * 2 + (n - i) * 2 = (n + 1) * 2 by omega] at h
      rw [h, e1, e2]
    · obtain rfl : c = n := by omega
      refine (insB_N g c i (i + 1) (c + 1) cur ns va w rfl rfl (by omega) (by omega) (by omega) hn hl hns hgv hg hv (by rw [ht]; exact h1) hon).mono ?_
      rintro e w' ⟨c', r, rfl, h2, h3, h4, h5, h6, h7⟩
      refine ⟨_, rfl, row_shut h6 h2 h3 h4 hlen (by rw [h5, e1, e2]), Ext.grown h7 _, .inr (fun k hk => ?_)⟩
      have : w.heap.size = k := by simpa [Value.ownBlock] using hk
      omega
set_option maxRecDepth 100000 in
set_option maxHeartbeats 4000000 in
theorem insB_K (g n i j t : Nat) (cur ns : List Value) (va : Nat) (w : World) (hj : Hid (j = i + 1)) (ht : Hid (t = n + 1)) (hin : i < n) (hjt : j < t) (hnt : n < t) (hc : n ≤ 1000000) (hcur : cur.length = n * 1) (hns : Hid (ns.length = 1 * 1)) (hne : g ≠ va)
    (hg : Hid (w.heap[g]? = some (.cells cur.toArray 51 (0, 0)))) (hv : Hid (w.heap[va]? = some (.cells ns.toArray 51 (0, 0)))) (ho : Hid (∀ v ∈ cur.take (n * 1), v.oneCell' = true)) (hon : Hid (∀ v ∈ ns, v.oneCell' = true)) :
    Calls Tryz.prog 91 #[.slice (some ⟨g, 0, none⟩) n n, .int .i64 i, .slice (some ⟨va, 0, none⟩) 1 1] w fun e w' => ∃ (c' : Nat) (r : List Value), e = .returned (.slice (some ⟨w.heap.size, 0, none⟩) t c') ∧ t ≤ c' ∧ c' ≤ maxLen ∧ r.length = c' * 1 ∧ r.take (t * 1) = cur.take (i * 1) ++ (ns ++ (cur.drop (i * 1)).take ((n - i) * 1)) ∧ w'.heap[w.heap.size]? = some (.cells r.toArray 51 (0, 0)) ∧ Ext w w' := by
  have q1 : ((i : Int) == (n : Int)) = false := by rw [beq_eq_false_iff_ne]; omega
  have q3 : IntKind.i64.wrap ((n : Int) + 1) = t := by rw [IntWalk.i64_in _ (by omega), ht.out]; omega
  have q4 : IntKind.i64.wrap ((i : Int) + 1) = j := by rw [IntWalk.i64_in _ (by omega), hj.out]; omega
  have q5 : ((n : Int) + 1) = t := by rw [ht.out]; omega
  have q6 : ((i : Int) + 1) = j := by rw [hj.out]; omega
  have q7 : IntKind.i64.wrap ((t : Int) - (i : Int)) = ((t - i : Nat) : Int) := by have := ht.out; rw [IntWalk.i64_in _ (by omega)]; omega
  have hin2 : i ≤ n := by omega
  obtain ⟨c', r, hap, hc1, hc2, hr1, hr2⟩ := azero_K w g n i (t - i) cur hg hcur hin2 (by omega) (by omega) (by have := ht.out; omega)
  rw [show i + (t - i) = t by omega] at hap hc1
  have hxa : Hid (Ext w (w.drew.alloc (.cells r.toArray 51))) := ((Ext.refl w).drew_right).alloc_right _
  have hga : Hid ((w.drew.alloc (.cells r.toArray 51)).heap[w.heap.size]? = some (.cells r.toArray 51 (0, 0))) := heap_alloc_new w.drew _
  have hgb : Hid ((w.drew.alloc (.cells r.toArray 51)).heap[g]? = some (.cells cur.toArray 51 (0, 0))) := (hxa.out.block (Array.getElem?_eq_some_iff.1 hg.out).1).trans hg.out
  have hva : Hid ((w.drew.alloc (.cells r.toArray 51)).heap[va]? = some (.cells ns.toArray 51 (0, 0))) := (hxa.out.block (Array.getElem?_eq_some_iff.1 hv.out).1).trans hv.out
  have hgl : Hid (g < w.heap.size ∧ va < w.heap.size) := ⟨(Array.getElem?_eq_some_iff.1 hg.out).1, (Array.getElem?_eq_some_iff.1 hv.out).1⟩
  have hcb : c' ≤ 9223372036854775807 := hc2
  have hq0 : ¬ c' = i := by omega
  have hq9 : ¬ c' = j := by omega
  have hni : ¬ n = i := by omega
  have hit : i ≤ t := by omega
  have hjt2 : j ≤ t := by omega
  go_enter Tryz.func91, Tryz.ntmps91
  go_wp2_with (at_builtin; refine Lib.wpList_append_run _ rfl _ _ _ _ rfl _ _ rfl rfl _ _ hap ?_; clear hap; generalize w.drew.alloc (.cells r.toArray 51) = w2 at *)
  have hgl2 := hgl.out
  generalize hGe : w.heap.size = G at *
  replace hGe := hid hGe
  clear hgl hg hv
  have hsrc : ∀ k v, ns[k]? = some v → w2.cell? ((⟨va, 0, none⟩ : Addr).add k) = some v := fun k v h => row_cell hva.out 0 k (by rw [Nat.zero_add]; exact h)
  have hfit : i * 1 + ns.length ≤ r.length := by rw [hr1, hns.out]; have := hj.out; have := ht.out; omega
  have hmn : Hid (Nat.min 1 (t - i) = 1) := Nat.min_eq_left (by omega)
  have hmn2 : Hid (Nat.min (n - i) (t - j) = n - i) := Nat.min_eq_left (by have := hj.out; have := ht.out; omega)
  obtain ⟨w3, hcp, hg3, hr3⟩ := ex_copy_k (P := Tryz.prog) w2 53 53 3 51 1 G (i * 1) (t - i) (c' - i) ⟨va, 0, none⟩ 1 1 r _ ns Tryz.underlying53 (by kernel_rfl) hga 1 hmn hns hsrc hfit hon.out
  have hl3 : Hid ((splice r (i * 1) ns).length = c' * 1) := by unfold Hid; rw [length_splice _ _ _ hfit]; exact hr1
  have hgb3 : Hid (w3.drew.heap[g]? = some (.cells cur.toArray 51 (0, 0))) := (hr3.out.block g (Array.getElem?_eq_some_iff.1 hgb.out).1 (fun e => by have := Option.some.inj e; omega)).trans hgb.out
  have hg3d : Hid (w3.drew.heap[G]? = some (.cells (splice r (i * 1) ns).toArray 51 (0, 0))) := hg3.out
  have hx3 : Hid (Ext w w3.drew) := ⟨hr3.out.os.trans hxa.out.os, hr3.out.tape.trans hxa.out.tape, hr3.out.output.trans hxa.out.output, Nat.le_trans hxa.out.size hr3.out.size, fun k hk => (hr3.out.block k (Nat.lt_of_lt_of_le hk hxa.out.size) (fun e => by have := Option.some.inj e; rw [hGe.out] at hk; omega)).trans (hxa.out.block hk)⟩
  clear hsrc hfit hr3 hg3 hga hgb hva hxa
  have hsrc := hid (seg_src hgb3.out (i * 1) ((n - i) * 1))
  have hone := hid (one_seg ho.out (i * 1) ((n - i) * 1) (by omega))
  have hcl : Hid (((cur.drop (i * 1)).take ((n - i) * 1)).length = (n - i) * 1) := by unfold Hid; rw [List.length_take, List.length_drop, hcur]; apply Nat.min_eq_left; omega
  generalize hq1 : (cur.drop (i * 1)).take ((n - i) * 1) = cs at *
  replace hq1 := hid hq1
  have hfit : j * 1 + cs.length ≤ (splice r (i * 1) ns).length := by rw [hl3.out, hcl.out]; have := hj.out; have := ht.out; omega
  obtain ⟨w4, hcp2, hg4, hr4⟩ := ex_copy_k (P := Tryz.prog) w3.drew 53 53 3 51 1 G (j * 1) (t - j) (c' - j) ⟨g, i * 1, none⟩ (n - i) (n - i) (splice r (i * 1) ns) _ cs Tryz.underlying53 (by kernel_rfl) hg3d (n - i) hmn2 hcl hsrc.out hfit hone.out
  have hl4 : Hid ((splice (splice r (i * 1) ns) (j * 1) cs).length = c' * 1) := by unfold Hid; rw [length_splice _ _ _ hfit]; exact hl3.out
  have hx4 : Hid (Ext w w4) := ⟨hr4.out.os.trans hx3.out.os, hr4.out.tape.trans hx3.out.tape, hr4.out.output.trans hx3.out.output, Nat.le_trans hx3.out.size hr4.out.size, fun k hk => (hr4.out.block k (Nat.lt_of_lt_of_le hk hx3.out.size) (fun e => by have := Option.some.inj e; rw [hGe.out] at hk; omega)).trans (hx3.out.block hk)⟩
  have hfin : Hid ((splice (splice r (i * 1) ns) (j * 1) cs).take (t * 1) = cur.take (i * 1) ++ (ns ++ cs)) := by
    have h := splice_out2 (r := r) (ns := ns) (cs := cs) (a := i * 1) (b := j * 1) (by have := hj.out; rw [hns.out]; omega) (by rw [hr1, hcl.out]; have := hj.out; have := ht.out; omega)
    rw [hr2, hcl.out, show j * 1 + (n - i) * 1 = t * 1 by have := hj.out; have := ht.out; omega] at h
    exact h
  generalize splice (splice r (i * 1) ns) (j * 1) cs = r4 at *
  clear hsrc hone hfit hr4 hg3d hgb3 hx3
  try simp only [Nat.mul_one] at hcp
  try simp only [Nat.mul_one] at hcp2
  rw [hcp]
  clear hcp
  go_upto_region 11 with fail
  go_region
  go_wp2_with fail
  go_ret
  rw [hGe.out]
  exact ⟨c', r4, rfl, hc1, hc2, hl4.out, by rw [hq1.out]; exact hfin.out, hg4.out, hx4.out⟩
set_option maxRecDepth 100000 in
set_option maxHeartbeats 4000000 in
theorem insC_K (n : Nat) (v : Value) (xs ns : List Value) (va : Nat) (w : World) (hn : n ≤ 1000000) (hown : w.ownsRow 0 51 1 v n xs) (hv : w.heap[va]? = some (.cells ns.toArray 51 (0, 0))) (hns : ns.length = 1 * 1) (hon : ∀ v ∈ ns, v.oneCell' = true) :
    Calls Tryz.prog 91 #[v, .int .i64 n, .slice (some ⟨va, 0, none⟩) 1 1] w fun e w' => ∃ v', e = .returned v' ∧ w'.ownsRow 0 51 1 v' (n + 1) (xs ++ ns) ∧ Rw v v' w w' := by
  obtain ⟨i0, hi0, hz0, hz1, hz2⟩ := info_parts infoK
  obtain ⟨A, c, rfl, hr⟩ := own_rd hown
  have hmx := Rd.max hr
  have hnews : Hid (∀ j u, ns[j]? = some u → w.cell? ((⟨va, 0, none⟩ : Addr).add j) = some u) := fun k v h => row_cell hv 0 k (by rw [Nat.zero_add]; exact h)
  replace hns := hid hns
  replace hon := hid hon
  clear hr hv
  generalize hG : w.heap.size = G at *
  replace hG := hid hG
  rcases A with _ | ad
  · obtain ⟨rfl, rfl, rfl⟩ := own_none hown
    replace hown := hid hown
    go_enter Tryz.func91, Tryz.ntmps91
    go_wp2_with (at_builtin; refine wpList_append_lies _ rfl _ _ 53 rfl 0 51 i0 _ 1 8 Tryz.underlying53 hi0 hz0 hz1 hz2 rfl (by decide) _ _ _ rfl hown.out ⟨va, 0, none⟩ 1 1 ns rfl hns.out hnews.out hon.out (by decide) (by unfold maxLen; omega) (by omega) (Nat.zero_le _) G hG.out ?_)
    intro g' cap w1 own1 hg1 hat _
    have hrw : Hid (Rw (.slice none 0 0) (.slice (some ⟨g', 0, none⟩) (0 + 1) cap) w w1) := by
      refine ⟨hg1, ?_⟩
      rcases hat with h | h
      · left; rw [h]; rfl
      · right; intro k hk; have : g' = k := by simpa [Value.ownBlock] using hk
        have := hG.out; omega
    replace own1 := hid own1
    clear hg1 hat
    go_wp2
    go_ret
    exact ⟨_, rfl, own1.out, hrw.out⟩
  · replace hown := hid hown
    by_cases hcn : c = n
    · subst hcn
      go_enter Tryz.func91, Tryz.ntmps91
      go_wp2_with (at_builtin; refine wpList_append_lies _ rfl _ _ 53 rfl 0 51 i0 _ 1 8 Tryz.underlying53 hi0 hz0 hz1 hz2 rfl (by decide) _ _ _ rfl hown.out ⟨va, 0, none⟩ 1 1 ns rfl hns.out hnews.out hon.out (by decide) (by unfold maxLen; omega) (by omega) (Nat.zero_le _) G hG.out ?_)
      intro g' cap w1 own1 hg1 hat _
      have hrw : Hid (Rw (.slice (some ad) c c) (.slice (some ⟨g', 0, none⟩) (c + 1) cap) w w1) := by
        refine ⟨hg1, ?_⟩
        rcases hat with h | h
        · left; rw [h]; rfl
        · right; intro k hk; have : g' = k := by simpa [Value.ownBlock] using hk
          have := hG.out; omega
      replace own1 := hid own1
      clear hg1 hat
      go_wp2
      go_ret
      exact ⟨_, rfl, own1.out, hrw.out⟩
    · go_enter Tryz.func91, Tryz.ntmps91
      go_wp2_with (at_builtin; refine wpList_append_lies _ rfl _ _ 53 rfl 0 51 i0 _ 1 8 Tryz.underlying53 hi0 hz0 hz1 hz2 rfl (by decide) _ _ _ rfl hown.out ⟨va, 0, none⟩ 1 1 ns rfl hns.out hnews.out hon.out (by decide) (by unfold maxLen; omega) (by omega) (Nat.zero_le _) G hG.out ?_)
      intro g' cap w1 own1 hg1 hat _
      have hrw : Hid (Rw (.slice (some ad) n c) (.slice (some ⟨g', 0, none⟩) (n + 1) cap) w w1) := by
        refine ⟨hg1, ?_⟩
        rcases hat with h | h
        · left; rw [h]; rfl
        · right; intro k hk; have : g' = k := by simpa [Value.ownBlock] using hk
          have := hG.out; omega
      replace own1 := hid own1
      clear hg1 hat
      go_wp2
      go_ret
      exact ⟨_, rfl, own1.out, hrw.out⟩
theorem ins_K (n i : Nat) (v : Value) (xs ns : List Value) (va : Nat) (w : World) (hi : i ≤ n) (hn : n ≤ 1000000) (hown : w.ownsRow 0 51 1 v n xs) (h1 : ∀ u ∈ xs, u.oneCell' = true) (hv : w.heap[va]? = some (.cells ns.toArray 51 (0, 0))) (hns : ns.length = 1 * 1) (hon : ∀ v ∈ ns, v.oneCell' = true) (hne : v.ownBlock ≠ some va) :
    Calls Tryz.prog 91 #[v, .int .i64 i, .slice (some ⟨va, 0, none⟩) 1 1] w fun e w' => ∃ v', e = .returned v' ∧ w'.ownsRow 0 51 1 v' (n + 1) (xs.take (i * 1) ++ (ns ++ xs.drop (i * 1))) ∧ Rw v v' w w' := by
  have hxl : xs.length = n * 1 := hown.1
  by_cases hin : i = n
  · subst hin
    rw [List.take_of_length_le (by omega), List.drop_of_length_le (by omega), List.append_nil]
    exact insC_K i v xs ns va w hn hown hv hns hon
  · obtain ⟨g, c, cur, rfl, hg, hnc, hc, hl, ht⟩ := row_open hown (by omega)
    have hgv : g ≠ va := fun e => hne (by rw [e]; rfl)
    have e1 : cur.take (i * 1) = xs.take (i * 1) := by rw [← ht, List.take_take, Nat.min_eq_left (by omega)]
    have e2 : (cur.drop (i * 1)).take ((n - i) * 1) = xs.drop (i * 1) := by
      rw [← ht, List.drop_take]
      congr 1
      omega
    have hcl : ((cur.drop (i * 1)).take ((n - i) * 1)).length = (n - i) * 1 := by rw [e2, List.length_drop, hxl]; omega
    have hlen : (xs.take (i * 1) ++ (ns ++ xs.drop (i * 1))).length = (n + 1) * 1 := by
      rw [List.length_append, List.length_append, List.length_take, List.length_drop, hns, hxl]; omega
    by_cases hroom : n + 1 ≤ c
    · refine (insA_K g n c i (i + 1) (n + 1) cur ns va w rfl rfl (by omega) (by omega) (by omega) hroom hc hn hl hns hgv hg hv (by rw [ht]; exact h1) hon).mono ?_
      rintro e w' ⟨rfl, h2, h3⟩
      refine ⟨_, rfl, row_shut h2.out hroom hc (by rw [length_splice _ _ _ (by rw [length_splice _ _ _ (by rw [hcl, hl]; omega), hl, hns]; omega), length_splice _ _ _ (by rw [hcl, hl]; omega)]; exact hl) hlen ?_, h3.out, .inl rfl⟩
      have h := splice_in2 (cur := cur) (ns := ns) (cs := (cur.drop (i * 1)).take ((n - i) * 1)) (a := i * 1) (b := (i + 1) * 1) (by rw [hns]; omega) (by rw [hcl, hl]; omega)
      rw [hcl, show (i + 1) * 1 + (n - i) * 1 = (n + 1) * 1 by omega] at h
      rw [h, e1, e2]
    · obtain rfl : c = n := by omega
      refine (insB_K g c i (i + 1) (c + 1) cur ns va w rfl rfl (by omega) (by omega) (by omega) hn hl hns hgv hg hv (by rw [ht]; exact h1) hon).mono ?_
      rintro e w' ⟨c', r, rfl, h2, h3, h4, h5, h6, h7⟩
      refine ⟨_, rfl, row_shut h6 h2 h3 h4 hlen (by rw [h5, e1, e2]), Ext.grown h7 _, .inr (fun k hk => ?_)⟩
      have : w.heap.size = k := by simpa [Value.ownBlock] using hk
      omega
end Go.Proofs.YtpijfiaecicpfaaGreat

namespace Go.Proofs.YtpijfiaecicpfaaGreat
open Go.RowKit Go.Shelf
set_option linter.unusedVariables false
set_option linter.unusedSimpArgs false
set_option maxRecDepth 100000 in
set_option maxHeartbeats 4000000 in
theorem clone_N (A : Option Addr) (n c : Nat) (xs : List Value) (w : World) (hn : n ≤ 1000000) (hr : Rd w 2 A n c xs) (h1 : ∀ u ∈ xs, u.oneCell' = true) :
    Calls Tryz.prog 89 #[.slice A n c] w fun e w' => ∃ v', e = .returned v' ∧ w'.ownsRow w.heap.size 83 2 v' n xs ∧ Ext w w' := by
  obtain ⟨i0, hi, hz0, hz1, hz2⟩ := info_parts infoN
  have hnil := fun w => Lib.run_eql_slice_nil (P := Tryz.prog) w 52 83 A n c 0 0 Tryz.underlying52
  rcases A with _ | ad
  · have h0 : n = 0 := by
      rcases Nat.eq_zero_or_pos n with h | h
      · exact h
      · obtain ⟨_, e, _⟩ := hr.2.2.2 h; cases e
    subst h0
    have hx : xs = [] := List.eq_nil_of_length_eq_zero (by have := hr.1; omega)
    subst hx
    clear hr hn
    go_enter Tryz.func89, Tryz.ntmps89
    go_wp2
    go_ret
    exact ⟨_, rfl, World.ownsRow_nil _ _ _ _, Ext.refl _⟩
  · have Ho : Hid ((w.alloc (.cells #[] 83)).ownsRow w.heap.size 83 2 (.slice (some ⟨w.heap.size, 0, none⟩) 0 0) 0 []) := World.ownsRow_lit w #[] 0 (Nat.le_refl _) (by decide) rfl
    replace h1 := hid h1
    go_enter Tryz.func89, Tryz.ntmps89
    go_wp2_with (at_builtin; refine wpList_appendAny _ rfl _ _ 52 rfl w.heap.size 83 i0 _ 2 24 Tryz.underlying52 hi hz0 hz1 hz2 rfl (by decide) _ _ _ rfl Ho.out _ _ _ _ rfl (hr.alloc _) h1.out (by unfold maxLen; omega) (by omega) (by simp) ?_)
    intro v' w1 own1 hg1
    have hb1 : Hid (Ext w w1) := Below.grown ((Below.refl _ _).alloc (Nat.le_refl _) _) hg1 (by simp) (fun k hk => by simp [Value.ownBlock] at hk; omega)
    clear hg1
    try simp only [List.nil_append, Nat.zero_add] at own1
    replace own1 := hid own1
    go_wp2
    go_ret
    exact ⟨_, rfl, own1.out, hb1.out⟩
set_option maxRecDepth 100000 in
set_option maxHeartbeats 4000000 in
theorem clone_K (A : Option Addr) (n c : Nat) (xs : List Value) (w : World) (hn : n ≤ 1000000) (hr : Rd w 1 A n c xs) (h1 : ∀ u ∈ xs, u.oneCell' = true) :
    Calls Tryz.prog 90 #[.slice A n c] w fun e w' => ∃ v', e = .returned v' ∧ w'.ownsRow w.heap.size 51 1 v' n xs ∧ Ext w w' := by
  obtain ⟨i0, hi, hz0, hz1, hz2⟩ := info_parts infoK
  have hnil := fun w => Lib.run_eql_slice_nil (P := Tryz.prog) w 53 51 A n c 0 0 Tryz.underlying53
  rcases A with _ | ad
  · have h0 : n = 0 := by
      rcases Nat.eq_zero_or_pos n with h | h
      · exact h
      · obtain ⟨_, e, _⟩ := hr.2.2.2 h; cases e
    subst h0
    have hx : xs = [] := List.eq_nil_of_length_eq_zero (by have := hr.1; omega)
    subst hx
    clear hr hn
    go_enter Tryz.func90, Tryz.ntmps90
    go_wp2
    go_ret
    exact ⟨_, rfl, World.ownsRow_nil _ _ _ _, Ext.refl _⟩
  · have Ho : Hid ((w.alloc (.cells #[] 51)).ownsRow w.heap.size 51 1 (.slice (some ⟨w.heap.size, 0, none⟩) 0 0) 0 []) := World.ownsRow_lit w #[] 0 (Nat.le_refl _) (by decide) rfl
    replace h1 := hid h1
    go_enter Tryz.func90, Tryz.ntmps90
    go_wp2_with (at_builtin; refine wpList_appendAny _ rfl _ _ 53 rfl w.heap.size 51 i0 _ 1 8 Tryz.underlying53 hi hz0 hz1 hz2 rfl (by decide) _ _ _ rfl Ho.out _ _ _ _ rfl (hr.alloc _) h1.out (by unfold maxLen; omega) (by omega) (by simp) ?_)
    intro v' w1 own1 hg1
    have hb1 : Hid (Ext w w1) := Below.grown ((Below.refl _ _).alloc (Nat.le_refl _) _) hg1 (by simp) (fun k hk => by simp [Value.ownBlock] at hk; omega)
    clear hg1
    try simp only [List.nil_append, Nat.zero_add] at own1
    replace own1 := hid own1
    go_wp2
    go_ret
    exact ⟨_, rfl, own1.out, hb1.out⟩
end Go.Proofs.YtpijfiaecicpfaaGreat

namespace Go.Proofs.YtpijfiaecicpfaaGreat
open Go.RowKit Go.Shelf
set_option linter.unusedVariables false
set_option linter.unusedSimpArgs false
theorem tents_take : ∀ (l : List Te) (k : Nat), (tents l).take (k * 2) = tents (l.take k)
  | [], k => by simp [tents]
  | x :: l, 0 => by simp [tents]
  | x :: l, k + 1 => by
    rw [tents, List.take_succ_cons, tents, ← tents_take l k, List.take_append]
    rw [List.take_of_length_le (by simp [tcells]; omega)]
    congr 2
    simp [tcells]
    omega
theorem tents_drop : ∀ (l : List Te) (k : Nat), (tents l).drop (k * 2) = tents (l.drop k)
  | [], k => by simp [tents]
  | x :: l, 0 => by simp
  | x :: l, k + 1 => by
    rw [tents, List.drop_succ_cons, ← tents_drop l k, List.drop_append]
    rw [List.drop_of_length_le (by simp [tcells]; omega), List.nil_append]
    congr 1
    simp [tcells]
    omega
theorem lit_add (g o j : Nat) : (⟨g, o, none⟩ : Addr).add j = ⟨g, o + j, none⟩ := by unfold Addr.add; split <;> simp_all
/-- A part of a row. -/
theorem Rd.sub {w : World} {k n c a b g : Nat} {xs : List Value} (h : Rd w k (some ⟨g, 0, none⟩) n c xs) (hab : a ≤ b) (hb : b ≤ n) : Rd w k (some ⟨g, a * k, none⟩) (b - a) (c - a) ((xs.drop (a * k)).take ((b - a) * k)) := by
  have h1 := h.1
  have h2 := h.2.1
  have hbk : b * k ≤ n * k := Nat.mul_le_mul_right k hb
  have hak : a * k ≤ b * k := Nat.mul_le_mul_right k hab
  have hs : (b - a) * k = b * k - a * k := Nat.sub_mul b a k
  refine ⟨by rw [List.length_take, List.length_drop, h1, hs]; omega, by omega, by have := h.2.2.1; omega, fun h0 => ?_⟩
  obtain ⟨ad, e, hc⟩ := h.2.2.2 (by omega)
  obtain rfl := Option.some.inj e
  refine ⟨_, rfl, fun j u hu => ?_⟩
  rw [List.getElem?_take] at hu
  split at hu
  · rw [List.getElem?_drop] at hu
    have := hc _ _ hu
    rw [lit_add] at this ⊢
    rw [Nat.zero_add] at this
    exact this
  · cases hu
theorem Rd.takeK {w : World} {k n c m : Nat} {A : Option Addr} {xs : List Value} (h : Rd w k A n c xs) (hm : m ≤ n) : Rd w k A m c (xs.take (m * k)) :=
  ⟨by rw [List.length_take, h.1]; exact Nat.min_eq_left (Nat.mul_le_mul_right k hm), Nat.le_trans hm h.2.1, h.2.2.1, fun h0 => by
    obtain ⟨ad, e, hc⟩ := h.2.2.2 (by omega)
    exact ⟨ad, e, fun j u hu => hc j u (by rw [List.getElem?_take] at hu; split at hu; exact hu; cases hu)⟩⟩
theorem heap_set_other {w : World} {b p : Nat} {o : Option Obj} (h : w.heap[p]? = o) (hne : b ≠ p) (j : Nat) (u : Value) : (w.setCell ⟨b, j, none⟩ u).heap[p]? = o := by
  rw [← h]; simp [World.setCell, Array.getElem?_modify, hne]
theorem node_set0 {w : World} {p : Nat} {a b : Value} (h : w.heap[p]? = some (.cells #[a, b] 55 (0, 0))) (u : Value) : (w.setCell ⟨p, 0, none⟩ u).heap[p]? = some (.cells #[u, b] 55 (0, 0)) := by
  simp [World.setCell, Array.getElem?_modify, h]
theorem node_set1 {w : World} {p : Nat} {a b : Value} (h : w.heap[p]? = some (.cells #[a, b] 55 (0, 0))) (u : Value) : (w.setCell ⟨p, 1, none⟩ u).heap[p]? = some (.cells #[a, u] 55 (0, 0)) := by
  simp [World.setCell, Array.getElem?_modify, h]
theorem node_c0 {w : World} {p : Nat} {a b : Value} (h : w.heap[p]? = some (.cells #[a, b] 55 (0, 0))) : w.cell? ⟨p, 0, none⟩ = some a := by rw [Lib.cell_of_heap h]; rfl
theorem node_c1 {w : World} {p : Nat} {a b : Value} (h : w.heap[p]? = some (.cells #[a, b] 55 (0, 0))) : w.cell? ⟨p, 1, none⟩ = some b := by rw [Lib.cell_of_heap h]; rfl
/-- Three nodes in memory, with rows of their own that share nothing; what has turned since w is theirs (f), or new. -/
structure Tri (f : Nat → Nat) (w W : World) (p q r : Nat) (lv kv lq kq lr kr : Value) (nl nk ml mk tl tk : Nat) (xl xk yl yk zl zk : List Value) : Prop where
  hp : W.heap[p]? = some (.cells #[lv, kv] 55 (0, 0))
  hq : W.heap[q]? = some (.cells #[lq, kq] 55 (0, 0))
  hr : W.heap[r]? = some (.cells #[lr, kr] 55 (0, 0))
  o1 : W.ownsRow 0 83 2 lv nl xl
  o2 : W.ownsRow 0 51 1 kv nk xk
  o3 : W.ownsRow 0 83 2 lq ml yl
  o4 : W.ownsRow 0 51 1 kq mk yk
  o5 : W.ownsRow 0 83 2 lr tl zl
  o6 : W.ownsRow 0 51 1 kr tk zk
  nd : ∀ a, one1 p a + ob lv a + ob kv a + one1 q a + ob lq a + ob kq a + one1 r a + ob lr a + ob kr a ≤ 1
  fr : FR f w W
  le : ∀ a, a < w.heap.size → one1 p a + ob lv a + ob kv a + one1 q a + ob lq a + ob kq a + one1 r a + ob lr a + ob kr a ≤ f a
theorem own_ne {W W' : World} {b s n : Nat} {t : TypeId} {v : Value} {xs : List Value} {row : Option Nat} (h : W.ownsRow b t s v n xs) (hg : W.grownBy W' row) (hne : ∀ k, v.ownBlock = some k → row ≠ some k) : W'.ownsRow b t s v n xs := by
  refine ⟨h.1, ?_⟩
  rcases h.2 with h2 | ⟨g', cap, cur, rfl, f2, f3, f4⟩
  · exact .inl h2
  · exact .inr ⟨g', cap, cur, rfl, f2, (hg.block g' (Array.getElem?_eq_some_iff.1 f3).1 (fun e => hne g' rfl e.symm)).trans f3, f4⟩
section
variable {f : Nat → Nat} {w W W' : World} {p q r : Nat} {lv kv lq kq lr kr v' : Value} {nl nk ml mk tl tk n' : Nat} {xl xk yl yk zl zk xs' : List Value}
theorem Tri.rot (h : Tri f w W p q r lv kv lq kq lr kr nl nk ml mk tl tk xl xk yl yk zl zk) : Tri f w W q r p lq kq lr kr lv kv ml mk tl tk nl nk yl yk zl zk xl xk :=
  ⟨h.hq, h.hr, h.hp, h.o3, h.o4, h.o5, h.o6, h.o1, h.o2, fun a => by have := h.nd a; omega, h.fr, fun a ha => by have := h.le a ha; omega⟩
theorem Tri.ext (h : Tri f w W p q r lv kv lq kq lr kr nl nk ml mk tl tk xl xk yl yk zl zk) (hx : Ext W W') : Tri f w W' p q r lv kv lq kq lr kr nl nk ml mk tl tk xl xk yl yk zl zk :=
  ⟨(hx.block (Array.getElem?_eq_some_iff.1 h.hp).1).trans h.hp, (hx.block (Array.getElem?_eq_some_iff.1 h.hq).1).trans h.hq, (hx.block (Array.getElem?_eq_some_iff.1 h.hr).1).trans h.hr, hx.own h.o1, hx.own h.o2, hx.own h.o3, hx.own h.o4, hx.own h.o5, hx.own h.o6, h.nd, h.fr.trans (FR.of_ext (f := f) hx) (fun _ _ h => h), h.le⟩
theorem fr_step {f : Nat → Nat} {w W W' : World} {row : Option Nat} {p : Nat} (h : FR f w W) (hg : W.grownBy W' row) (hrow : ∀ k, row = some k → k < w.heap.size → f k ≠ 0) (hp : p < w.heap.size → f p ≠ 0) (j : Nat) (u : Value) : FR f w (W'.setCell ⟨p, j, none⟩ u) := by
  obtain ⟨a1, a2, a3, a4, a5⟩ := h
  refine ⟨a1.trans hg.os.symm, a2.trans hg.tape.symm, a3.trans hg.output.symm, by have := hg.size; simp; omega, fun k hk h0 => ?_⟩
  have hkp : p ≠ k := fun e => hp (e ▸ hk) (e ▸ h0)
  have e1 : (W'.setCell ⟨p, j, none⟩ u).heap[k]? = W'.heap[k]? := by simp [World.setCell, Array.getElem?_modify, hkp]
  rw [e1, hg.block k (by omega) (fun e => hrow k e.symm hk h0)]
  exact a5 k hk h0
theorem own_bound {W : World} {b s n : Nat} {t : TypeId} {v : Value} {xs : List Value} (h : W.ownsRow b t s v n xs) {a : Nat} (ha : W.heap.size ≤ a) : ob v a = 0 := if_neg (fun e => by have := (h.lt a e).2; omega)
theorem one_bound {W : World} {p : Nat} {o : Obj} (h : W.heap[p]? = some o) {a : Nat} (ha : W.heap.size ≤ a) : one1 p a = 0 := if_neg (fun e => by have := (Array.getElem?_eq_some_iff.1 h).1; omega)
theorem ob_same {u v : Value} (h : u.ownBlock = v.ownBlock) (a : Nat) : ob u a = ob v a := by unfold ob; rw [h]
theorem Tri.rep0 (h : Tri f w W p q r lv kv lq kq lr kr nl nk ml mk tl tk xl xk yl yk zl zk) (hg : W.grownBy W' lv.ownBlock) (ho : W'.ownsRow 0 83 2 v' n' xs') (hv : v'.ownBlock = lv.ownBlock ∨ ∀ k, v'.ownBlock = some k → W.heap.size ≤ k) :
    Tri f w (W'.setCell ⟨p, 0, none⟩ v') p q r v' kv lq kq lr kr n' nk ml mk tl tk xs' xk yl yk zl zk := by
  have hsz := h.fr.2.2.2.1
  have hv'p : v'.ownBlock ≠ some p := fun e => by
    rcases hv with h1 | h1
    · have := h.nd p; rw [ob_some (v := lv) (h1.symm.trans e), one_self] at this; omega
    · have := h1 p e; have := (Array.getElem?_eq_some_iff.1 h.hp).1; omega
  have bp := (hg.block p (Array.getElem?_eq_some_iff.1 h.hp).1 (fun e0 => by have := h.nd p; rw [ob_some e0.symm, one_self] at this; omega)).trans h.hp
  have bq := (hg.block q (Array.getElem?_eq_some_iff.1 h.hq).1 (fun e0 => by have := h.nd q; rw [ob_some e0.symm, one_self] at this; omega)).trans h.hq
  have br := (hg.block r (Array.getElem?_eq_some_iff.1 h.hr).1 (fun e0 => by have := h.nd r; rw [ob_some e0.symm, one_self] at this; omega)).trans h.hr
  have hpq : p ≠ q := fun e => by have := h.nd p; rw [one_self, show one1 q p = 1 from e ▸ one_self p] at this; omega
  have hpr : p ≠ r := fun e => by have := h.nd p; rw [one_self, show one1 r p = 1 from e ▸ one_self p] at this; omega
  refine ⟨node_set0 bp _, heap_set_other bq hpq 0 _, heap_set_other br hpr 0 _, own_set ho hv'p 0 _, own_set (own_ne h.o2 hg (fun k e e2 => by have := h.nd k; rw [ob_some e, ob_some e2] at this; omega)) (fun e => by have := h.nd p; rw [ob_some e, one_self] at this; omega) 0 _, own_set (own_ne h.o3 hg (fun k e e2 => by have := h.nd k; rw [ob_some e, ob_some e2] at this; omega)) (fun e => by have := h.nd p; rw [ob_some e, one_self] at this; omega) 0 _, own_set (own_ne h.o4 hg (fun k e e2 => by have := h.nd k; rw [ob_some e, ob_some e2] at this; omega)) (fun e => by have := h.nd p; rw [ob_some e, one_self] at this; omega) 0 _, own_set (own_ne h.o5 hg (fun k e e2 => by have := h.nd k; rw [ob_some e, ob_some e2] at this; omega)) (fun e => by have := h.nd p; rw [ob_some e, one_self] at this; omega) 0 _, own_set (own_ne h.o6 hg (fun k e e2 => by have := h.nd k; rw [ob_some e, ob_some e2] at this; omega)) (fun e => by have := h.nd p; rw [ob_some e, one_self] at this; omega) 0 _, fun a => ?_, ?_, fun a ha => ?_⟩
  · have hn := h.nd a
    rcases hv with h1 | h1
    · rw [ob_same h1]; exact hn
    · by_cases hs : a < W.heap.size
      · rw [show ob v' a = 0 from if_neg (fun e => by have := h1 a e; omega)]; omega
      · rw [one_bound h.hp (Nat.le_of_not_lt hs), one_bound h.hq (Nat.le_of_not_lt hs), one_bound h.hr (Nat.le_of_not_lt hs), own_bound h.o2 (Nat.le_of_not_lt hs), own_bound h.o3 (Nat.le_of_not_lt hs), own_bound h.o4 (Nat.le_of_not_lt hs), own_bound h.o5 (Nat.le_of_not_lt hs), own_bound h.o6 (Nat.le_of_not_lt hs)]
        have : ob v' a ≤ 1 := by unfold ob; split <;> omega
        omega
  · exact fr_step h.fr hg (fun k e hk h0 => by have := h.le k hk; rw [ob_some e] at this; omega) (fun hk h0 => by have := h.le p hk; rw [one_self] at this; omega) 0 _
  · have hn := h.le a ha
    rcases hv with h1 | h1
    · rw [ob_same h1]; exact hn
    · rw [show ob v' a = 0 from if_neg (fun e => by have := h1 a e; omega)]; omega
theorem Tri.rep1 (h : Tri f w W p q r lv kv lq kq lr kr nl nk ml mk tl tk xl xk yl yk zl zk) (hg : W.grownBy W' kv.ownBlock) (ho : W'.ownsRow 0 51 1 v' n' xs') (hv : v'.ownBlock = kv.ownBlock ∨ ∀ k, v'.ownBlock = some k → W.heap.size ≤ k) :
    Tri f w (W'.setCell ⟨p, 1, none⟩ v') p q r lv v' lq kq lr kr nl n' ml mk tl tk xl xs' yl yk zl zk := by
  have hsz := h.fr.2.2.2.1
  have hv'p : v'.ownBlock ≠ some p := fun e => by
    rcases hv with h1 | h1
    · have := h.nd p; rw [ob_some (v := kv) (h1.symm.trans e), one_self] at this; omega
    · have := h1 p e; have := (Array.getElem?_eq_some_iff.1 h.hp).1; omega
  have bp := (hg.block p (Array.getElem?_eq_some_iff.1 h.hp).1 (fun e0 => by have := h.nd p; rw [ob_some e0.symm, one_self] at this; omega)).trans h.hp
  have bq := (hg.block q (Array.getElem?_eq_some_iff.1 h.hq).1 (fun e0 => by have := h.nd q; rw [ob_some e0.symm, one_self] at this; omega)).trans h.hq
  have br := (hg.block r (Array.getElem?_eq_some_iff.1 h.hr).1 (fun e0 => by have := h.nd r; rw [ob_some e0.symm, one_self] at this; omega)).trans h.hr
  have hpq : p ≠ q := fun e => by have := h.nd p; rw [one_self, show one1 q p = 1 from e ▸ one_self p] at this; omega
  have hpr : p ≠ r := fun e => by have := h.nd p; rw [one_self, show one1 r p = 1 from e ▸ one_self p] at this; omega
  refine ⟨node_set1 bp _, heap_set_other bq hpq 1 _, heap_set_other br hpr 1 _, own_set (own_ne h.o1 hg (fun k e e2 => by have := h.nd k; rw [ob_some e, ob_some e2] at this; omega)) (fun e => by have := h.nd p; rw [ob_some e, one_self] at this; omega) 1 _, own_set ho hv'p 1 _, own_set (own_ne h.o3 hg (fun k e e2 => by have := h.nd k; rw [ob_some e, ob_some e2] at this; omega)) (fun e => by have := h.nd p; rw [ob_some e, one_self] at this; omega) 1 _, own_set (own_ne h.o4 hg (fun k e e2 => by have := h.nd k; rw [ob_some e, ob_some e2] at this; omega)) (fun e => by have := h.nd p; rw [ob_some e, one_self] at this; omega) 1 _, own_set (own_ne h.o5 hg (fun k e e2 => by have := h.nd k; rw [ob_some e, ob_some e2] at this; omega)) (fun e => by have := h.nd p; rw [ob_some e, one_self] at this; omega) 1 _, own_set (own_ne h.o6 hg (fun k e e2 => by have := h.nd k; rw [ob_some e, ob_some e2] at this; omega)) (fun e => by have := h.nd p; rw [ob_some e, one_self] at this; omega) 1 _, fun a => ?_, ?_, fun a ha => ?_⟩
  · have hn := h.nd a
    rcases hv with h1 | h1
    · rw [ob_same h1]; exact hn
    · by_cases hs : a < W.heap.size
      · rw [show ob v' a = 0 from if_neg (fun e => by have := h1 a e; omega)]; omega
      · rw [one_bound h.hp (Nat.le_of_not_lt hs), one_bound h.hq (Nat.le_of_not_lt hs), one_bound h.hr (Nat.le_of_not_lt hs), own_bound h.o1 (Nat.le_of_not_lt hs), own_bound h.o3 (Nat.le_of_not_lt hs), own_bound h.o4 (Nat.le_of_not_lt hs), own_bound h.o5 (Nat.le_of_not_lt hs), own_bound h.o6 (Nat.le_of_not_lt hs)]
        have : ob v' a ≤ 1 := by unfold ob; split <;> omega
        omega
  · exact fr_step h.fr hg (fun k e hk h0 => by have := h.le k hk; rw [ob_some e] at this; omega) (fun hk h0 => by have := h.le p hk; rw [one_self] at this; omega) 1 _
  · have hn := h.le a ha
    rcases hv with h1 | h1
    · rw [ob_same h1]; exact hn
    · rw [show ob v' a = 0 from if_neg (fun e => by have := h1 a e; omega)]; omega
end
end Go.Proofs.YtpijfiaecicpfaaGreat

namespace Go.Proofs.YtpijfiaecicpfaaGreat
open Go.RowKit Go.Shelf
set_option linter.unusedVariables false
set_option linter.unusedSimpArgs false
set_option maxRecDepth 100000 in
set_option maxHeartbeats 4000000 in
theorem split_any (f : Nat → Nat) (p q i : Nat) (l lk : List Te) (ps pk : List Nat) (lv kv lq kq : Value) (w : World) (hp : w.heap[p]? = some (.cells #[lv, kv] 55 (0, 0))) (hq : w.heap[q]? = some (.cells #[lq, kq] 55 (0, 0)))
    (h1 : w.ownsRow 0 83 2 lv l.length (tents l)) (h2 : w.ownsRow 0 51 1 kv ps.length (ptrs ps)) (h3 : w.ownsRow 0 83 2 lq 5 (tents lk)) (h4 : w.ownsRow 0 51 1 kq pk.length (ptrs pk))
    (hpq : ps[i]? = some q) (hi : i ≤ l.length) (hl : l.length ≤ 10) (hps : ps.length ≤ 10) (hlk : lk.length = 5) (hpk : pk.length = 0 ∨ pk.length = 6)
    (hf : ∀ a, one1 p a + ob lv a + ob kv a + one1 q a + ob lq a + ob kq a ≤ 1) (hff : ∀ a, f a = one1 p a + ob lv a + ob kv a + one1 q a + ob lq a + ob kq a) :
    Calls Tryz.prog 67 #[.pointer (some ⟨p, 0, none⟩), .int .i64 i] w fun e w' => e = .returned (.tuple #[]) ∧ ∃ (r : Nat) (lv' kv' lq' kq' lr kr : Value),
      Tri f w w' p q r lv' kv' lq' kq' lr kr (l.length + 1) (ps.length + 1) 2 (pk.take 3).length 2 (pk.drop 3).length (tents (l.take i ++ tth lk 2 :: l.drop i)) (ptrs (ps.take (i + 1) ++ r :: ps.drop (i + 1))) (tents (lk.take 2)) (ptrs (pk.take 3)) (tents (lk.drop 3)) (ptrs (pk.drop 3)) := by
  obtain ⟨gl, cl, curl, rfl, -, hcl1, hcl2, -, -⟩ := row_open h3 (by omega)
  obtain ⟨A2, kc, rfl, hkr⟩ := own_rd h2
  have hil : i < ps.length := (List.getElem?_eq_some_iff.1 hpq).1
  obtain ⟨kad, rfl, hkc⟩ := hkr.2.2.2 (by omega)
  have ck := hkc i _ (show (ptrs ps)[i]? = some (.pointer (some ⟨q, 0, none⟩)) by unfold ptrs; rw [List.getElem?_map, hpq]; rfl)
  have hkm := Rd.max hkr
  have cp1 := node_c1 hp
  have cq0 := node_c0 hq
  have cq1 := node_c1 hq
  have hki : (i : Int) < (ps.length : Int) := by omega
  have hce : Hid (∀ W : World, W.ownsRow 0 83 2 (.slice (some ⟨gl, 0, none⟩) 5 cl) 5 (tents lk) → W.cell? ⟨gl, 4, none⟩ = some (.string (tth lk 2).key) ∧ W.cell? ⟨gl, 5, none⟩ = some (.int .i64 (tth lk 2).no)) := fun W h => by
    have hc := h.cells (g := gl) rfl
    have e1 := hc (2 * 2 + 0) _ (by rw [tents_at lk 2 (by omega) 0 (by decide)]; rfl)
    have e2 := hc (2 * 2 + 1) _ (by rw [tents_at lk 2 (by omega) 1 (by decide)]; rfl)
    rw [lit_add] at e1 e2
    rw [tth_get (by omega)]
    exact ⟨e1, e2⟩
  have hR1 : Rd w 2 (some ⟨gl, 6, none⟩) 2 (cl - 3) (tents (lk.drop 3)) := by
    have := (Rd.of_own h3).sub (a := 3) (b := 5) (by omega) (by omega)
    rw [tents_drop, List.take_of_length_le (by rw [tents_len, List.length_drop]; omega)] at this
    exact this
  go_enter Tryz.func67, Tryz.ntmps67
  go_wp2_with fail
  refine (clone_N (some ⟨gl, 6, none⟩) 2 (cl - 3) (tents (lk.drop 3)) w (by omega) hR1 (tents_one _)).mono ?_
  rintro e w1 ⟨vr, rfl, olr, hx1⟩
  obtain ⟨Ar, cr, rfl, -⟩ := own_form olr
  have hb := heap_alloc_new w1 (.cells #[.slice Ar 2 cr, .slice none 0 0] 55)
  have hxa := (Ext.refl w1).alloc_right (.cells #[.slice Ar 2 cr, .slice none 0 0] 55)
  have hx2 := hid (hx1.trans hxa)
  have tri : Hid (Tri f w (w1.alloc (.cells #[.slice Ar 2 cr, .slice none 0 0] 55)) p q w1.heap.size lv (.slice (some kad) ps.length kc) (.slice (some ⟨gl, 0, none⟩) 5 cl) kq (.slice Ar 2 cr) (.slice none 0 0) l.length ps.length 5 pk.length 2 0 (tents l) (ptrs ps) (tents lk) (ptrs pk) (tents (lk.drop 3)) []) := by
    have hsz := hx1.size
    have hr0 : ∀ a, a < w.heap.size → one1 w1.heap.size a + ob (.slice Ar 2 cr) a = 0 := fun a ha => by
      have e1 : one1 w1.heap.size a = 0 := if_neg (by omega)
      have e2 : ob (.slice Ar 2 cr) a = 0 := if_neg (fun e => by have := own_freshB olr a e; omega)
      omega
    have hr1 : ∀ a, one1 w1.heap.size a + ob (.slice Ar 2 cr) a ≤ 1 := fun a => by
      by_cases e : a = w1.heap.size
      · have e2 : ob (.slice Ar 2 cr) a = 0 := if_neg (fun e3 => by have := (olr.lt a e3).2; omega)
        have : one1 w1.heap.size a ≤ 1 := by unfold one1; split <;> omega
        omega
      · have e1 : one1 w1.heap.size a = 0 := if_neg e
        have : ob (.slice Ar 2 cr) a ≤ 1 := by unfold ob; split <;> omega
        omega
    have hn0 : ∀ a, ob (.slice none 0 0) a = 0 := fun a => if_neg (fun e => by cases e)
    refine ⟨(hx2.out.block (Array.getElem?_eq_some_iff.1 hp).1).trans hp, (hx2.out.block (Array.getElem?_eq_some_iff.1 hq).1).trans hq, hb, hx2.out.own h1, hx2.out.own h2, hx2.out.own h3, hx2.out.own h4, own_baseK (hxa.own olr) (Nat.zero_le _), World.ownsRow_nil _ _ _ _, fun a => ?_, FR.of_ext hx2.out, fun a ha => ?_⟩
    · rw [hn0 a]
      by_cases ha : a < w.heap.size
      · have := hr0 a ha; have := hf a; omega
      · have := hr1 a
        rw [one_bound hp (Nat.le_of_not_lt ha), one_bound hq (Nat.le_of_not_lt ha), own_bound h1 (Nat.le_of_not_lt ha), own_bound h2 (Nat.le_of_not_lt ha), own_bound h3 (Nat.le_of_not_lt ha), own_bound h4 (Nat.le_of_not_lt ha)]
        omega
    · rw [hn0 a, hff a]; have := hr0 a ha; omega
  replace cp1 := hx2.out.cell cp1
  replace cq0 := hx2.out.cell cq0
  replace cq1 := hx2.out.cell cq1
  have hcr1 := node_c1 tri.out.hr
  have hcr2 := Lib.frozen_of_heap tri.out.hr 1
  have hcq2 := Lib.frozen_of_heap tri.out.hq 1
  have hrw1 : w1.heap.size < (w1.alloc (.cells #[.slice Ar 2 cr, .slice none 0 0] 55)).heap.size := by simp
  clear hb hxa hx1 olr hR1 hp hq h1 h2 h3 ck hkc hkr
  rcases hpk with h0 | h6
  · obtain rfl : pk = [] := List.eq_nil_of_length_eq_zero h0
    obtain ⟨Aq, cq3, rfl, -⟩ := own_rd tri.out.o4
    go_upto_region 6 with fail
    generalize w1.heap.size = r at *
    generalize w1.alloc (.cells #[.slice Ar 2 cr, .slice none 0 0] 55) = W at *
    clear hcr1 hcr2 hcq2 hrw1 hx2 cp1 cq0 cq1
    obtain ⟨Al, cl2, rfl, hrl⟩ := own_rd tri.out.o1
    have hml := Rd.max hrl
    have tri' := hid (tri.out.ext (Ext.refl W).drew_right)
    have I0 : (fun w' : World => w'.cell? ⟨p, 0, none⟩ = some (.slice Al l.length cl2) ∧ w'.cell? ⟨q, 0, none⟩ = some (.slice (some ⟨gl, 0, none⟩) 5 cl) ∧ w'.cell? ⟨gl, 4, none⟩ = some (.string (tth lk 2).key) ∧ w'.cell? ⟨gl, 5, none⟩ = some (.int .i64 (tth lk 2).no)) W.drew := ⟨node_c0 tri'.out.hp, node_c0 tri'.out.hq, (hce.out _ tri'.out.o3).1, (hce.out _ tri'.out.o3).2⟩
    refine region_J (fun w' : World => w'.cell? ⟨p, 0, none⟩ = some (.slice Al l.length cl2) ∧ w'.cell? ⟨q, 0, none⟩ = some (.slice (some ⟨gl, 0, none⟩) 5 cl) ∧ w'.cell? ⟨gl, 4, none⟩ = some (.string (tth lk 2).key) ∧ w'.cell? ⟨gl, 5, none⟩ = some (.int .i64 (tth lk 2).no)) 17 (by kernel_rfl) ?_
    clear tri hrl
    generalize W.drew = W at *
    refine J_take 0 (v := ?vax0) rfl (by kernel_rfl) (by kernel_rfl) (by kernel_rfl) (by kernel_rfl) (fun _ _ _ h => h) (Or.inl ⟨by rfl, ?yax0⟩) I0 ?rax0
    case yax0 => (intro w hSw; obtain ⟨_, _, _, _⟩ := hSw; (go_simp; with_reducible rfl))
    simp only [Act.put, List.getElem_toArray, List.getElem_cons_zero, List.getElem_cons_succ, List.setIfInBounds_toArray, List.set_cons_zero, List.set_cons_succ]
    refine J_take 1 (v := ?vax1) rfl (by kernel_rfl) (by kernel_rfl) (by kernel_rfl) (by kernel_rfl) (fun _ _ _ h => h) (Or.inl ⟨by rfl, ?yax1⟩) I0 ?rax1
    case yax1 => (intro w hSw; obtain ⟨_, _, _, _⟩ := hSw; (go_simp; with_reducible rfl))
    simp only [Act.put, List.getElem_toArray, List.getElem_cons_zero, List.getElem_cons_succ, List.setIfInBounds_toArray, List.set_cons_zero, List.set_cons_succ]
    refine J_take 2 (v := ?vax2) rfl (by kernel_rfl) (by kernel_rfl) (by kernel_rfl) (by kernel_rfl) (fun _ _ _ h => h) (Or.inl ⟨by rfl, ?yax2⟩) I0 ?rax2
    case yax2 => (intro w hSw; obtain ⟨_, _, _, _⟩ := hSw; (go_simp; with_reducible rfl))
    simp only [Act.put, List.getElem_toArray, List.getElem_cons_zero, List.getElem_cons_succ, List.setIfInBounds_toArray, List.set_cons_zero, List.set_cons_succ]
    refine J_take 3 (v := ?vax3) rfl (by kernel_rfl) (by kernel_rfl) (by kernel_rfl) (by kernel_rfl) (fun _ _ _ h => h) (Or.inl ⟨by rfl, ?yax3⟩) I0 ?rax3
    case yax3 => (intro w hSw; obtain ⟨_, _, _, _⟩ := hSw; (go_simp; with_reducible rfl))
    simp only [Act.put, List.getElem_toArray, List.getElem_cons_zero, List.getElem_cons_succ, List.setIfInBounds_toArray, List.set_cons_zero, List.set_cons_succ]
    refine J_take 4 (v := ?vax4) rfl (by kernel_rfl) (by kernel_rfl) (by kernel_rfl) (by kernel_rfl) (fun _ _ _ h => h) (Or.inl ⟨by rfl, ?yax4⟩) I0 ?rax4
    case yax4 => (intro w hSw; obtain ⟨_, _, _, _⟩ := hSw; (go_simp; with_reducible rfl))
    simp only [Act.put, List.getElem_toArray, List.getElem_cons_zero, List.getElem_cons_succ, List.setIfInBounds_toArray, List.set_cons_zero, List.set_cons_succ]
    refine J_take 5 (v := ?vax5) rfl (by kernel_rfl) (by kernel_rfl) (by kernel_rfl) (by kernel_rfl) (fun _ _ _ h => h) (Or.inl ⟨by rfl, ?yax5⟩) I0 ?rax5
    case yax5 => (intro w hSw; obtain ⟨_, _, _, _⟩ := hSw; (go_simp; with_reducible rfl))
    simp only [Act.put, List.getElem_toArray, List.getElem_cons_zero, List.getElem_cons_succ, List.setIfInBounds_toArray, List.set_cons_zero, List.set_cons_succ]
    refine J_take 6 (v := ?vax6) rfl (by kernel_rfl) (by kernel_rfl) (by kernel_rfl) (by kernel_rfl) (fun _ _ _ h => h) (Or.inl ⟨by rfl, ?yax6⟩) I0 ?rax6
    case yax6 => (intro w hSw; obtain ⟨_, _, _, _⟩ := hSw; (go_simp; with_reducible rfl))
    simp only [Act.put, List.getElem_toArray, List.getElem_cons_zero, List.getElem_cons_succ, List.setIfInBounds_toArray, List.set_cons_zero, List.set_cons_succ]
    refine J_take 7 (v := ?vax7) rfl (by kernel_rfl) (by kernel_rfl) (by kernel_rfl) (by kernel_rfl) (fun _ _ _ h => h) (Or.inl ⟨by rfl, ?yax7⟩) I0 ?rax7
    case yax7 => (intro w hSw; obtain ⟨_, _, _, _⟩ := hSw; (go_simp; with_reducible rfl))
    simp only [Act.put, List.getElem_toArray, List.getElem_cons_zero, List.getElem_cons_succ, List.setIfInBounds_toArray, List.set_cons_zero, List.set_cons_succ]
    refine J_take 8 (v := ?vax8) rfl (by kernel_rfl) (by kernel_rfl) (by kernel_rfl) (by kernel_rfl) (fun _ _ _ h => h) (Or.inl ⟨by rfl, ?yax8⟩) I0 ?rax8
    case yax8 => (intro w hSw; obtain ⟨_, _, _, _⟩ := hSw; (go_simp; with_reducible rfl))
    simp only [Act.put, List.getElem_toArray, List.getElem_cons_zero, List.getElem_cons_succ, List.setIfInBounds_toArray, List.set_cons_zero, List.set_cons_succ]
    refine J_take 9 (v := ?vax9) rfl (by kernel_rfl) (by kernel_rfl) (by kernel_rfl) (by kernel_rfl) (fun _ _ _ h => h) (Or.inl ⟨by rfl, ?yax9⟩) I0 ?rax9
    case yax9 => (intro w hSw; obtain ⟨_, _, _, _⟩ := hSw; (go_simp; with_reducible rfl))
    simp only [Act.put, List.getElem_toArray, List.getElem_cons_zero, List.getElem_cons_succ, List.setIfInBounds_toArray, List.set_cons_zero, List.set_cons_succ]
    refine J_take 10 (v := ?vax10) rfl (by kernel_rfl) (by kernel_rfl) (by kernel_rfl) (by kernel_rfl) (fun _ _ _ h => h) (Or.inl ⟨by rfl, ?yax10⟩) I0 ?rax10
    case yax10 => (intro w hSw; obtain ⟨_, _, _, _⟩ := hSw; (go_simp; with_reducible rfl))
    simp only [Act.put, List.getElem_toArray, List.getElem_cons_zero, List.getElem_cons_succ, List.setIfInBounds_toArray, List.set_cons_zero, List.set_cons_succ]
    refine J_take 11 (v := ?vax11) rfl (by kernel_rfl) (by kernel_rfl) (by kernel_rfl) (by kernel_rfl) (fun _ _ _ h => h) (Or.inl ⟨by rfl, ?yax11⟩) I0 ?rax11
    case yax11 => (intro w hSw; obtain ⟨_, _, _, _⟩ := hSw; (go_simp; with_reducible rfl))
    simp only [Act.put, List.getElem_toArray, List.getElem_cons_zero, List.getElem_cons_succ, List.setIfInBounds_toArray, List.set_cons_zero, List.set_cons_succ]
    refine J_take 12 (v := ?vax12) rfl (by kernel_rfl) (by kernel_rfl) (by kernel_rfl) (by kernel_rfl) (fun _ _ _ h => h) (Or.inl ⟨by rfl, ?yax12⟩) I0 ?rax12
    case yax12 => (intro w hSw; obtain ⟨_, _, _, _⟩ := hSw; (go_simp; with_reducible rfl))
    simp only [Act.put, List.getElem_toArray, List.getElem_cons_zero, List.getElem_cons_succ, List.setIfInBounds_toArray, List.set_cons_zero, List.set_cons_succ]
    refine J_one 13 rfl (by kernel_rfl) (fun K hK => ?_)
    go_simp
    have tri2 := hid (tri'.out.ext ((Ext.refl W).alloc_right (.cells #[.string (tth lk 2).key, .int .i64 (tth lk 2).no] 83)))
    have hva := hid (heap_alloc_new W (.cells #[.string (tth lk 2).key, .int .i64 (tth lk 2).no] 83))
    have hne : Hid ((Value.slice Al l.length cl2).ownBlock ≠ some W.heap.size) := fun e => by have := (tri'.out.o1.lt _ e).2; omega
    have I1 : (fun w' : World => w'.cell? ⟨p, 0, none⟩ = some (.slice Al l.length cl2) ∧ w'.cell? ⟨q, 0, none⟩ = some (.slice (some ⟨gl, 0, none⟩) 5 cl) ∧ w'.cell? ⟨gl, 4, none⟩ = some (.string (tth lk 2).key) ∧ w'.cell? ⟨gl, 5, none⟩ = some (.int .i64 (tth lk 2).no)) (W.alloc (.cells #[.string (tth lk 2).key, .int .i64 (tth lk 2).no] 83)) := ⟨((Ext.refl W).alloc_right _).cell I0.1, ((Ext.refl W).alloc_right _).cell I0.2.1, ((Ext.refl W).alloc_right _).cell I0.2.2.1, ((Ext.refl W).alloc_right _).cell I0.2.2.2⟩
    clear tri'
    generalize W.heap.size = va at *
    generalize W.alloc (.cells #[.string (tth lk 2).key, .int .i64 (tth lk 2).no] 83) = W1 at *
    refine hK _ _ ⟨fun _ => I1, ?_⟩
    clear hK K
    try simp only [Act.put, List.getElem_toArray, List.getElem_cons_zero, List.getElem_cons_succ, List.setIfInBounds_toArray, List.set_cons_zero, List.set_cons_succ]
    refine J_one 14 rfl (by kernel_rfl) (fun K hK => ?_)
    go_simp
    refine (ins_N l.length i _ (tents l) [.string (tth lk 2).key, .int .i64 (tth lk 2).no] va W1 hi (by omega) tri2.out.o1 (tents_one _) hva.out rfl (tents_one [tth lk 2]) hne.out).mono ?_
    rintro e W2 ⟨v', rfl, ho', hrw⟩
    have tri3 : ∀ u, u = v' → Tri f w (W2.setCell ⟨p, 0, none⟩ u) p q r u (.slice (some kad) ps.length kc) (.slice (some ⟨gl, 0, none⟩) 5 cl) (.slice Aq 0 cq3) (.slice Ar 2 cr) (.slice none 0 0) (l.length + 1) ps.length 5 0 2 0 ((tents l).take (i * 2) ++ ([.string (tth lk 2).key, .int .i64 (tth lk 2).no] ++ (tents l).drop (i * 2))) (ptrs ps) (tents lk) (ptrs []) (tents (lk.drop 3)) [] := fun u e => by rw [e]; exact tri2.out.rep0 hrw.1 ho' hrw.2
    replace tri3 := hid tri3
    have hp2 : W2.cell? ⟨p, 0, none⟩ = some (.slice Al l.length cl2) := node_c0 ((hrw.1.block p (Array.getElem?_eq_some_iff.1 tri2.out.hp).1 (fun e0 => by have := tri2.out.nd p; rw [ob_some e0.symm, one_self] at this; omega)).trans tri2.out.hp)
    have hf2 : W2.frozen? ⟨p, 0, none⟩ = false := Lib.frozen_of_heap ((hrw.1.block p (Array.getElem?_eq_some_iff.1 tri2.out.hp).1 (fun e0 => by have := tri2.out.nd p; rw [ob_some e0.symm, one_self] at this; omega)).trans tri2.out.hp) 0
    have I2 : (fun w' : World => w'.cell? ⟨p, 0, none⟩ = some (.slice Al l.length cl2) ∧ w'.cell? ⟨q, 0, none⟩ = some (.slice (some ⟨gl, 0, none⟩) 5 cl) ∧ w'.cell? ⟨gl, 4, none⟩ = some (.string (tth lk 2).key) ∧ w'.cell? ⟨gl, 5, none⟩ = some (.int .i64 (tth lk 2).no)) W2 := by
      refine ⟨hp2, node_c0 ((hrw.1.block q (Array.getElem?_eq_some_iff.1 tri2.out.hq).1 (fun e0 => by have := tri2.out.nd q; rw [ob_some e0.symm, one_self] at this; omega)).trans tri2.out.hq), ?_, ?_⟩
      · exact (hce.out _ (own_ne tri2.out.o3 hrw.1 (fun k e e2 => by have := tri2.out.nd k; rw [ob_some e, ob_some e2] at this; omega))).1
      · exact (hce.out _ (own_ne tri2.out.o3 hrw.1 (fun k e e2 => by have := tri2.out.nd k; rw [ob_some e, ob_some e2] at this; omega))).2
    obtain ⟨Av, cv, rfl, -⟩ := own_form ho'
    clear ho' hrw tri2 hva hne I1 I0
    refine hK _ _ ⟨fun _ => I2, ?_⟩
    clear hK K
    try simp only [Act.put, List.getElem_toArray, List.getElem_cons_zero, List.getElem_cons_succ, List.setIfInBounds_toArray, List.set_cons_zero, List.set_cons_succ]
    refine J_one 15 rfl (by kernel_rfl) (fun K hK => ?_)
    go_simp
    refine hK _ _ ⟨fun _ => I2, ?_⟩
    clear hK K
    try simp only [Act.put, List.setIfInBounds_toArray, List.set_cons_zero, List.set_cons_succ]
    refine J_one 16 rfl (by kernel_rfl) (fun K hK => ?_)
    go_simp
    refine hK _ _ ⟨fun _ => I2, ?_⟩
    clear hK K
    try simp only [Act.put, List.setIfInBounds_toArray, List.set_cons_zero, List.set_cons_succ]
    refine J_one 17 rfl (by kernel_rfl) (fun K hK => ?_)
    go_simp
    refine hK _ _ ⟨fun h => absurd rfl h, ?_⟩
    clear hK K
    refine J_done (by kernel_rfl) (OnlyOn.normal ?_)
    replace tri3 := hid (tri3.out _ rfl)
    clear I2 hp2 hf2
    generalize W2.setCell ⟨p, 0, none⟩ (.slice Av (l.length + 1) cv) = W3 at *
    have cp1 := node_c1 tri3.out.hp
    have cq0 := node_c0 tri3.out.hq
    have hw9 : IntKind.i64.wrap ((i : Int) + 1) = ((i + 1 : Nat) : Int) := by rw [IntWalk.i64_in _ (by omega)]; omega
    have lpW := World.block_lt_of_cell? _ _ cp1
    dsimp only at lpW
    have lqW := World.block_lt_of_cell? _ _ cq0
    dsimp only at lqW
    obtain ⟨j, hj⟩ : ∃ j, j = i + 1 := ⟨_, rfl⟩
    rw [← hj] at hw9
    replace hj := hid hj
    have tri4 := hid (tri3.out.ext ((Ext.refl W3).alloc_right (.cells #[.pointer (some ⟨r, 0, none⟩)] 51)))
    have hva := hid (heap_alloc_new W3 (.cells #[.pointer (some ⟨r, 0, none⟩)] 51))
    have hne : Hid ((Value.slice (some kad) ps.length kc).ownBlock ≠ some W3.heap.size) := fun e => by have := (tri3.out.o2.lt _ e).2; omega
    have hx9 := (Ext.refl W3).alloc_right (.cells #[.pointer (some ⟨r, 0, none⟩)] 51)
    clear tri3
    go_wp2_with fail
    replace cp1 := hx9.cell cp1
    replace cq0 := hx9.cell cq0
    clear hx9
    generalize W3.heap.size = va at *
    generalize W3.alloc (.cells #[.pointer (some ⟨r, 0, none⟩)] 51) = W4 at *
    refine (ins_K ps.length j _ (ptrs ps) [.pointer (some ⟨r, 0, none⟩)] va W4 (by have := hj.out; omega) (by omega) tri4.out.o2 (ptrs_one _) hva.out rfl (ptrs_one [r]) hne.out).mono ?_
    rintro e W5 ⟨v', rfl, ho', hrw⟩
    have tri5 : ∀ u, u = v' → Tri f w (W5.setCell ⟨p, 1, none⟩ u) p q r (.slice Av (l.length + 1) cv) u (.slice (some ⟨gl, 0, none⟩) 5 cl) (.slice Aq 0 cq3) (.slice Ar 2 cr) (.slice none 0 0) (l.length + 1) (ps.length + 1) 5 0 2 0 ((tents l).take (i * 2) ++ ([.string (tth lk 2).key, .int .i64 (tth lk 2).no] ++ (tents l).drop (i * 2))) ((ptrs ps).take (j * 1) ++ ([.pointer (some ⟨r, 0, none⟩)] ++ (ptrs ps).drop (j * 1))) (tents lk) (ptrs []) (tents (lk.drop 3)) [] := fun u e => by rw [e]; exact tri4.out.rep1 hrw.1 ho' hrw.2
    replace tri5 := hid tri5
    have bp := hid ((hrw.1.block p (Array.getElem?_eq_some_iff.1 tri4.out.hp).1 (fun e0 => by have := tri4.out.nd p; rw [ob_some e0.symm, one_self] at this; omega)).trans tri4.out.hp)
    have hp2 := node_c1 bp.out
    have hf2 := Lib.frozen_of_heap bp.out 1
    obtain ⟨Aw, cw, rfl, -⟩ := own_form ho'
    have cq0' : (W5.setCell ⟨p, 1, none⟩ (.slice Aw (ps.length + 1) cw)).cell? ⟨q, 0, none⟩ = some (.slice (some ⟨gl, 0, none⟩) 5 cl) := node_c0 (tri5.out _ rfl).hq
    have cfq : (W5.setCell ⟨p, 1, none⟩ (.slice Aw (ps.length + 1) cw)).frozen? ⟨q, 0, none⟩ = false := Lib.frozen_of_heap (tri5.out _ rfl).hq 0
    have hRl : Hid (∀ W, W.ownsRow 0 83 2 (.slice (some ⟨gl, 0, none⟩) 5 cl) 5 (tents lk) → Rd W 2 (some ⟨gl, 0, none⟩) 2 cl (tents (lk.take 2))) := fun W h => by have := (Rd.of_own h).takeK (m := 2) (by omega); rw [tents_take] at this; exact this
    replace tri5 := hid (tri5.out _ rfl)
    clear ho' hrw tri4 hva hne bp cp1 cq0
    go_wp2_with fail
    clear hp2 hf2
    generalize W5.setCell ⟨p, 1, none⟩ (.slice Aw (ps.length + 1) cw) = W6 at *
    refine (clone_N (some ⟨gl, 0, none⟩) 2 cl (tents (lk.take 2)) W6 (by omega) (hRl.out W6 tri5.out.o3) (tents_one _)).mono ?_
    rintro e W7 ⟨v7, rfl, ho7, hx7⟩
    obtain ⟨A7, c7, rfl, -⟩ := own_form ho7
    have tri7 : ∀ u, u = Value.slice A7 2 c7 → Tri f w (W7.setCell ⟨q, 0, none⟩ u) p q r (.slice Av (l.length + 1) cv) (.slice Aw (ps.length + 1) cw) u (.slice Aq 0 cq3) (.slice Ar 2 cr) (.slice none 0 0) (l.length + 1) (ps.length + 1) 2 0 2 0 ((tents l).take (i * 2) ++ ([.string (tth lk 2).key, .int .i64 (tth lk 2).no] ++ (tents l).drop (i * 2))) ((ptrs ps).take (j * 1) ++ ([.pointer (some ⟨r, 0, none⟩)] ++ (ptrs ps).drop (j * 1))) (tents (lk.take 2)) (ptrs []) (tents (lk.drop 3)) [] := fun u e => by rw [e]; exact (tri5.out.rot.rep0 (W' := W7) (Ext.grown hx7 _) (own_baseK ho7 (Nat.zero_le _)) (.inr (own_freshB ho7))).rot.rot
    replace tri7 := hid (tri7 _ rfl)
    replace cq0' := hx7.cell cq0'
    have cfq7 : W7.frozen? ⟨q, 0, none⟩ = false := Lib.frozen_of_heap ((hx7.block (Array.getElem?_eq_some_iff.1 tri5.out.hq).1).trans tri5.out.hq) 0
    have eL : Hid ((tents l).take (i * 2) ++ ([.string (tth lk 2).key, .int .i64 (tth lk 2).no] ++ (tents l).drop (i * 2)) = tents (l.take i ++ tth lk 2 :: l.drop i)) := by unfold Hid; rw [tents_take, tents_drop, tents_append]; rfl
    have eK : Hid ((ptrs ps).take (j * 1) ++ ([.pointer (some ⟨r, 0, none⟩)] ++ (ptrs ps).drop (j * 1)) = ptrs (ps.take (i + 1) ++ r :: ps.drop (i + 1))) := by
      unfold Hid; rw [hj.out, Nat.mul_one]; unfold ptrs; rw [List.map_append, List.map_cons, List.map_take, List.map_drop]; rfl
    clear ho7 hx7 tri5 cfq
    go_wp2_with fail
    go_end0
    refine ⟨rfl, r, .slice Av (l.length + 1) cv, .slice Aw (ps.length + 1) cw, .slice A7 2 c7, (.slice Aq 0 cq3), .slice Ar 2 cr, (.slice none 0 0), ?_⟩
    have hfin := tri7.out
    rw [eL.out, eK.out] at hfin
    exact hfin
  · rw [h6] at tri
    obtain ⟨gk, ck3, curk, rfl, -, hck1, hck2, -, -⟩ := row_open tri.out.o4 (by omega)
    have hRa : Hid (∀ W : World, W.ownsRow 0 51 1 (.slice (some ⟨gk, 0, none⟩) 6 ck3) 6 (ptrs pk) → Rd W 1 (some ⟨gk, 3, none⟩) 3 (ck3 - 3) (ptrs (pk.drop 3))) := fun W h => by
      have := (Rd.of_own h).sub (a := 3) (b := 6) (by omega) (by omega)
      rw [show (ptrs pk).drop (3 * 1) = ptrs (pk.drop 3) by unfold ptrs; rw [List.map_drop], List.take_of_length_le (by rw [ptrs_len, List.length_drop]; omega)] at this
      exact this
    have hRb : Hid (∀ W : World, W.ownsRow 0 51 1 (.slice (some ⟨gk, 0, none⟩) 6 ck3) 6 (ptrs pk) → Rd W 1 (some ⟨gk, 0, none⟩) 3 ck3 (ptrs (pk.take 3))) := fun W h => by
      have := (Rd.of_own h).takeK (m := 3) (by omega)
      rw [show (ptrs pk).take (3 * 1) = ptrs (pk.take 3) by unfold ptrs; rw [List.map_take]] at this
      exact this
    have hnk : ¬ ck3 = 3 := by omega
    go_wp2_with fail
    generalize w1.heap.size = r at *
    generalize w1.alloc (.cells #[.slice Ar 2 cr, .slice none 0 0] 55) = W0 at *
    refine (clone_K (some ⟨gk, 3, none⟩) 3 (ck3 - 3) (ptrs (pk.drop 3)) W0 (by omega) (hRa.out W0 tri.out.o4) (ptrs_one _)).mono ?_
    rintro e W1 ⟨v1, rfl, ho1, hx1⟩
    obtain ⟨A1, c1, rfl, -⟩ := own_form ho1
    have tri1 : ∀ u, u = Value.slice A1 3 c1 → Tri f w (W1.setCell ⟨r, 1, none⟩ u) p q r lv (.slice (some kad) ps.length kc) (.slice (some ⟨gl, 0, none⟩) 5 cl) (.slice (some ⟨gk, 0, none⟩) 6 ck3) (.slice Ar 2 cr) u l.length ps.length 5 6 2 3 (tents l) (ptrs ps) (tents lk) (ptrs pk) (tents (lk.drop 3)) (ptrs (pk.drop 3)) := fun u e => by rw [e]; exact (tri.out.rot.rot.rep1 (W' := W1) (Ext.grown hx1 _) (own_baseK ho1 (Nat.zero_le _)) (.inr (own_freshB ho1))).rot
    replace tri1 := hid (tri1 _ rfl)
    replace hcr1 := hx1.cell hcr1
    have hcr3 : W1.frozen? ⟨r, 1, none⟩ = false := Lib.frozen_of_heap ((hx1.block (Array.getElem?_eq_some_iff.1 tri.out.hr).1).trans tri.out.hr) 1
    replace cq1 := node_c1 tri1.out.hq
    have hcq3 := Lib.frozen_of_heap tri1.out.hq 1
    clear ho1 hx1 tri hcr2 hcq2 hRa hx2 cp1 cq0
    go_wp2_with fail
    clear hcr1 hcr3
    generalize W1.setCell ⟨r, 1, none⟩ (.slice A1 3 c1) = W2 at *
    refine (clone_K (some ⟨gk, 0, none⟩) 3 ck3 (ptrs (pk.take 3)) W2 (by omega) (hRb.out W2 tri1.out.o4) (ptrs_one _)).mono ?_
    rintro e W3 ⟨v3, rfl, ho3, hx3⟩
    obtain ⟨A3, c3, rfl, -⟩ := own_form ho3
    have tri3 : ∀ u, u = Value.slice A3 3 c3 → Tri f w (W3.setCell ⟨q, 1, none⟩ u) p q r lv (.slice (some kad) ps.length kc) (.slice (some ⟨gl, 0, none⟩) 5 cl) u (.slice Ar 2 cr) (.slice A1 3 c1) l.length ps.length 5 3 2 3 (tents l) (ptrs ps) (tents lk) (ptrs (pk.take 3)) (tents (lk.drop 3)) (ptrs (pk.drop 3)) := fun u e => by rw [e]; exact (tri1.out.rot.rep1 (W' := W3) (Ext.grown hx3 _) (own_baseK ho3 (Nat.zero_le _)) (.inr (own_freshB ho3))).rot.rot
    have tri := hid (tri3 _ rfl)
    replace cq1 := hx3.cell cq1
    have hcq4 : W3.frozen? ⟨q, 1, none⟩ = false := Lib.frozen_of_heap ((hx3.block (Array.getElem?_eq_some_iff.1 tri1.out.hq).1).trans tri1.out.hq) 1
    clear ho3 hx3 tri1 tri3 hRb hcq3
    go_upto_region 6 with fail
    generalize W3.setCell ⟨q, 1, none⟩ (.slice A3 3 c3) = W at *
    clear hcq4 cq1
    obtain ⟨Al, cl2, rfl, hrl⟩ := own_rd tri.out.o1
    have hml := Rd.max hrl
    have tri' := hid (tri.out.ext (Ext.refl W).drew_right)
    have I0 : (fun w' : World => w'.cell? ⟨p, 0, none⟩ = some (.slice Al l.length cl2) ∧ w'.cell? ⟨q, 0, none⟩ = some (.slice (some ⟨gl, 0, none⟩) 5 cl) ∧ w'.cell? ⟨gl, 4, none⟩ = some (.string (tth lk 2).key) ∧ w'.cell? ⟨gl, 5, none⟩ = some (.int .i64 (tth lk 2).no)) W.drew := ⟨node_c0 tri'.out.hp, node_c0 tri'.out.hq, (hce.out _ tri'.out.o3).1, (hce.out _ tri'.out.o3).2⟩
    refine region_J (fun w' : World => w'.cell? ⟨p, 0, none⟩ = some (.slice Al l.length cl2) ∧ w'.cell? ⟨q, 0, none⟩ = some (.slice (some ⟨gl, 0, none⟩) 5 cl) ∧ w'.cell? ⟨gl, 4, none⟩ = some (.string (tth lk 2).key) ∧ w'.cell? ⟨gl, 5, none⟩ = some (.int .i64 (tth lk 2).no)) 17 (by kernel_rfl) ?_
    clear tri hrl
    generalize W.drew = W at *
    refine J_take 0 (v := ?vbx0) rfl (by kernel_rfl) (by kernel_rfl) (by kernel_rfl) (by kernel_rfl) (fun _ _ _ h => h) (Or.inl ⟨by rfl, ?ybx0⟩) I0 ?rbx0
    case ybx0 => (intro w hSw; obtain ⟨_, _, _, _⟩ := hSw; (go_simp; with_reducible rfl))
    simp only [Act.put, List.getElem_toArray, List.getElem_cons_zero, List.getElem_cons_succ, List.setIfInBounds_toArray, List.set_cons_zero, List.set_cons_succ]
    refine J_take 1 (v := ?vbx1) rfl (by kernel_rfl) (by kernel_rfl) (by kernel_rfl) (by kernel_rfl) (fun _ _ _ h => h) (Or.inl ⟨by rfl, ?ybx1⟩) I0 ?rbx1
    case ybx1 => (intro w hSw; obtain ⟨_, _, _, _⟩ := hSw; (go_simp; with_reducible rfl))
    simp only [Act.put, List.getElem_toArray, List.getElem_cons_zero, List.getElem_cons_succ, List.setIfInBounds_toArray, List.set_cons_zero, List.set_cons_succ]
    refine J_take 2 (v := ?vbx2) rfl (by kernel_rfl) (by kernel_rfl) (by kernel_rfl) (by kernel_rfl) (fun _ _ _ h => h) (Or.inl ⟨by rfl, ?ybx2⟩) I0 ?rbx2
    case ybx2 => (intro w hSw; obtain ⟨_, _, _, _⟩ := hSw; (go_simp; with_reducible rfl))
    simp only [Act.put, List.getElem_toArray, List.getElem_cons_zero, List.getElem_cons_succ, List.setIfInBounds_toArray, List.set_cons_zero, List.set_cons_succ]
    refine J_take 3 (v := ?vbx3) rfl (by kernel_rfl) (by kernel_rfl) (by kernel_rfl) (by kernel_rfl) (fun _ _ _ h => h) (Or.inl ⟨by rfl, ?ybx3⟩) I0 ?rbx3
    case ybx3 => (intro w hSw; obtain ⟨_, _, _, _⟩ := hSw; (go_simp; with_reducible rfl))
    simp only [Act.put, List.getElem_toArray, List.getElem_cons_zero, List.getElem_cons_succ, List.setIfInBounds_toArray, List.set_cons_zero, List.set_cons_succ]
    refine J_take 4 (v := ?vbx4) rfl (by kernel_rfl) (by kernel_rfl) (by kernel_rfl) (by kernel_rfl) (fun _ _ _ h => h) (Or.inl ⟨by rfl, ?ybx4⟩) I0 ?rbx4
    case ybx4 => (intro w hSw; obtain ⟨_, _, _, _⟩ := hSw; (go_simp; with_reducible rfl))
    simp only [Act.put, List.getElem_toArray, List.getElem_cons_zero, List.getElem_cons_succ, List.setIfInBounds_toArray, List.set_cons_zero, List.set_cons_succ]
    refine J_take 5 (v := ?vbx5) rfl (by kernel_rfl) (by kernel_rfl) (by kernel_rfl) (by kernel_rfl) (fun _ _ _ h => h) (Or.inl ⟨by rfl, ?ybx5⟩) I0 ?rbx5
    case ybx5 => (intro w hSw; obtain ⟨_, _, _, _⟩ := hSw; (go_simp; with_reducible rfl))
    simp only [Act.put, List.getElem_toArray, List.getElem_cons_zero, List.getElem_cons_succ, List.setIfInBounds_toArray, List.set_cons_zero, List.set_cons_succ]
    refine J_take 6 (v := ?vbx6) rfl (by kernel_rfl) (by kernel_rfl) (by kernel_rfl) (by kernel_rfl) (fun _ _ _ h => h) (Or.inl ⟨by rfl, ?ybx6⟩) I0 ?rbx6
    case ybx6 => (intro w hSw; obtain ⟨_, _, _, _⟩ := hSw; (go_simp; with_reducible rfl))
    simp only [Act.put, List.getElem_toArray, List.getElem_cons_zero, List.getElem_cons_succ, List.setIfInBounds_toArray, List.set_cons_zero, List.set_cons_succ]
    refine J_take 7 (v := ?vbx7) rfl (by kernel_rfl) (by kernel_rfl) (by kernel_rfl) (by kernel_rfl) (fun _ _ _ h => h) (Or.inl ⟨by rfl, ?ybx7⟩) I0 ?rbx7
    case ybx7 => (intro w hSw; obtain ⟨_, _, _, _⟩ := hSw; (go_simp; with_reducible rfl))
    simp only [Act.put, List.getElem_toArray, List.getElem_cons_zero, List.getElem_cons_succ, List.setIfInBounds_toArray, List.set_cons_zero, List.set_cons_succ]
    refine J_take 8 (v := ?vbx8) rfl (by kernel_rfl) (by kernel_rfl) (by kernel_rfl) (by kernel_rfl) (fun _ _ _ h => h) (Or.inl ⟨by rfl, ?ybx8⟩) I0 ?rbx8
    case ybx8 => (intro w hSw; obtain ⟨_, _, _, _⟩ := hSw; (go_simp; with_reducible rfl))
    simp only [Act.put, List.getElem_toArray, List.getElem_cons_zero, List.getElem_cons_succ, List.setIfInBounds_toArray, List.set_cons_zero, List.set_cons_succ]
    refine J_take 9 (v := ?vbx9) rfl (by kernel_rfl) (by kernel_rfl) (by kernel_rfl) (by kernel_rfl) (fun _ _ _ h => h) (Or.inl ⟨by rfl, ?ybx9⟩) I0 ?rbx9
    case ybx9 => (intro w hSw; obtain ⟨_, _, _, _⟩ := hSw; (go_simp; with_reducible rfl))
    simp only [Act.put, List.getElem_toArray, List.getElem_cons_zero, List.getElem_cons_succ, List.setIfInBounds_toArray, List.set_cons_zero, List.set_cons_succ]
    refine J_take 10 (v := ?vbx10) rfl (by kernel_rfl) (by kernel_rfl) (by kernel_rfl) (by kernel_rfl) (fun _ _ _ h => h) (Or.inl ⟨by rfl, ?ybx10⟩) I0 ?rbx10
    case ybx10 => (intro w hSw; obtain ⟨_, _, _, _⟩ := hSw; (go_simp; with_reducible rfl))
    simp only [Act.put, List.getElem_toArray, List.getElem_cons_zero, List.getElem_cons_succ, List.setIfInBounds_toArray, List.set_cons_zero, List.set_cons_succ]
    refine J_take 11 (v := ?vbx11) rfl (by kernel_rfl) (by kernel_rfl) (by kernel_rfl) (by kernel_rfl) (fun _ _ _ h => h) (Or.inl ⟨by rfl, ?ybx11⟩) I0 ?rbx11
    case ybx11 => (intro w hSw; obtain ⟨_, _, _, _⟩ := hSw; (go_simp; with_reducible rfl))
    simp only [Act.put, List.getElem_toArray, List.getElem_cons_zero, List.getElem_cons_succ, List.setIfInBounds_toArray, List.set_cons_zero, List.set_cons_succ]
    refine J_take 12 (v := ?vbx12) rfl (by kernel_rfl) (by kernel_rfl) (by kernel_rfl) (by kernel_rfl) (fun _ _ _ h => h) (Or.inl ⟨by rfl, ?ybx12⟩) I0 ?rbx12
    case ybx12 => (intro w hSw; obtain ⟨_, _, _, _⟩ := hSw; (go_simp; with_reducible rfl))
    simp only [Act.put, List.getElem_toArray, List.getElem_cons_zero, List.getElem_cons_succ, List.setIfInBounds_toArray, List.set_cons_zero, List.set_cons_succ]
    refine J_one 13 rfl (by kernel_rfl) (fun K hK => ?_)
    go_simp
    have tri2 := hid (tri'.out.ext ((Ext.refl W).alloc_right (.cells #[.string (tth lk 2).key, .int .i64 (tth lk 2).no] 83)))
    have hva := hid (heap_alloc_new W (.cells #[.string (tth lk 2).key, .int .i64 (tth lk 2).no] 83))
    have hne : Hid ((Value.slice Al l.length cl2).ownBlock ≠ some W.heap.size) := fun e => by have := (tri'.out.o1.lt _ e).2; omega
    have I1 : (fun w' : World => w'.cell? ⟨p, 0, none⟩ = some (.slice Al l.length cl2) ∧ w'.cell? ⟨q, 0, none⟩ = some (.slice (some ⟨gl, 0, none⟩) 5 cl) ∧ w'.cell? ⟨gl, 4, none⟩ = some (.string (tth lk 2).key) ∧ w'.cell? ⟨gl, 5, none⟩ = some (.int .i64 (tth lk 2).no)) (W.alloc (.cells #[.string (tth lk 2).key, .int .i64 (tth lk 2).no] 83)) := ⟨((Ext.refl W).alloc_right _).cell I0.1, ((Ext.refl W).alloc_right _).cell I0.2.1, ((Ext.refl W).alloc_right _).cell I0.2.2.1, ((Ext.refl W).alloc_right _).cell I0.2.2.2⟩
    clear tri'
    generalize W.heap.size = va at *
    generalize W.alloc (.cells #[.string (tth lk 2).key, .int .i64 (tth lk 2).no] 83) = W1 at *
    refine hK _ _ ⟨fun _ => I1, ?_⟩
    clear hK K
    try simp only [Act.put, List.getElem_toArray, List.getElem_cons_zero, List.getElem_cons_succ, List.setIfInBounds_toArray, List.set_cons_zero, List.set_cons_succ]
    refine J_one 14 rfl (by kernel_rfl) (fun K hK => ?_)
    go_simp
    refine (ins_N l.length i _ (tents l) [.string (tth lk 2).key, .int .i64 (tth lk 2).no] va W1 hi (by omega) tri2.out.o1 (tents_one _) hva.out rfl (tents_one [tth lk 2]) hne.out).mono ?_
    rintro e W2 ⟨v', rfl, ho', hrw⟩
    have tri3 : ∀ u, u = v' → Tri f w (W2.setCell ⟨p, 0, none⟩ u) p q r u (.slice (some kad) ps.length kc) (.slice (some ⟨gl, 0, none⟩) 5 cl) (.slice A3 3 c3) (.slice Ar 2 cr) (.slice A1 3 c1) (l.length + 1) ps.length 5 3 2 3 ((tents l).take (i * 2) ++ ([.string (tth lk 2).key, .int .i64 (tth lk 2).no] ++ (tents l).drop (i * 2))) (ptrs ps) (tents lk) (ptrs (pk.take 3)) (tents (lk.drop 3)) (ptrs (pk.drop 3)) := fun u e => by rw [e]; exact tri2.out.rep0 hrw.1 ho' hrw.2
    replace tri3 := hid tri3
    have hp2 : W2.cell? ⟨p, 0, none⟩ = some (.slice Al l.length cl2) := node_c0 ((hrw.1.block p (Array.getElem?_eq_some_iff.1 tri2.out.hp).1 (fun e0 => by have := tri2.out.nd p; rw [ob_some e0.symm, one_self] at this; omega)).trans tri2.out.hp)
    have hf2 : W2.frozen? ⟨p, 0, none⟩ = false := Lib.frozen_of_heap ((hrw.1.block p (Array.getElem?_eq_some_iff.1 tri2.out.hp).1 (fun e0 => by have := tri2.out.nd p; rw [ob_some e0.symm, one_self] at this; omega)).trans tri2.out.hp) 0
    have I2 : (fun w' : World => w'.cell? ⟨p, 0, none⟩ = some (.slice Al l.length cl2) ∧ w'.cell? ⟨q, 0, none⟩ = some (.slice (some ⟨gl, 0, none⟩) 5 cl) ∧ w'.cell? ⟨gl, 4, none⟩ = some (.string (tth lk 2).key) ∧ w'.cell? ⟨gl, 5, none⟩ = some (.int .i64 (tth lk 2).no)) W2 := by
      refine ⟨hp2, node_c0 ((hrw.1.block q (Array.getElem?_eq_some_iff.1 tri2.out.hq).1 (fun e0 => by have := tri2.out.nd q; rw [ob_some e0.symm, one_self] at this; omega)).trans tri2.out.hq), ?_, ?_⟩
      · exact (hce.out _ (own_ne tri2.out.o3 hrw.1 (fun k e e2 => by have := tri2.out.nd k; rw [ob_some e, ob_some e2] at this; omega))).1
      · exact (hce.out _ (own_ne tri2.out.o3 hrw.1 (fun k e e2 => by have := tri2.out.nd k; rw [ob_some e, ob_some e2] at this; omega))).2
    obtain ⟨Av, cv, rfl, -⟩ := own_form ho'
    clear ho' hrw tri2 hva hne I1 I0
    refine hK _ _ ⟨fun _ => I2, ?_⟩
    clear hK K
    try simp only [Act.put, List.getElem_toArray, List.getElem_cons_zero, List.getElem_cons_succ, List.setIfInBounds_toArray, List.set_cons_zero, List.set_cons_succ]
    refine J_one 15 rfl (by kernel_rfl) (fun K hK => ?_)
    go_simp
    refine hK _ _ ⟨fun _ => I2, ?_⟩
    clear hK K
    try simp only [Act.put, List.setIfInBounds_toArray, List.set_cons_zero, List.set_cons_succ]
    refine J_one 16 rfl (by kernel_rfl) (fun K hK => ?_)
    go_simp
    refine hK _ _ ⟨fun _ => I2, ?_⟩
    clear hK K
    try simp only [Act.put, List.setIfInBounds_toArray, List.set_cons_zero, List.set_cons_succ]
    refine J_one 17 rfl (by kernel_rfl) (fun K hK => ?_)
    go_simp
    refine hK _ _ ⟨fun h => absurd rfl h, ?_⟩
    clear hK K
    refine J_done (by kernel_rfl) (OnlyOn.normal ?_)
    replace tri3 := hid (tri3.out _ rfl)
    clear I2 hp2 hf2
    generalize W2.setCell ⟨p, 0, none⟩ (.slice Av (l.length + 1) cv) = W3 at *
    have cp1 := node_c1 tri3.out.hp
    have cq0 := node_c0 tri3.out.hq
    have hw9 : IntKind.i64.wrap ((i : Int) + 1) = ((i + 1 : Nat) : Int) := by rw [IntWalk.i64_in _ (by omega)]; omega
    have lpW := World.block_lt_of_cell? _ _ cp1
    dsimp only at lpW
    have lqW := World.block_lt_of_cell? _ _ cq0
    dsimp only at lqW
    obtain ⟨j, hj⟩ : ∃ j, j = i + 1 := ⟨_, rfl⟩
    rw [← hj] at hw9
    replace hj := hid hj
    have tri4 := hid (tri3.out.ext ((Ext.refl W3).alloc_right (.cells #[.pointer (some ⟨r, 0, none⟩)] 51)))
    have hva := hid (heap_alloc_new W3 (.cells #[.pointer (some ⟨r, 0, none⟩)] 51))
    have hne : Hid ((Value.slice (some kad) ps.length kc).ownBlock ≠ some W3.heap.size) := fun e => by have := (tri3.out.o2.lt _ e).2; omega
    have hx9 := (Ext.refl W3).alloc_right (.cells #[.pointer (some ⟨r, 0, none⟩)] 51)
    clear tri3
    go_wp2_with fail
    replace cp1 := hx9.cell cp1
    replace cq0 := hx9.cell cq0
    clear hx9
    generalize W3.heap.size = va at *
    generalize W3.alloc (.cells #[.pointer (some ⟨r, 0, none⟩)] 51) = W4 at *
    refine (ins_K ps.length j _ (ptrs ps) [.pointer (some ⟨r, 0, none⟩)] va W4 (by have := hj.out; omega) (by omega) tri4.out.o2 (ptrs_one _) hva.out rfl (ptrs_one [r]) hne.out).mono ?_
    rintro e W5 ⟨v', rfl, ho', hrw⟩
    have tri5 : ∀ u, u = v' → Tri f w (W5.setCell ⟨p, 1, none⟩ u) p q r (.slice Av (l.length + 1) cv) u (.slice (some ⟨gl, 0, none⟩) 5 cl) (.slice A3 3 c3) (.slice Ar 2 cr) (.slice A1 3 c1) (l.length + 1) (ps.length + 1) 5 3 2 3 ((tents l).take (i * 2) ++ ([.string (tth lk 2).key, .int .i64 (tth lk 2).no] ++ (tents l).drop (i * 2))) ((ptrs ps).take (j * 1) ++ ([.pointer (some ⟨r, 0, none⟩)] ++ (ptrs ps).drop (j * 1))) (tents lk) (ptrs (pk.take 3)) (tents (lk.drop 3)) (ptrs (pk.drop 3)) := fun u e => by rw [e]; exact tri4.out.rep1 hrw.1 ho' hrw.2
    replace tri5 := hid tri5
    have bp := hid ((hrw.1.block p (Array.getElem?_eq_some_iff.1 tri4.out.hp).1 (fun e0 => by have := tri4.out.nd p; rw [ob_some e0.symm, one_self] at this; omega)).trans tri4.out.hp)
    have hp2 := node_c1 bp.out
    have hf2 := Lib.frozen_of_heap bp.out 1
    obtain ⟨Aw, cw, rfl, -⟩ := own_form ho'
    have cq0' : (W5.setCell ⟨p, 1, none⟩ (.slice Aw (ps.length + 1) cw)).cell? ⟨q, 0, none⟩ = some (.slice (some ⟨gl, 0, none⟩) 5 cl) := node_c0 (tri5.out _ rfl).hq
    have cfq : (W5.setCell ⟨p, 1, none⟩ (.slice Aw (ps.length + 1) cw)).frozen? ⟨q, 0, none⟩ = false := Lib.frozen_of_heap (tri5.out _ rfl).hq 0
    have hRl : Hid (∀ W, W.ownsRow 0 83 2 (.slice (some ⟨gl, 0, none⟩) 5 cl) 5 (tents lk) → Rd W 2 (some ⟨gl, 0, none⟩) 2 cl (tents (lk.take 2))) := fun W h => by have := (Rd.of_own h).takeK (m := 2) (by omega); rw [tents_take] at this; exact this
    replace tri5 := hid (tri5.out _ rfl)
    clear ho' hrw tri4 hva hne bp cp1 cq0
    go_wp2_with fail
    clear hp2 hf2
    generalize W5.setCell ⟨p, 1, none⟩ (.slice Aw (ps.length + 1) cw) = W6 at *
    refine (clone_N (some ⟨gl, 0, none⟩) 2 cl (tents (lk.take 2)) W6 (by omega) (hRl.out W6 tri5.out.o3) (tents_one _)).mono ?_
    rintro e W7 ⟨v7, rfl, ho7, hx7⟩
    obtain ⟨A7, c7, rfl, -⟩ := own_form ho7
    have tri7 : ∀ u, u = Value.slice A7 2 c7 → Tri f w (W7.setCell ⟨q, 0, none⟩ u) p q r (.slice Av (l.length + 1) cv) (.slice Aw (ps.length + 1) cw) u (.slice A3 3 c3) (.slice Ar 2 cr) (.slice A1 3 c1) (l.length + 1) (ps.length + 1) 2 3 2 3 ((tents l).take (i * 2) ++ ([.string (tth lk 2).key, .int .i64 (tth lk 2).no] ++ (tents l).drop (i * 2))) ((ptrs ps).take (j * 1) ++ ([.pointer (some ⟨r, 0, none⟩)] ++ (ptrs ps).drop (j * 1))) (tents (lk.take 2)) (ptrs (pk.take 3)) (tents (lk.drop 3)) (ptrs (pk.drop 3)) := fun u e => by rw [e]; exact (tri5.out.rot.rep0 (W' := W7) (Ext.grown hx7 _) (own_baseK ho7 (Nat.zero_le _)) (.inr (own_freshB ho7))).rot.rot
    replace tri7 := hid (tri7 _ rfl)
    replace cq0' := hx7.cell cq0'
    have cfq7 : W7.frozen? ⟨q, 0, none⟩ = false := Lib.frozen_of_heap ((hx7.block (Array.getElem?_eq_some_iff.1 tri5.out.hq).1).trans tri5.out.hq) 0
    have eL : Hid ((tents l).take (i * 2) ++ ([.string (tth lk 2).key, .int .i64 (tth lk 2).no] ++ (tents l).drop (i * 2)) = tents (l.take i ++ tth lk 2 :: l.drop i)) := by unfold Hid; rw [tents_take, tents_drop, tents_append]; rfl
    have eK : Hid ((ptrs ps).take (j * 1) ++ ([.pointer (some ⟨r, 0, none⟩)] ++ (ptrs ps).drop (j * 1)) = ptrs (ps.take (i + 1) ++ r :: ps.drop (i + 1))) := by
      unfold Hid; rw [hj.out, Nat.mul_one]; unfold ptrs; rw [List.map_append, List.map_cons, List.map_take, List.map_drop]; rfl
    clear ho7 hx7 tri5 cfq
    go_wp2_with fail
    go_end0
    refine ⟨rfl, r, .slice Av (l.length + 1) cv, .slice Aw (ps.length + 1) cw, .slice A7 2 c7, (.slice A3 3 c3), .slice Ar 2 cr, (.slice A1 3 c1), ?_⟩
    have hfin := tri7.out
    rw [eL.out, eK.out] at hfin
    have k3 : (pk.take 3).length = 3 := by rw [List.length_take]; omega
    have k4 : (pk.drop 3).length = 3 := by rw [List.length_drop]; omega
    rw [k3, k4]
    exact hfin
end Go.Proofs.YtpijfiaecicpfaaGreat

