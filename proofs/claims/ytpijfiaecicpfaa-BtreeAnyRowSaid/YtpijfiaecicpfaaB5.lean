/-
  slices.Insert of one element: where there is no room, at the end, and all together.
-/
import Derived.Test.YtpijfiaecicpfaaB4
namespace Go.Proofs.Ytpijfiaecicpfaa
open Go.RowKit Go.Shelf
set_option linter.unusedVariables false
set_option linter.unusedSimpArgs false
set_option maxRecDepth 100000 in
set_option maxHeartbeats 4000000 in
theorem insB_N (g n i j t : Nat) (cur ns : List Value) (va : Nat) (w : World) (hj : Hid (j = i + 1)) (ht : Hid (t = n + 1)) (hin : i < n) (hjt : j < t) (hnt : n < t) (hc : n ≤ 1000000) (hcur : cur.length = n * 2) (hns : Hid (ns.length = 1 * 2)) (hne : g ≠ va)
    (hg : Hid (w.heap[g]? = some (.cells cur.toArray 71 (0, 0)))) (hv : Hid (w.heap[va]? = some (.cells ns.toArray 71 (0, 0)))) (ho : Hid (∀ v ∈ cur.take (n * 2), v.oneCell' = true)) (hon : Hid (∀ v ∈ ns, v.oneCell' = true)) :
    Calls Try.prog 104 #[.slice (some ⟨g, 0, none⟩) n n, .int .i64 i, .slice (some ⟨va, 0, none⟩) 1 1] w fun e w' => ∃ (c' : Nat) (r : List Value), e = .returned (.slice (some ⟨w.heap.size, 0, none⟩) t c') ∧ t ≤ c' ∧ c' ≤ maxLen ∧ r.length = c' * 2 ∧ r.take (t * 2) = cur.take (i * 2) ++ (ns ++ (cur.drop (i * 2)).take ((n - i) * 2)) ∧ w'.heap[w.heap.size]? = some (.cells r.toArray 71 (0, 0)) ∧ Ext w w' := by
  have q1 : ((i : Int) == (n : Int)) = false := by rw [beq_eq_false_iff_ne]; omega
  have q3 : IntKind.i64.wrap ((n : Int) + 1) = t := by rw [IntWalk.i64_in _ (by omega), ht.out]; omega
  have q4 : IntKind.i64.wrap ((i : Int) + 1) = j := by rw [IntWalk.i64_in _ (by omega), hj.out]; omega
  have q5 : ((n : Int) + 1) = t := by rw [ht.out]; omega
  have q6 : ((i : Int) + 1) = j := by rw [hj.out]; omega
  have q7 : IntKind.i64.wrap ((t : Int) - (i : Int)) = ((t - i : Nat) : Int) := by have := ht.out; rw [IntWalk.i64_in _ (by omega)]; omega
  have hin2 : i ≤ n := by omega
  obtain ⟨c', r, hap, hc1, hc2, hr1, hr2⟩ := azero_N w g n i (t - i) cur hg hcur hin2 (by omega) (by omega) (by have := ht.out; omega)
  rw [show i + (t - i) = t by omega] at hap hc1
  have hxa : Hid (Ext w (w.drew.alloc (.cells r.toArray 71))) := ((Ext.refl w).drew_right).alloc_right _
  have hga : Hid ((w.drew.alloc (.cells r.toArray 71)).heap[w.heap.size]? = some (.cells r.toArray 71 (0, 0))) := heap_alloc_new w.drew _
  have hgb : Hid ((w.drew.alloc (.cells r.toArray 71)).heap[g]? = some (.cells cur.toArray 71 (0, 0))) := (hxa.out.block (Array.getElem?_eq_some_iff.1 hg.out).1).trans hg.out
  have hva : Hid ((w.drew.alloc (.cells r.toArray 71)).heap[va]? = some (.cells ns.toArray 71 (0, 0))) := (hxa.out.block (Array.getElem?_eq_some_iff.1 hv.out).1).trans hv.out
  have hgl : Hid (g < w.heap.size ∧ va < w.heap.size) := ⟨(Array.getElem?_eq_some_iff.1 hg.out).1, (Array.getElem?_eq_some_iff.1 hv.out).1⟩
  have hcb : c' ≤ 9223372036854775807 := hc2
  have hq0 : ¬ c' = i := by omega
  have hq9 : ¬ c' = j := by omega
  have hni : ¬ n = i := by omega
  have hit : i ≤ t := by omega
  have hjt2 : j ≤ t := by omega
  go_enter Try.func104, Try.ntmps104
  go_wp2_with (at_builtin; refine Lib.wpList_append_run _ rfl _ _ _ _ rfl _ _ rfl rfl _ _ hap ?_; clear hap; generalize w.drew.alloc (.cells r.toArray 71) = w2 at *)
  have hgl2 := hgl.out
  generalize hGe : w.heap.size = G at *
  replace hGe := hid hGe
  clear hgl hg hv
  have hsrc : ∀ k v, ns[k]? = some v → w2.cell? ((⟨va, 0, none⟩ : Addr).add k) = some v := fun k v h => row_cell hva.out 0 k (by rw [Nat.zero_add]; exact h)
  have hfit : i * 2 + ns.length ≤ r.length := by rw [hr1, hns.out]; have := hj.out; have := ht.out; omega
  have hmn : Hid (Nat.min 1 (t - i) = 1) := Nat.min_eq_left (by omega)
  have hmn2 : Hid (Nat.min (n - i) (t - j) = n - i) := Nat.min_eq_left (by have := hj.out; have := ht.out; omega)
  obtain ⟨w3, hcp, hg3, hr3⟩ := ex_copy_k (P := Try.prog) w2 92 92 3 71 2 G (i * 2) (t - i) (c' - i) ⟨va, 0, none⟩ 1 1 r _ ns Try.underlying92 (by kernel_rfl) hga 1 hmn hns hsrc hfit hon.out
  have hl3 : Hid ((splice r (i * 2) ns).length = c' * 2) := by unfold Hid; rw [length_splice _ _ _ hfit]; exact hr1
  have hgb3 : Hid (w3.drew.heap[g]? = some (.cells cur.toArray 71 (0, 0))) := (hr3.out.block g (Array.getElem?_eq_some_iff.1 hgb.out).1 (fun e => by have := Option.some.inj e; omega)).trans hgb.out
  have hg3d : Hid (w3.drew.heap[G]? = some (.cells (splice r (i * 2) ns).toArray 71 (0, 0))) := hg3.out
  have hx3 : Hid (Ext w w3.drew) := ⟨hr3.out.os.trans hxa.out.os, hr3.out.tape.trans hxa.out.tape, hr3.out.output.trans hxa.out.output, Nat.le_trans hxa.out.size hr3.out.size, fun k hk => (hr3.out.block k (Nat.lt_of_lt_of_le hk hxa.out.size) (fun e => by have := Option.some.inj e; rw [hGe.out] at hk; omega)).trans (hxa.out.block hk)⟩
  clear hsrc hfit hr3 hg3 hga hgb hva hxa
  have hsrc := hid (seg_src hgb3.out (i * 2) ((n - i) * 2))
  have hone := hid (one_seg ho.out (i * 2) ((n - i) * 2) (by omega))
  have hcl : Hid (((cur.drop (i * 2)).take ((n - i) * 2)).length = (n - i) * 2) := by unfold Hid; rw [List.length_take, List.length_drop, hcur]; apply Nat.min_eq_left; omega
  generalize hq1 : (cur.drop (i * 2)).take ((n - i) * 2) = cs at *
  replace hq1 := hid hq1
  have hfit : j * 2 + cs.length ≤ (splice r (i * 2) ns).length := by rw [hl3.out, hcl.out]; have := hj.out; have := ht.out; omega
  obtain ⟨w4, hcp2, hg4, hr4⟩ := ex_copy_k (P := Try.prog) w3.drew 92 92 3 71 2 G (j * 2) (t - j) (c' - j) ⟨g, i * 2, none⟩ (n - i) (n - i) (splice r (i * 2) ns) _ cs Try.underlying92 (by kernel_rfl) hg3d (n - i) hmn2 hcl hsrc.out hfit hone.out
  have hl4 : Hid ((splice (splice r (i * 2) ns) (j * 2) cs).length = c' * 2) := by unfold Hid; rw [length_splice _ _ _ hfit]; exact hl3.out
  have hx4 : Hid (Ext w w4) := ⟨hr4.out.os.trans hx3.out.os, hr4.out.tape.trans hx3.out.tape, hr4.out.output.trans hx3.out.output, Nat.le_trans hx3.out.size hr4.out.size, fun k hk => (hr4.out.block k (Nat.lt_of_lt_of_le hk hx3.out.size) (fun e => by have := Option.some.inj e; rw [hGe.out] at hk; omega)).trans (hx3.out.block hk)⟩
  have hfin : Hid ((splice (splice r (i * 2) ns) (j * 2) cs).take (t * 2) = cur.take (i * 2) ++ (ns ++ cs)) := by
    have h := splice_out2 (r := r) (ns := ns) (cs := cs) (a := i * 2) (b := j * 2) (by have := hj.out; rw [hns.out]; omega) (by rw [hr1, hcl.out]; have := hj.out; have := ht.out; omega)
    rw [hr2, hcl.out, show j * 2 + (n - i) * 2 = t * 2 by have := hj.out; have := ht.out; omega] at h
    exact h
  generalize splice (splice r (i * 2) ns) (j * 2) cs = r4 at *
  clear hsrc hone hfit hr4 hg3d hgb3 hx3
  try simp only [Nat.mul_one] at hcp
  try simp only [Nat.mul_one] at hcp2
  rw [hcp]
  clear hcp
  go_upto_region 11 with fail
  go_region
  go_wp2_with fail
  go_ret
  rw [hGe.out]
  exact ⟨c', r4, rfl, hc1, hc2, hl4.out, by rw [hq1.out]; exact hfin.out, hg4.out, hx4.out⟩
set_option maxRecDepth 100000 in
set_option maxHeartbeats 4000000 in
theorem insC_N (n : Nat) (v : Value) (xs ns : List Value) (va : Nat) (w : World) (hn : n ≤ 1000000) (hown : w.ownsRow 0 71 2 v n xs) (hv : w.heap[va]? = some (.cells ns.toArray 71 (0, 0))) (hns : ns.length = 1 * 2) (hon : ∀ v ∈ ns, v.oneCell' = true) :
    Calls Try.prog 104 #[v, .int .i64 n, .slice (some ⟨va, 0, none⟩) 1 1] w fun e w' => ∃ v', e = .returned v' ∧ w'.ownsRow 0 71 2 v' (n + 1) (xs ++ ns) ∧ Rw v v' w w' := by
  obtain ⟨i0, hi0, hz0, hz1, hz2⟩ := info_parts infoN
  obtain ⟨A, c, rfl, hr⟩ := own_rd hown
  have hmx := Rd.max hr
  have hnews : Hid (∀ j u, ns[j]? = some u → w.cell? ((⟨va, 0, none⟩ : Addr).add j) = some u) := fun k v h => row_cell hv 0 k (by rw [Nat.zero_add]; exact h)
  replace hns := hid hns
  replace hon := hid hon
  clear hr hv
  generalize hG : w.heap.size = G at *
  replace hG := hid hG
  rcases A with _ | ad
  · obtain ⟨rfl, rfl, rfl⟩ := own_none hown
    replace hown := hid hown
    go_enter Try.func104, Try.ntmps104
    go_wp2_with (at_builtin; refine wpList_append_lies _ rfl _ _ 92 rfl 0 71 i0 _ 2 24 Try.underlying92 hi0 hz0 hz1 hz2 rfl (by decide) _ _ _ rfl hown.out ⟨va, 0, none⟩ 1 1 ns rfl hns.out hnews.out hon.out (by decide) (by unfold maxLen; omega) (by omega) (Nat.zero_le _) G hG.out ?_)
    intro g' cap w1 own1 hg1 hat _
    have hrw : Hid (Rw (.slice none 0 0) (.slice (some ⟨g', 0, none⟩) (0 + 1) cap) w w1) := by
      refine ⟨hg1, ?_⟩
      rcases hat with h | h
      · left; rw [h]; rfl
      · right; intro k hk; have : g' = k := by simpa [Value.ownBlock] using hk
        have := hG.out; omega
    replace own1 := hid own1
    clear hg1 hat
    go_wp2
    go_ret
    exact ⟨_, rfl, own1.out, hrw.out⟩
  · replace hown := hid hown
    by_cases hcn : c = n
    · subst hcn
      go_enter Try.func104, Try.ntmps104
      go_wp2_with (at_builtin; refine wpList_append_lies _ rfl _ _ 92 rfl 0 71 i0 _ 2 24 Try.underlying92 hi0 hz0 hz1 hz2 rfl (by decide) _ _ _ rfl hown.out ⟨va, 0, none⟩ 1 1 ns rfl hns.out hnews.out hon.out (by decide) (by unfold maxLen; omega) (by omega) (Nat.zero_le _) G hG.out ?_)
      intro g' cap w1 own1 hg1 hat _
      have hrw : Hid (Rw (.slice (some ad) c c) (.slice (some ⟨g', 0, none⟩) (c + 1) cap) w w1) := by
        refine ⟨hg1, ?_⟩
        rcases hat with h | h
        · left; rw [h]; rfl
        · right; intro k hk; have : g' = k := by simpa [Value.ownBlock] using hk
          have := hG.out; omega
      replace own1 := hid own1
      clear hg1 hat
      go_wp2
      go_ret
      exact ⟨_, rfl, own1.out, hrw.out⟩
    · go_enter Try.func104, Try.ntmps104
      go_wp2_with (at_builtin; refine wpList_append_lies _ rfl _ _ 92 rfl 0 71 i0 _ 2 24 Try.underlying92 hi0 hz0 hz1 hz2 rfl (by decide) _ _ _ rfl hown.out ⟨va, 0, none⟩ 1 1 ns rfl hns.out hnews.out hon.out (by decide) (by unfold maxLen; omega) (by omega) (Nat.zero_le _) G hG.out ?_)
      intro g' cap w1 own1 hg1 hat _
      have hrw : Hid (Rw (.slice (some ad) n c) (.slice (some ⟨g', 0, none⟩) (n + 1) cap) w w1) := by
        refine ⟨hg1, ?_⟩
        rcases hat with h | h
        · left; rw [h]; rfl
        · right; intro k hk; have : g' = k := by simpa [Value.ownBlock] using hk
          have := hG.out; omega
      replace own1 := hid own1
      clear hg1 hat
      go_wp2
      go_ret
      exact ⟨_, rfl, own1.out, hrw.out⟩
theorem ins_N (n i : Nat) (v : Value) (xs ns : List Value) (va : Nat) (w : World) (hi : i ≤ n) (hn : n ≤ 1000000) (hown : w.ownsRow 0 71 2 v n xs) (h1 : ∀ u ∈ xs, u.oneCell' = true) (hv : w.heap[va]? = some (.cells ns.toArray 71 (0, 0))) (hns : ns.length = 1 * 2) (hon : ∀ v ∈ ns, v.oneCell' = true) (hne : v.ownBlock ≠ some va) :
    Calls Try.prog 104 #[v, .int .i64 i, .slice (some ⟨va, 0, none⟩) 1 1] w fun e w' => ∃ v', e = .returned v' ∧ w'.ownsRow 0 71 2 v' (n + 1) (xs.take (i * 2) ++ (ns ++ xs.drop (i * 2))) ∧ Rw v v' w w' := by
  have hxl : xs.length = n * 2 := hown.1
  by_cases hin : i = n
  · subst hin
    rw [List.take_of_length_le (by omega), List.drop_of_length_le (by omega), List.append_nil]
    exact insC_N i v xs ns va w hn hown hv hns hon
  · obtain ⟨g, c, cur, rfl, hg, hnc, hc, hl, ht⟩ := row_open hown (by omega)
    have hgv : g ≠ va := fun e => hne (by rw [e]; rfl)
    have e1 : cur.take (i * 2) = xs.take (i * 2) := by rw [← ht, List.take_take, Nat.min_eq_left (by omega)]
    have e2 : (cur.drop (i * 2)).take ((n - i) * 2) = xs.drop (i * 2) := by
      rw [← ht, List.drop_take]
      congr 1
      omega
    have hcl : ((cur.drop (i * 2)).take ((n - i) * 2)).length = (n - i) * 2 := by rw [e2, List.length_drop, hxl]; omega
    have hlen : (xs.take (i * 2) ++ (ns ++ xs.drop (i * 2))).length = (n + 1) * 2 := by
      rw [List.length_append, List.length_append, List.length_take, List.length_drop, hns, hxl]; omega
    by_cases hroom : n + 1 ≤ c
    · refine (insA_N g n c i (i + 1) (n + 1) cur ns va w rfl rfl (by omega) (by omega) (by omega) hroom hc hn hl hns hgv hg hv (by rw [ht]; exact h1) hon).mono ?_
      rintro e w' ⟨rfl, h2, h3⟩
      refine ⟨_, rfl, row_shut h2.out hroom hc (by rw [length_splice _ _ _ (by rw [length_splice _ _ _ (by rw [hcl, hl]; omega), hl, hns]; omega), length_splice _ _ _ (by rw [hcl, hl]; omega)]; exact hl) hlen ?_, h3.out, .inl rfl⟩
      have h := splice_in2 (cur := cur) (ns := ns) (cs := (cur.drop (i * 2)).take ((n - i) * 2)) (a := i * 2) (b := (i + 1) * 2) (by rw [hns]; omega) (by rw [hcl, hl]; omega)
      rw [hcl, show (i + 1) * 2 + (n - i) * 2 = (n + 1) * 2 by omega] at h
      rw [h, e1, e2]
    · obtain rfl : c = n := by omega
      refine (insB_N g c i (i + 1) (c + 1) cur ns va w rfl rfl (by omega) (by omega) (by omega) hn hl hns hgv hg hv (by rw [ht]; exact h1) hon).mono ?_
      rintro e w' ⟨c', r, rfl, h2, h3, h4, h5, h6, h7⟩
      refine ⟨_, rfl, row_shut h6 h2 h3 h4 hlen (by rw [h5, e1, e2]), Ext.grown h7 _, .inr (fun k hk => ?_)⟩
      have : w.heap.size = k := by simpa [Value.ownBlock] using hk
      omega
set_option maxRecDepth 100000 in
set_option maxHeartbeats 4000000 in
theorem insB_K (g n i j t : Nat) (cur ns : List Value) (va : Nat) (w : World) (hj : Hid (j = i + 1)) (ht : Hid (t = n + 1)) (hin : i < n) (hjt : j < t) (hnt : n < t) (hc : n ≤ 1000000) (hcur : cur.length = n * 1) (hns : Hid (ns.length = 1 * 1)) (hne : g ≠ va)
    (hg : Hid (w.heap[g]? = some (.cells cur.toArray 81 (0, 0)))) (hv : Hid (w.heap[va]? = some (.cells ns.toArray 81 (0, 0)))) (ho : Hid (∀ v ∈ cur.take (n * 1), v.oneCell' = true)) (hon : Hid (∀ v ∈ ns, v.oneCell' = true)) :
    Calls Try.prog 107 #[.slice (some ⟨g, 0, none⟩) n n, .int .i64 i, .slice (some ⟨va, 0, none⟩) 1 1] w fun e w' => ∃ (c' : Nat) (r : List Value), e = .returned (.slice (some ⟨w.heap.size, 0, none⟩) t c') ∧ t ≤ c' ∧ c' ≤ maxLen ∧ r.length = c' * 1 ∧ r.take (t * 1) = cur.take (i * 1) ++ (ns ++ (cur.drop (i * 1)).take ((n - i) * 1)) ∧ w'.heap[w.heap.size]? = some (.cells r.toArray 81 (0, 0)) ∧ Ext w w' := by
  have q1 : ((i : Int) == (n : Int)) = false := by rw [beq_eq_false_iff_ne]; omega
  have q3 : IntKind.i64.wrap ((n : Int) + 1) = t := by rw [IntWalk.i64_in _ (by omega), ht.out]; omega
  have q4 : IntKind.i64.wrap ((i : Int) + 1) = j := by rw [IntWalk.i64_in _ (by omega), hj.out]; omega
  have q5 : ((n : Int) + 1) = t := by rw [ht.out]; omega
  have q6 : ((i : Int) + 1) = j := by rw [hj.out]; omega
  have q7 : IntKind.i64.wrap ((t : Int) - (i : Int)) = ((t - i : Nat) : Int) := by have := ht.out; rw [IntWalk.i64_in _ (by omega)]; omega
  have hin2 : i ≤ n := by omega
  obtain ⟨c', r, hap, hc1, hc2, hr1, hr2⟩ := azero_K w g n i (t - i) cur hg hcur hin2 (by omega) (by omega) (by have := ht.out; omega)
  rw [show i + (t - i) = t by omega] at hap hc1
  have hxa : Hid (Ext w (w.drew.alloc (.cells r.toArray 81))) := ((Ext.refl w).drew_right).alloc_right _
  have hga : Hid ((w.drew.alloc (.cells r.toArray 81)).heap[w.heap.size]? = some (.cells r.toArray 81 (0, 0))) := heap_alloc_new w.drew _
  have hgb : Hid ((w.drew.alloc (.cells r.toArray 81)).heap[g]? = some (.cells cur.toArray 81 (0, 0))) := (hxa.out.block (Array.getElem?_eq_some_iff.1 hg.out).1).trans hg.out
  have hva : Hid ((w.drew.alloc (.cells r.toArray 81)).heap[va]? = some (.cells ns.toArray 81 (0, 0))) := (hxa.out.block (Array.getElem?_eq_some_iff.1 hv.out).1).trans hv.out
  have hgl : Hid (g < w.heap.size ∧ va < w.heap.size) := ⟨(Array.getElem?_eq_some_iff.1 hg.out).1, (Array.getElem?_eq_some_iff.1 hv.out).1⟩
  have hcb : c' ≤ 9223372036854775807 := hc2
  have hq0 : ¬ c' = i := by omega
  have hq9 : ¬ c' = j := by omega
  have hni : ¬ n = i := by omega
  have hit : i ≤ t := by omega
  have hjt2 : j ≤ t := by omega
  go_enter Try.func107, Try.ntmps107
  go_wp2_with (at_builtin; refine Lib.wpList_append_run _ rfl _ _ _ _ rfl _ _ rfl rfl _ _ hap ?_; clear hap; generalize w.drew.alloc (.cells r.toArray 81) = w2 at *)
  have hgl2 := hgl.out
  generalize hGe : w.heap.size = G at *
  replace hGe := hid hGe
  clear hgl hg hv
  have hsrc : ∀ k v, ns[k]? = some v → w2.cell? ((⟨va, 0, none⟩ : Addr).add k) = some v := fun k v h => row_cell hva.out 0 k (by rw [Nat.zero_add]; exact h)
  have hfit : i * 1 + ns.length ≤ r.length := by rw [hr1, hns.out]; have := hj.out; have := ht.out; omega
  have hmn : Hid (Nat.min 1 (t - i) = 1) := Nat.min_eq_left (by omega)
  have hmn2 : Hid (Nat.min (n - i) (t - j) = n - i) := Nat.min_eq_left (by have := hj.out; have := ht.out; omega)
  obtain ⟨w3, hcp, hg3, hr3⟩ := ex_copy_k (P := Try.prog) w2 103 103 3 81 1 G (i * 1) (t - i) (c' - i) ⟨va, 0, none⟩ 1 1 r _ ns Try.underlying103 (by kernel_rfl) hga 1 hmn hns hsrc hfit hon.out
  have hl3 : Hid ((splice r (i * 1) ns).length = c' * 1) := by unfold Hid; rw [length_splice _ _ _ hfit]; exact hr1
  have hgb3 : Hid (w3.drew.heap[g]? = some (.cells cur.toArray 81 (0, 0))) := (hr3.out.block g (Array.getElem?_eq_some_iff.1 hgb.out).1 (fun e => by have := Option.some.inj e; omega)).trans hgb.out
  have hg3d : Hid (w3.drew.heap[G]? = some (.cells (splice r (i * 1) ns).toArray 81 (0, 0))) := hg3.out
  have hx3 : Hid (Ext w w3.drew) := ⟨hr3.out.os.trans hxa.out.os, hr3.out.tape.trans hxa.out.tape, hr3.out.output.trans hxa.out.output, Nat.le_trans hxa.out.size hr3.out.size, fun k hk => (hr3.out.block k (Nat.lt_of_lt_of_le hk hxa.out.size) (fun e => by have := Option.some.inj e; rw [hGe.out] at hk; omega)).trans (hxa.out.block hk)⟩
  clear hsrc hfit hr3 hg3 hga hgb hva hxa
  have hsrc := hid (seg_src hgb3.out (i * 1) ((n - i) * 1))
  have hone := hid (one_seg ho.out (i * 1) ((n - i) * 1) (by omega))
  have hcl : Hid (((cur.drop (i * 1)).take ((n - i) * 1)).length = (n - i) * 1) := by unfold Hid; rw [List.length_take, List.length_drop, hcur]; apply Nat.min_eq_left; omega
  generalize hq1 : (cur.drop (i * 1)).take ((n - i) * 1) = cs at *
  replace hq1 := hid hq1
  have hfit : j * 1 + cs.length ≤ (splice r (i * 1) ns).length := by rw [hl3.out, hcl.out]; have := hj.out; have := ht.out; omega
  obtain ⟨w4, hcp2, hg4, hr4⟩ := ex_copy_k (P := Try.prog) w3.drew 103 103 3 81 1 G (j * 1) (t - j) (c' - j) ⟨g, i * 1, none⟩ (n - i) (n - i) (splice r (i * 1) ns) _ cs Try.underlying103 (by kernel_rfl) hg3d (n - i) hmn2 hcl hsrc.out hfit hone.out
  have hl4 : Hid ((splice (splice r (i * 1) ns) (j * 1) cs).length = c' * 1) := by unfold Hid; rw [length_splice _ _ _ hfit]; exact hl3.out
  have hx4 : Hid (Ext w w4) := ⟨hr4.out.os.trans hx3.out.os, hr4.out.tape.trans hx3.out.tape, hr4.out.output.trans hx3.out.output, Nat.le_trans hx3.out.size hr4.out.size, fun k hk => (hr4.out.block k (Nat.lt_of_lt_of_le hk hx3.out.size) (fun e => by have := Option.some.inj e; rw [hGe.out] at hk; omega)).trans (hx3.out.block hk)⟩
  have hfin : Hid ((splice (splice r (i * 1) ns) (j * 1) cs).take (t * 1) = cur.take (i * 1) ++ (ns ++ cs)) := by
    have h := splice_out2 (r := r) (ns := ns) (cs := cs) (a := i * 1) (b := j * 1) (by have := hj.out; rw [hns.out]; omega) (by rw [hr1, hcl.out]; have := hj.out; have := ht.out; omega)
    rw [hr2, hcl.out, show j * 1 + (n - i) * 1 = t * 1 by have := hj.out; have := ht.out; omega] at h
    exact h
  generalize splice (splice r (i * 1) ns) (j * 1) cs = r4 at *
  clear hsrc hone hfit hr4 hg3d hgb3 hx3
  try simp only [Nat.mul_one] at hcp
  try simp only [Nat.mul_one] at hcp2
  rw [hcp]
  clear hcp
  go_upto_region 11 with fail
  go_region
  go_wp2_with fail
  go_ret
  rw [hGe.out]
  exact ⟨c', r4, rfl, hc1, hc2, hl4.out, by rw [hq1.out]; exact hfin.out, hg4.out, hx4.out⟩
set_option maxRecDepth 100000 in
set_option maxHeartbeats 4000000 in
theorem insC_K (n : Nat) (v : Value) (xs ns : List Value) (va : Nat) (w : World) (hn : n ≤ 1000000) (hown : w.ownsRow 0 81 1 v n xs) (hv : w.heap[va]? = some (.cells ns.toArray 81 (0, 0))) (hns : ns.length = 1 * 1) (hon : ∀ v ∈ ns, v.oneCell' = true) :
    Calls Try.prog 107 #[v, .int .i64 n, .slice (some ⟨va, 0, none⟩) 1 1] w fun e w' => ∃ v', e = .returned v' ∧ w'.ownsRow 0 81 1 v' (n + 1) (xs ++ ns) ∧ Rw v v' w w' := by
  obtain ⟨i0, hi0, hz0, hz1, hz2⟩ := info_parts infoK
  obtain ⟨A, c, rfl, hr⟩ := own_rd hown
  have hmx := Rd.max hr
  have hnews : Hid (∀ j u, ns[j]? = some u → w.cell? ((⟨va, 0, none⟩ : Addr).add j) = some u) := fun k v h => row_cell hv 0 k (by rw [Nat.zero_add]; exact h)
  replace hns := hid hns
  replace hon := hid hon
  clear hr hv
  generalize hG : w.heap.size = G at *
  replace hG := hid hG
  rcases A with _ | ad
  · obtain ⟨rfl, rfl, rfl⟩ := own_none hown
    replace hown := hid hown
    go_enter Try.func107, Try.ntmps107
    go_wp2_with (at_builtin; refine wpList_append_lies _ rfl _ _ 103 rfl 0 81 i0 _ 1 8 Try.underlying103 hi0 hz0 hz1 hz2 rfl (by decide) _ _ _ rfl hown.out ⟨va, 0, none⟩ 1 1 ns rfl hns.out hnews.out hon.out (by decide) (by unfold maxLen; omega) (by omega) (Nat.zero_le _) G hG.out ?_)
    intro g' cap w1 own1 hg1 hat _
    have hrw : Hid (Rw (.slice none 0 0) (.slice (some ⟨g', 0, none⟩) (0 + 1) cap) w w1) := by
      refine ⟨hg1, ?_⟩
      rcases hat with h | h
      · left; rw [h]; rfl
      · right; intro k hk; have : g' = k := by simpa [Value.ownBlock] using hk
        have := hG.out; omega
    replace own1 := hid own1
    clear hg1 hat
    go_wp2
    go_ret
    exact ⟨_, rfl, own1.out, hrw.out⟩
  · replace hown := hid hown
    by_cases hcn : c = n
    · subst hcn
      go_enter Try.func107, Try.ntmps107
      go_wp2_with (at_builtin; refine wpList_append_lies _ rfl _ _ 103 rfl 0 81 i0 _ 1 8 Try.underlying103 hi0 hz0 hz1 hz2 rfl (by decide) _ _ _ rfl hown.out ⟨va, 0, none⟩ 1 1 ns rfl hns.out hnews.out hon.out (by decide) (by unfold maxLen; omega) (by omega) (Nat.zero_le _) G hG.out ?_)
      intro g' cap w1 own1 hg1 hat _
      have hrw : Hid (Rw (.slice (some ad) c c) (.slice (some ⟨g', 0, none⟩) (c + 1) cap) w w1) := by
        refine ⟨hg1, ?_⟩
        rcases hat with h | h
        · left; rw [h]; rfl
        · right; intro k hk; have : g' = k := by simpa [Value.ownBlock] using hk
          have := hG.out; omega
      replace own1 := hid own1
      clear hg1 hat
      go_wp2
      go_ret
      exact ⟨_, rfl, own1.out, hrw.out⟩
    · go_enter Try.func107, Try.ntmps107
      go_wp2_with (at_builtin; refine wpList_append_lies _ rfl _ _ 103 rfl 0 81 i0 _ 1 8 Try.underlying103 hi0 hz0 hz1 hz2 rfl (by decide) _ _ _ rfl hown.out ⟨va, 0, none⟩ 1 1 ns rfl hns.out hnews.out hon.out (by decide) (by unfold maxLen; omega) (by omega) (Nat.zero_le _) G hG.out ?_)
      intro g' cap w1 own1 hg1 hat _
      have hrw : Hid (Rw (.slice (some ad) n c) (.slice (some ⟨g', 0, none⟩) (n + 1) cap) w w1) := by
        refine ⟨hg1, ?_⟩
        rcases hat with h | h
        · left; rw [h]; rfl
        · right; intro k hk; have : g' = k := by simpa [Value.ownBlock] using hk
          have := hG.out; omega
      replace own1 := hid own1
      clear hg1 hat
      go_wp2
      go_ret
      exact ⟨_, rfl, own1.out, hrw.out⟩
theorem ins_K (n i : Nat) (v : Value) (xs ns : List Value) (va : Nat) (w : World) (hi : i ≤ n) (hn : n ≤ 1000000) (hown : w.ownsRow 0 81 1 v n xs) (h1 : ∀ u ∈ xs, u.oneCell' = true) (hv : w.heap[va]? = some (.cells ns.toArray 81 (0, 0))) (hns : ns.length = 1 * 1) (hon : ∀ v ∈ ns, v.oneCell' = true) (hne : v.ownBlock ≠ some va) :
    Calls Try.prog 107 #[v, .int .i64 i, .slice (some ⟨va, 0, none⟩) 1 1] w fun e w' => ∃ v', e = .returned v' ∧ w'.ownsRow 0 81 1 v' (n + 1) (xs.take (i * 1) ++ (ns ++ xs.drop (i * 1))) ∧ Rw v v' w w' := by
  have hxl : xs.length = n * 1 := hown.1
  by_cases hin : i = n
  · subst hin
    rw [List.take_of_length_le (by omega), List.drop_of_length_le (by omega), List.append_nil]
    exact insC_K i v xs ns va w hn hown hv hns hon
  · obtain ⟨g, c, cur, rfl, hg, hnc, hc, hl, ht⟩ := row_open hown (by omega)
    have hgv : g ≠ va := fun e => hne (by rw [e]; rfl)
    have e1 : cur.take (i * 1) = xs.take (i * 1) := by rw [← ht, List.take_take, Nat.min_eq_left (by omega)]
    have e2 : (cur.drop (i * 1)).take ((n - i) * 1) = xs.drop (i * 1) := by
      rw [← ht, List.drop_take]
      congr 1
      omega
    have hcl : ((cur.drop (i * 1)).take ((n - i) * 1)).length = (n - i) * 1 := by rw [e2, List.length_drop, hxl]; omega
    have hlen : (xs.take (i * 1) ++ (ns ++ xs.drop (i * 1))).length = (n + 1) * 1 := by
      rw [List.length_append, List.length_append, List.length_take, List.length_drop, hns, hxl]; omega
    by_cases hroom : n + 1 ≤ c
    · refine (insA_K g n c i (i + 1) (n + 1) cur ns va w rfl rfl (by omega) (by omega) (by omega) hroom hc hn hl hns hgv hg hv (by rw [ht]; exact h1) hon).mono ?_
      rintro e w' ⟨rfl, h2, h3⟩
      refine ⟨_, rfl, row_shut h2.out hroom hc (by rw [length_splice _ _ _ (by rw [length_splice _ _ _ (by rw [hcl, hl]; omega), hl, hns]; omega), length_splice _ _ _ (by rw [hcl, hl]; omega)]; exact hl) hlen ?_, h3.out, .inl rfl⟩
      have h := splice_in2 (cur := cur) (ns := ns) (cs := (cur.drop (i * 1)).take ((n - i) * 1)) (a := i * 1) (b := (i + 1) * 1) (by rw [hns]; omega) (by rw [hcl, hl]; omega)
      rw [hcl, show (i + 1) * 1 + (n - i) * 1 = (n + 1) * 1 by omega] at h
      rw [h, e1, e2]
    · obtain rfl : c = n := by omega
      refine (insB_K g c i (i + 1) (c + 1) cur ns va w rfl rfl (by omega) (by omega) (by omega) hn hl hns hgv hg hv (by rw [ht]; exact h1) hon).mono ?_
      rintro e w' ⟨c', r, rfl, h2, h3, h4, h5, h6, h7⟩
      refine ⟨_, rfl, row_shut h6 h2 h3 h4 hlen (by rw [h5, e1, e2]), Ext.grown h7 _, .inr (fun k hk => ?_)⟩
      have : w.heap.size = k := by simpa [Value.ownBlock] using hk
      omega
end Go.Proofs.Ytpijfiaecicpfaa
