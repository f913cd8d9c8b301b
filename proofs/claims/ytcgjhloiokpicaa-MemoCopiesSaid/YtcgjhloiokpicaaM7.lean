/-
  slices.Replace of one entry (not the last) by two: there is room; there is none.
-/
import Derived.Test.YtcgjhloiokpicaaM6
import Derived.Laws.Externs
namespace Go.Proofs.Ytcgjhloiokpicaa
open Go.RowKit
set_option linter.unusedVariables false
set_option linter.unusedSimpArgs false
theorem shape_row {w : World} {g : Nat} {cur : List Value} {t : TypeId} (hg : w.heap[g]? = some (.cells cur.toArray t (0, 0))) : w.shape? g = some (t, cur.length) := by
  simp [World.shape?, hg]
theorem frozen_row {w : World} {g : Nat} {cur : List Value} {t : TypeId} (hg : w.heap[g]? = some (.cells cur.toArray t (0, 0))) (k : Nat) : w.frozen? ⟨g, k, none⟩ = false := by
  simp [World.frozen?, hg]
theorem ov_row (w : World) (g va k n c m d : Nat) (cur news : List Value) (hne : g ≠ va) (hg : Hid (w.heap[g]? = some (.cells cur.toArray 78 (0, 0)))) (hv : Hid (w.heap[va]? = some (.cells news.toArray 78 (0, 0)))) (hn : Hid (news.length ≠ 0)) :
    (callFunc 82 #[.slice (some ⟨g, k, none⟩) n c, .slice (some ⟨va, 0, none⟩) m d]).run Try.prog w = .ok (.value (.bool false)) w := by
  rw [run_callFunc_extern Try.func82 (by kernel_rfl) (by kernel_rfl) (by kernel_rfl) (e := Extern.SlicesOverlaps.overlaps #[74, 74] #[4]) (by kernel_rfl),
    Lib.run_overlaps_apart w 74 4 78 Try.underlying74 4 Try.sizeOf78 ⟨g, k, none⟩ ⟨va, 0, none⟩ n c m d hne _ _ _ _ (shape_row hg.out) (shape_row hv.out) hn.out (frozen_row hg.out _) (frozen_row hg.out _)]
  rfl
theorem seg_src {w : World} {g : Nat} {cur : List Value} {t : TypeId} (hg : w.heap[g]? = some (.cells cur.toArray t (0, 0))) (o m : Nat) : ∀ k v, ((cur.drop o).take m)[k]? = some v → w.cell? ((⟨g, o, none⟩ : Addr).add k) = some v := fun k v h => by
  refine row_cell hg _ _ ?_
  rw [List.getElem?_take] at h
  split at h
  · rw [List.getElem?_drop] at h; exact h
  · cases h
theorem one_seg {cur : List Value} {N : Nat} (h : ∀ v ∈ cur.take N, v.oneCell' = true) (o m : Nat) (hN : o + m ≤ N) : ∀ v ∈ (cur.drop o).take m, v.oneCell' = true := fun v hv => h v (mem_seg hN hv)
theorem splice_two {α : Type} {cur r ns cs : List α} {i jj t m : Nat} (h : r.take (i * 4) = cur.take (i * 4)) (hn : ns.length = 2 * 4) (hm : cs.length = m * 4) (hr : jj * 4 + m * 4 ≤ r.length) (hij : jj = i + 2) (ht : t = jj + m) (hc : i * 4 ≤ cur.length) :
    (splice (splice r (i * 4) ns) (jj * 4) cs).take (t * 4) = cur.take (i * 4) ++ (ns ++ cs) := by
  subst hij ht
  have hl : (cur.take (i * 4)).length = i * 4 := by rw [List.length_take]; omega
  have e1 : (splice r (i * 4) ns).take ((i + 2) * 4) = cur.take (i * 4) ++ ns := by
    unfold splice
    rw [h, ← List.append_assoc]
    exact List.take_left' (by rw [List.length_append, hl, hn]; omega)
  have e2 : (splice (splice r (i * 4) ns) ((i + 2) * 4) cs) = (cur.take (i * 4) ++ (ns ++ cs)) ++ (splice r (i * 4) ns).drop ((i + 2) * 4 + cs.length) := by
    rw [show splice (splice r (i * 4) ns) ((i + 2) * 4) cs = (splice r (i * 4) ns).take ((i + 2) * 4) ++ (cs ++ (splice r (i * 4) ns).drop ((i + 2) * 4 + cs.length)) from rfl, e1]
    simp [List.append_assoc]
  rw [e2]
  exact List.take_left' (by rw [List.length_append, List.length_append, hl, hn, hm]; omega)
theorem of_take {l m : List Value} {n k : Nat} {v : Value} (h : l.take n = m) (hk : m[k]? = some v) : l[k]? = some v := by
  rw [← h, List.getElem?_take] at hk
  split at hk
  · exact hk
  · cases hk
theorem infoEn : (Try.prog.info? 78).map (fun i => (i.zero, i.size, i.bytes)) = some (some (.agg #[.int .i64 0, .int .i64 0, .int .i64 0, .string ⟨#[]⟩]), 4, 40) := by kernel_rfl
theorem app_zero (w : World) (g n i k : Nat) (cur : List Value) (hg : Hid (w.heap[g]? = some (.cells cur.toArray 78 (0, 0)))) (hcur : cur.length = n * 4) (hi : i ≤ n) (hgt : n < i + k) (h0 : 0 < k) (hb : i + k ≤ 2000000) :
    ∃ (c' : Nat) (r : List Value), (Builtin.append_ #[74, 3] 74 #[.slice (some ⟨g, 0, none⟩) i n, .int .i64 k]).run Try.prog w = .ok (.slice (some ⟨w.heap.size, 0, none⟩) (i + k) c') (w.drew.alloc (.cells r.toArray 78)) ∧ i + k ≤ c' ∧ c' ≤ maxLen ∧ r.length = c' * 4 ∧ r.take (i * 4) = cur.take (i * 4) := by
  obtain ⟨i0, hi0, hz0, hz1, hz2⟩ := info_parts infoEn
  have hl : (cur.take (i * 4)).length = i * 4 := by rw [List.length_take]; omega
  have hold := run_firstCells_some (P := Try.prog) w.drew i0.size i ⟨g, 0, none⟩ i n (cur.take (i * 4)) (by rw [hz1]; exact hl) (fun j v h => by
    have := seg_src (w := w.drew) hg.out 0 (i * 4) j v (by rw [List.drop_zero]; exact h)
    exact this)
  have hr := Lib.run_append_grow_zeros (P := Try.prog) w 74 3 74 78 i0 _ .i64 .i64 Try.underlying74 Try.underlying3 hi0 hz0 (some ⟨g, 0, none⟩) i n _ hold k h0 (by rw [hz1]; decide) hgt (by omega) (by rw [hz2]; omega) (growslice_fits hgt (by rw [hz2]; omega))
  have hge := grownCap_ge w (i + k) n 78
  have hle := grownCap_le_maxLen w (i + k) n 78 (by unfold maxLen; omega)
  generalize grownCap w (i + k) n 78 = c' at *
  refine ⟨c', ((cur.take (i * 4)).toArray ++ Builtin.zeroCells (Value.agg #[.int .i64 0, .int .i64 0, .int .i64 0, .string ⟨#[]⟩]).cells k ++ Builtin.zeroCells (Value.agg #[.int .i64 0, .int .i64 0, .int .i64 0, .string ⟨#[]⟩]).cells (c' - (i + k))).toList, ?_, hge, hle, ?_, ?_⟩
  · rw [Array.toArray_toList]; exact hr
  · simp only [Array.toList_append, List.length_append, Array.length_toList, size_zeroCells, List.size_toArray, hl, Value.cells]
    simp only [List.size_toArray, List.length_cons, List.length_nil]
    omega
  · rw [Array.toList_append, Array.toList_append, List.append_assoc, List.take_left' (by simpa using hl)]
set_option maxRecDepth 100000 in
set_option maxHeartbeats 4000000 in
theorem replB_any (g : Nat) (n c i j jj t : Nat) (cur : List Value) (x y : En) (va cv : Nat) (curv : List Value) (hcv : 2 ≤ cv) (hlv : curv.length = cv * 4) (htv : Hid (curv.take (2 * 4) = x.cells ++ y.cells)) (w : World) (hij : Hid (j = i + 1)) (hijj : Hid (jj = i + 2)) (ht : Hid (t = n + 1)) (hjn : i < j) (hjj : j < jj) (hj : j < n) (hjt : jj < t) (hnt : n < t) (htc : t ≤ c) (hc : c ≤ 9223372036854775807) (hn2 : n ≤ 1000000) (hcur : cur.length = c * 4) (hne : g ≠ va)
    (hg : Hid (w.heap[g]? = some (.cells cur.toArray 78 (0, 0)))) (hv : Hid (w.heap[va]? = some (.cells curv.toArray 78 (0, 0)))) (ho : Hid (∀ v ∈ cur.take (n * 4), v.oneCell' = true)) :
    Calls Try.prog 67 #[.slice (some ⟨g, 0, none⟩) n c, .int .i64 i, .int .i64 j, .slice (some ⟨va, 0, none⟩) 2 cv] w fun e w' => e = .returned (.slice (some ⟨g, 0, none⟩) t c) ∧ Hid (w'.heap[g]? = some (.cells (splice (splice cur (jj * 4) ((cur.drop (j * 4)).take ((n - j) * 4))) (i * 4) (x.cells ++ y.cells)).toArray 78 (0, 0))) ∧ Hid (w.grownBy w' (some g)) := by
  have q1 : ((i : Int) == (j : Int)) = false := by rw [beq_eq_false_iff_ne]; omega
  have q2 : ((j : Int) == (n : Int)) = false := by rw [beq_eq_false_iff_ne]; omega
  have q3 : IntKind.i64.wrap ((i : Int) + 2) = jj := by rw [IntWalk.i64_in _ (by omega), hijj.out]; omega
  have q4 : IntKind.i64.wrap ((jj : Int) + ((n - j : Nat) : Int)) = t := by have := hij.out; have := hijj.out; have := ht.out; rw [IntWalk.i64_in _ (by omega)]; omega
  have hmn : Hid (Nat.min 2 (t - i) = 2) := Nat.min_eq_left (by omega)
  have hmn2 : Hid (Nat.min (n - j) (t - jj) = n - j) := Nat.min_eq_left (by have := hij.out; have := hijj.out; have := ht.out; omega)
  go_enter Try.func67, Try.ntmps67
  go_upto_region 9 with fail
  go_quiet (fail)
  have hg1 : Hid ((w.drewN nq).heap[g]? = some (.cells cur.toArray 78 (0, 0))) := hg.out
  have hv1 : Hid ((w.drewN nq).heap[va]? = some (.cells curv.toArray 78 (0, 0))) := hv.out
  have hr1 : Hid (w.grownBy (w.drewN nq) (some g)) := ⟨rfl, rfl, rfl, Nat.le_refl _, fun _ _ _ => rfl⟩
  clear hg hv
  generalize w.drewN nq = w1 at *
  have hcn : ¬ c = j := by omega
  have hcn2 : ¬ c = jj := by omega
  have hjt2 : jj ≤ t := by omega
  have hjn2 : j ≤ n := by omega
  have hjj2 : ¬ jj ≤ j := by omega
  have hov := fun m d => ov_row w1 g va (jj * 4) m d 2 cv cur _ hne hg1 hv1 (show curv.length ≠ 0 by omega)
  go_upto_region 22 with (simp only [hov])
  have hg1d : Hid (w1.drew.heap[g]? = some (.cells cur.toArray 78 (0, 0))) := hg1.out
  have hr1d : Hid (w1.grownBy w1.drew (some g)) := ⟨rfl, rfl, rfl, Nat.le_refl _, fun _ _ _ => rfl⟩
  have hsrc := hid (seg_src hg1d.out (j * 4) ((n - j) * 4))
  have hone := hid (one_seg ho.out (j * 4) ((n - j) * 4) (by omega))
  have hcl : Hid (((cur.drop (j * 4)).take ((n - j) * 4)).length = (n - j) * 4) := by unfold Hid; rw [List.length_take, List.length_drop, hcur]; apply Nat.min_eq_left; omega
  generalize hq1 : (cur.drop (j * 4)).take ((n - j) * 4) = cs at *
  replace hq1 := hid hq1
  have hfit : jj * 4 + cs.length ≤ cur.length := by rw [hcl.out, hcur]; have := hij.out; have := hijj.out; have := ht.out; omega
  obtain ⟨w2, hcp, hg2, hr2⟩ := ex_copy_k (P := Try.prog) w1.drew 74 74 3 78 4 g (jj * 4) (t - jj) (c - jj) ⟨g, j * 4, none⟩ (n - j) (c - j) cur _ cs Try.underlying74 (by kernel_rfl) hg1d (n - j) hmn2 hcl hsrc.out hfit hone.out
  have hl2 : Hid ((splice cur (jj * 4) cs).length = c * 4) := by unfold Hid; rw [length_splice _ _ _ hfit]; exact hcur
  replace hr1 : Hid (w.grownBy w1 (some g)) := hr1.out
  have hr : Hid (w.grownBy w2 (some g)) := hr1.out.trans (hr1d.out.trans hr2.out)
  have hv2 : Hid (w2.heap[va]? = some (.cells curv.toArray 78 (0, 0))) := (hr2.out.block va (Array.getElem?_eq_some_iff.1 hv1.out).1 (fun e => hne (Option.some.inj e).symm)).trans hv1.out
  clear hr1 hr2 hr1d hg1d hsrc hone hg1 hv1 hov ho hfit hcl
  go_region
  clear hcp
  have hsrc : ∀ k v, (x.cells ++ y.cells)[k]? = some v → w2.cell? ((⟨va, 0, none⟩ : Addr).add k) = some v := fun k v h => row_cell hv2.out 0 k (by rw [Nat.zero_add]; exact of_take htv.out h)
  have hone : ∀ v ∈ x.cells ++ y.cells, v.oneCell' = true := by simp [En.cells, Value.oneCell']
  have hfit : i * 4 + (x.cells ++ y.cells).length ≤ (splice cur (jj * 4) cs).length := by rw [hl2.out]; simp [En.cells]; have := hij.out; have := hijj.out; have := ht.out; omega
  have hlen : Hid ((x.cells ++ y.cells).length = 2 * 4) := by simp [En.cells, Hid]
  generalize hqn : x.cells ++ y.cells = ns at *
  replace hqn := hid hqn
  generalize hq2 : splice cur (jj * 4) cs = cur2 at *
  replace hq2 := hid hq2
  obtain ⟨w3, hcp, hg3, hr3⟩ := ex_copy_k (P := Try.prog) w2 74 74 3 78 4 g (i * 4) (t - i) (c - i) ⟨va, 0, none⟩ 2 cv cur2 _ ns Try.underlying74 (by kernel_rfl) hg2 2 hmn hlen hsrc hfit hone
  replace hr : Hid (w.grownBy w3 (some g)) := hr.out.trans hr3.out
  clear hsrc hone hfit hr3 hg2
  have hci : ¬ c = i := by omega
  have hit : i ≤ t := by omega
  go_wp2_with fail
  go_ret
  exact ⟨rfl, by rw [hq1.out, hq2.out, hqn.out]; exact hg3, hr⟩
set_option maxRecDepth 100000 in
set_option maxHeartbeats 4000000 in
theorem replC_any (g : Nat) (n i j jj t : Nat) (cur : List Value) (x y : En) (va cv : Nat) (curv : List Value) (hcv : 2 ≤ cv) (hlv : curv.length = cv * 4) (htv : Hid (curv.take (2 * 4) = x.cells ++ y.cells)) (w : World) (hij : Hid (j = i + 1)) (hijj : Hid (jj = i + 2)) (ht : Hid (t = n + 1)) (hjn : i < j) (hjj : j < jj) (hj : j < n) (hjt : jj < t) (hnt : n < t) (hc : n ≤ 1000000) (hcur : cur.length = n * 4)
    (hg : Hid (w.heap[g]? = some (.cells cur.toArray 78 (0, 0)))) (hv : Hid (w.heap[va]? = some (.cells curv.toArray 78 (0, 0)))) (ho : Hid (∀ v ∈ cur.take (n * 4), v.oneCell' = true)) :
    Calls Try.prog 67 #[.slice (some ⟨g, 0, none⟩) n n, .int .i64 i, .int .i64 j, .slice (some ⟨va, 0, none⟩) 2 cv] w fun e w' => ∃ (c' : Nat) (r : List Value), e = .returned (.slice (some ⟨w.heap.size, 0, none⟩) t c') ∧ t ≤ c' ∧ c' ≤ maxLen ∧ r.length = c' * 4 ∧ r.take (t * 4) = cur.take (i * 4) ++ ((x.cells ++ y.cells) ++ (cur.drop (j * 4)).take ((n - j) * 4)) ∧ w'.heap[w.heap.size]? = some (.cells r.toArray 78 (0, 0)) ∧ Ext w w' := by
  have q1 : ((i : Int) == (j : Int)) = false := by rw [beq_eq_false_iff_ne]; omega
  have q2 : ((j : Int) == (n : Int)) = false := by rw [beq_eq_false_iff_ne]; omega
  have q3 : IntKind.i64.wrap ((i : Int) + 2) = jj := by rw [IntWalk.i64_in _ (by omega), hijj.out]; omega
  have q4 : IntKind.i64.wrap ((jj : Int) + ((n - j : Nat) : Int)) = t := by have := hij.out; have := hijj.out; have := ht.out; rw [IntWalk.i64_in _ (by omega)]; omega
  have q5 : IntKind.i64.wrap ((t : Int) - (i : Int)) = ((t - i : Nat) : Int) := by have := ht.out; rw [IntWalk.i64_in _ (by omega)]; omega
  go_enter Try.func67, Try.ntmps67
  go_upto_region 9 with fail
  go_quiet (fail)
  have hg1 : Hid ((w.drewN nq).heap[g]? = some (.cells cur.toArray 78 (0, 0))) := hg.out
  have hv1 : Hid ((w.drewN nq).heap[va]? = some (.cells curv.toArray 78 (0, 0))) := hv.out
  have hx1 : Hid (Ext w (w.drewN nq)) := (Ext.refl w).drewN_right nq
  have hs1 : Hid ((w.drewN nq).heap.size = w.heap.size) := rfl
  clear hg hv
  generalize w.drewN nq = w1 at *
  have hin : i ≤ n := by omega
  obtain ⟨c', r, hap, hc1, hc2, hr1, hr2⟩ := app_zero w1 g n i (t - i) cur hg1 hcur hin (by omega) (by omega) (by have := ht.out; omega)
  rw [show i + (t - i) = t by omega] at hap hc1
  have hxa : Hid (Ext w (w1.drew.alloc (.cells r.toArray 78))) := (hx1.out.drew_right).alloc_right _
  have hga : Hid ((w1.drew.alloc (.cells r.toArray 78)).heap[w1.heap.size]? = some (.cells r.toArray 78 (0, 0))) := heap_alloc_new w1.drew _
  have hgb : Hid ((w1.drew.alloc (.cells r.toArray 78)).heap[g]? = some (.cells cur.toArray 78 (0, 0))) := (((Ext.refl w1).drew_right.alloc_right _).block (Array.getElem?_eq_some_iff.1 hg1.out).1).trans hg1.out
  have hva : Hid ((w1.drew.alloc (.cells r.toArray 78)).heap[va]? = some (.cells curv.toArray 78 (0, 0))) := (((Ext.refl w1).drew_right.alloc_right _).block (Array.getElem?_eq_some_iff.1 hv1.out).1).trans hv1.out
  have hgl : Hid (g < w1.heap.size ∧ va < w1.heap.size) := ⟨(Array.getElem?_eq_some_iff.1 hg1.out).1, (Array.getElem?_eq_some_iff.1 hv1.out).1⟩
  have hcb : c' ≤ 9223372036854775807 := hc2
  have hq1 : ¬ c' = i := by omega
  have hit : i ≤ t := by omega
  go_wp2_with (at_builtin; refine Lib.wpList_append_run _ rfl _ _ _ _ rfl _ _ rfl rfl _ _ hap ?_; clear hap; generalize w1.drew.alloc (.cells r.toArray 78) = w2 at *)
  have hgl2 := hgl.out
  rw [hs1.out] at hgl2
  have hG : Hid (w1.heap.size = w.heap.size) := hs1.out
  rw [hs1.out] at hga ⊢
  generalize hGe : w.heap.size = G at *
  replace hGe := hid hGe
  clear hs1 hx1 hgl hg1 hv1 hG
  have hone : ∀ v ∈ x.cells ++ y.cells, v.oneCell' = true := by simp [En.cells, Value.oneCell']
  have hlen : Hid ((x.cells ++ y.cells).length = 2 * 4) := by simp [En.cells, Hid]
  generalize hqn : x.cells ++ y.cells = ns at *
  replace hqn := hid hqn
  have hsrc : ∀ k v, ns[k]? = some v → w2.cell? ((⟨va, 0, none⟩ : Addr).add k) = some v := fun k v h => row_cell hva.out 0 k (by rw [Nat.zero_add]; exact of_take htv.out h)
  have hfit : i * 4 + ns.length ≤ r.length := by rw [hr1, hlen.out]; have := hij.out; have := hijj.out; have := ht.out; omega
  have hmn : Hid (Nat.min 2 (t - i) = 2) := Nat.min_eq_left (by omega)
  have hmn2 : Hid (Nat.min (n - j) (t - jj) = n - j) := Nat.min_eq_left (by have := hij.out; have := hijj.out; have := ht.out; omega)
  obtain ⟨w3, hcp, hg3, hr3⟩ := ex_copy_k (P := Try.prog) w2 74 74 3 78 4 G (i * 4) (t - i) (c' - i) ⟨va, 0, none⟩ 2 cv r _ ns Try.underlying74 (by kernel_rfl) hga 2 hmn hlen hsrc hfit hone
  have hl3 : Hid ((splice r (i * 4) ns).length = c' * 4) := by unfold Hid; rw [length_splice _ _ _ hfit]; exact hr1
  have hgb3 : Hid (w3.drew.heap[g]? = some (.cells cur.toArray 78 (0, 0))) := (hr3.out.block g (Array.getElem?_eq_some_iff.1 hgb.out).1 (fun e => by have := Option.some.inj e; omega)).trans hgb.out
  have hg3d : Hid (w3.drew.heap[G]? = some (.cells (splice r (i * 4) ns).toArray 78 (0, 0))) := hg3.out
  have hx3 : Hid (Ext w w3.drew) := ⟨hr3.out.os.trans hxa.out.os, hr3.out.tape.trans hxa.out.tape, hr3.out.output.trans hxa.out.output, Nat.le_trans hxa.out.size hr3.out.size, fun k hk => (hr3.out.block k (Nat.lt_of_lt_of_le hk hxa.out.size) (fun e => by have := Option.some.inj e; rw [hGe.out] at hk; omega)).trans (hxa.out.block hk)⟩
  clear hsrc hone hfit hr3 hg3 hga hgb hva hxa
  have hsrc := hid (seg_src hgb3.out (j * 4) ((n - j) * 4))
  have hone := hid (one_seg ho.out (j * 4) ((n - j) * 4) (by omega))
  have hcl : Hid (((cur.drop (j * 4)).take ((n - j) * 4)).length = (n - j) * 4) := by unfold Hid; rw [List.length_take, List.length_drop, hcur]; apply Nat.min_eq_left; omega
  generalize hq1 : (cur.drop (j * 4)).take ((n - j) * 4) = cs at *
  replace hq1 := hid hq1
  have hfit : jj * 4 + cs.length ≤ (splice r (i * 4) ns).length := by rw [hl3.out, hcl.out]; have := hij.out; have := hijj.out; have := ht.out; omega
  obtain ⟨w4, hcp2, hg4, hr4⟩ := ex_copy_k (P := Try.prog) w3.drew 74 74 3 78 4 G (jj * 4) (t - jj) (c' - jj) ⟨g, j * 4, none⟩ (n - j) (n - j) (splice r (i * 4) ns) _ cs Try.underlying74 (by kernel_rfl) hg3d (n - j) hmn2 hcl hsrc.out hfit hone.out
  have hl4 : Hid ((splice (splice r (i * 4) ns) (jj * 4) cs).length = c' * 4) := by unfold Hid; rw [length_splice _ _ _ hfit]; exact hl3.out
  have hx4 : Hid (Ext w w4) := ⟨hr4.out.os.trans hx3.out.os, hr4.out.tape.trans hx3.out.tape, hr4.out.output.trans hx3.out.output, Nat.le_trans hx3.out.size hr4.out.size, fun k hk => (hr4.out.block k (Nat.lt_of_lt_of_le hk hx3.out.size) (fun e => by have := Option.some.inj e; rw [hGe.out] at hk; omega)).trans (hx3.out.block hk)⟩
  have hfin : Hid ((splice (splice r (i * 4) ns) (jj * 4) cs).take (t * 4) = cur.take (i * 4) ++ (ns ++ cs)) := splice_two hr2 hlen.out hcl.out (by rw [hr1]; have := hij.out; have := hijj.out; have := ht.out; omega) (by have := hij.out; have := hijj.out; have := ht.out; omega) (by have := hij.out; have := hijj.out; have := ht.out; omega) (by rw [hcur]; omega)
  generalize splice (splice r (i * 4) ns) (jj * 4) cs = r4 at *
  clear hsrc hone hfit hr4 hg3d hgb3 hx3
  have hq2 : ¬ c' = jj := by omega
  have hq3 : ¬ n = j := by omega
  have hq4 : j ≤ n := by omega
  have hq5 : jj ≤ t := by omega
  rw [hcp]
  clear hcp
  go_upto_region 13 with fail
  go_region
  go_wp2_with fail
  go_ret
  rw [hGe.out]
  exact ⟨c', r4, rfl, hc1, hc2, hl4.out, by rw [hq1.out, hqn.out]; exact hfin.out, hg4.out, hx4.out⟩
end Go.Proofs.Ytcgjhloiokpicaa
