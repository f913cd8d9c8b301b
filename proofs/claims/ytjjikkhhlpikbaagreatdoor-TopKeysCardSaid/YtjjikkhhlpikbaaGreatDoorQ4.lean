/-
  Three nodes in memory: what is turned one after the other; slices.Clone; slices.Delete of one entry, of one kid; slices.Delete over a row that is one's own; slices.Insert of one element; slices.Insert of one element: where there is no room, at the end, and all together.
-/
import Derived.Test.YtjjikkhhlpikbaaGreatDoorQ3
import Derived.Deep.RegionLaw
import Derived.Deep.Cut
import Derived.BigQuiet
import Derived.Test.YtjjikkhhlpikbaaGreatDoorQ2
set_option maxRecDepth 100000
set_option maxHeartbeats 40000000
set_option linter.unusedVariables false
set_option linter.unusedSimpArgs false
namespace Go.Proofs.YtjjikkhhlpikbaaGreatDoor
open Go.RowKit Go.Shelf
theorem mem_seg {α : Type} {L : List α} {o m N : Nat} (h : o + m ≤ N) {v : α} (hv : v ∈ (L.drop o).take m) : v ∈ L.take N := by
  have e : (L.drop o).take m = (L.take (o + m)).drop o := by rw [List.drop_take]; congr 1; omega
  rw [e] at hv
  have h2 := List.mem_of_mem_drop hv
  have e2 : L.take (o + m) = (L.take N).take (o + m) := by rw [List.take_take, Nat.min_eq_left h]
  rw [e2] at h2
  exact List.mem_of_mem_take h2
theorem shape_row {w : World} {g : Nat} {cur : List Value} {t : TypeId} (hg : w.heap[g]? = some (.cells cur.toArray t (0, 0))) : w.shape? g = some (t, cur.length) := by
  simp [World.shape?, hg]
theorem frozen_row {w : World} {g : Nat} {cur : List Value} {t : TypeId} (hg : w.heap[g]? = some (.cells cur.toArray t (0, 0))) (k : Nat) : w.frozen? ⟨g, k, none⟩ = false := by
  simp [World.frozen?, hg]
theorem seg_src {w : World} {g : Nat} {cur : List Value} {t : TypeId} (hg : w.heap[g]? = some (.cells cur.toArray t (0, 0))) (o m : Nat) : ∀ k v, ((cur.drop o).take m)[k]? = some v → w.cell? ((⟨g, o, none⟩ : Addr).add k) = some v := fun k v h => by
  refine row_cell hg _ _ ?_
  rw [List.getElem?_take] at h
  split at h
  · rw [List.getElem?_drop] at h; exact h
  · cases h
theorem one_seg {cur : List Value} {N : Nat} (h : ∀ v ∈ cur.take N, v.oneCell' = true) (o m : Nat) (hN : o + m ≤ N) : ∀ v ∈ (cur.drop o).take m, v.oneCell' = true := fun v hv => h v (mem_seg hN hv)
theorem splice_in2 {α : Type} {cur ns cs : List α} {a b : Nat} (hb : a + ns.length = b) (hl : b + cs.length ≤ cur.length) : (splice (splice cur b cs) a ns).take (b + cs.length) = cur.take a ++ (ns ++ cs) := by
  subst hb
  have h1 : (cur.take (a + ns.length)).length = a + ns.length := by rw [List.length_take]; omega
  have h2 : (cur.take a).length = a := by rw [List.length_take]; omega
  have e : splice (splice cur (a + ns.length) cs) a ns = cur.take a ++ (ns ++ (cs ++ cur.drop (a + ns.length + cs.length))) := by
    unfold splice
    rw [List.take_append_of_le_length (by omega), List.take_take, Nat.min_eq_left (by omega), List.drop_left' (by omega)]
  rw [e, ← List.append_assoc, ← List.append_assoc, ← List.append_assoc]
  rw [List.take_left' (by simp only [List.length_append, h2])]
theorem splice_out2 {α : Type} {r ns cs : List α} {a b : Nat} (hb : a + ns.length = b) (hl : b + cs.length ≤ r.length) : (splice (splice r a ns) b cs).take (b + cs.length) = r.take a ++ (ns ++ cs) := by
  subst hb
  have h2 : (r.take a).length = a := by rw [List.length_take]; omega
  have e1 : (splice r a ns).take (a + ns.length) = r.take a ++ ns := by
    unfold splice
    rw [← List.append_assoc, List.take_left' (by rw [List.length_append, h2])]
  have e : splice (splice r a ns) (a + ns.length) cs = (r.take a ++ ns) ++ (cs ++ (splice r a ns).drop (a + ns.length + cs.length)) := by
    rw [← e1]
    rfl
  rw [e, ← List.append_assoc, List.take_left' (by simp only [List.length_append, h2]), List.append_assoc]
theorem row_open {w : World} {v : Value} {E : TypeId} {k n : Nat} {xs : List Value} (h : w.ownsRow 0 E k v n xs) (hn : 0 < n) :
    ∃ (g c : Nat) (cur : List Value), v = .slice (some ⟨g, 0, none⟩) n c ∧ w.heap[g]? = some (.cells cur.toArray E (0, 0)) ∧ n ≤ c ∧ c ≤ 9223372036854775807 ∧ cur.length = c * k ∧ cur.take (n * k) = xs := by
  rcases h.2 with ⟨_, h0⟩ | ⟨g, c, cur, rfl, _, hg, hn, hc, hs, ht⟩
  · omega
  · exact ⟨g, c, cur.toList, rfl, by simpa using hg, hn, hc, by simpa using hs, ht⟩
theorem row_shut {w : World} {E : TypeId} {k g n c : Nat} {cur xs : List Value} (hg : w.heap[g]? = some (.cells cur.toArray E (0, 0))) (hn : n ≤ c) (hc : c ≤ 9223372036854775807) (hl : cur.length = c * k) (hx : xs.length = n * k) (ht : cur.take (n * k) = xs) :
    w.ownsRow 0 E k (.slice (some ⟨g, 0, none⟩) n c) n xs :=
  ⟨hx, .inr ⟨g, c, cur.toArray, rfl, Nat.zero_le _, hg, hn, hc, by simpa using hl, by simpa using ht⟩⟩
def Rw (v v' : Value) (w w' : World) : Prop := w.grownBy w' v.ownBlock ∧ (v'.ownBlock = v.ownBlock ∨ ∀ k, v'.ownBlock = some k → w.heap.size ≤ k)
theorem Ext.grown {w w' : World} (h : Ext w w') (row : Option Nat) : w.grownBy w' row := ⟨h.os, h.tape, h.output, h.size, fun k hk _ => h.block hk⟩
theorem grown_draw (w : World) (row : Option Nat) : w.grownBy w.drew row := ⟨rfl, rfl, rfl, Nat.le_refl _, fun _ _ _ => rfl⟩
theorem infoN : (Tryz.prog.info? 65).map (fun i => (i.zero, i.size, i.bytes)) = some (some (.agg #[.string ⟨#[]⟩, .int .i64 0]), 2, 24) := by kernel_rfl
theorem ov_N (w : World) (g va k n c m d : Nat) (cur news : List Value) (hne : g ≠ va) (hg : Hid (w.heap[g]? = some (.cells cur.toArray 65 (0, 0)))) (hv : Hid (w.heap[va]? = some (.cells news.toArray 65 (0, 0)))) (hn : Hid (cur.length ≠ 0)) :
    (callFunc 117 #[.slice (some ⟨va, 0, none⟩) m d, .slice (some ⟨g, k, none⟩) n c]).run Tryz.prog w = .ok (.value (.bool false)) w := by
  rw [run_callFunc_extern Tryz.func117 (by kernel_rfl) (by kernel_rfl) (by kernel_rfl) (e := Extern.SlicesOverlaps.overlaps #[45, 45] #[4]) (by kernel_rfl),
    Lib.run_overlaps_apart w 45 4 65 Tryz.underlying45 2 Tryz.sizeOf65 ⟨va, 0, none⟩ ⟨g, k, none⟩ m d n c (fun e => hne e.symm) _ _ _ _ (shape_row hv.out) (shape_row hg.out) hn.out (frozen_row hv.out _) (frozen_row hv.out _)]
  rfl
theorem azero_N (w : World) (g n i k : Nat) (cur : List Value) (hg : Hid (w.heap[g]? = some (.cells cur.toArray 65 (0, 0)))) (hcur : cur.length = n * 2) (hi : i ≤ n) (hgt : n < i + k) (h0 : 0 < k) (hb : i + k ≤ 2000000) :
    ∃ (c' : Nat) (r : List Value), (Builtin.append_ #[45, 3] 45 #[.slice (some ⟨g, 0, none⟩) i n, .int .i64 k]).run Tryz.prog w = .ok (.slice (some ⟨w.heap.size, 0, none⟩) (i + k) c') (w.drew.alloc (.cells r.toArray 65)) ∧ i + k ≤ c' ∧ c' ≤ maxLen ∧ r.length = c' * 2 ∧ r.take (i * 2) = cur.take (i * 2) := by
  obtain ⟨i0, hi0, hz0, hz1, hz2⟩ := info_parts infoN
  have hl : (cur.take (i * 2)).length = i * 2 := by rw [List.length_take]; omega
  have hold := run_firstCells_some (P := Tryz.prog) w.drew i0.size i ⟨g, 0, none⟩ i n (cur.take (i * 2)) (by rw [hz1]; exact hl) (fun j v h => by
    have := seg_src (w := w.drew) hg.out 0 (i * 2) j v (by rw [List.drop_zero]; exact h)
    exact this)
  have hr := Lib.run_append_grow_zeros (P := Tryz.prog) w 45 3 45 65 i0 _ .i64 .i64 Tryz.underlying45 Tryz.underlying3 hi0 hz0 (some ⟨g, 0, none⟩) i n _ hold k h0 (by rw [hz1]; decide) hgt (by omega) (by rw [hz2]; omega) (growslice_fits hgt (by rw [hz2]; omega))
  have hge := grownCap_ge w (i + k) n 65
  have hle := grownCap_le_maxLen w (i + k) n 65 (by unfold maxLen; omega)
  generalize grownCap w (i + k) n 65 = c' at *
  refine ⟨c', ((cur.take (i * 2)).toArray ++ Builtin.zeroCells (Value.cells (.agg #[.string ⟨#[]⟩, .int .i64 0])) k ++ Builtin.zeroCells (Value.cells (.agg #[.string ⟨#[]⟩, .int .i64 0])) (c' - (i + k))).toList, ?_, hge, hle, ?_, ?_⟩
  · rw [Array.toArray_toList]; exact hr
  · simp only [Array.toList_append, List.length_append, Array.length_toList, size_zeroCells, List.size_toArray, hl, Value.cells]
    simp only [List.size_toArray, List.length_cons, List.length_nil]
    omega
  · rw [Array.toList_append, Array.toList_append, List.append_assoc, List.take_left' (by simpa using hl)]
theorem insA_N (g n c i j t : Nat) (cur ns : List Value) (va : Nat) (w : World) (hj : Hid (j = i + 1)) (ht : Hid (t = n + 1)) (hin : i < n) (hjt : j < t) (hnt : n < t) (htc : t ≤ c) (hc : c ≤ 9223372036854775807) (hn2 : n ≤ 1000000) (hcur : cur.length = c * 2) (hns : Hid (ns.length = 1 * 2)) (hne : g ≠ va)
    (hg : Hid (w.heap[g]? = some (.cells cur.toArray 65 (0, 0)))) (hv : Hid (w.heap[va]? = some (.cells ns.toArray 65 (0, 0)))) (ho : Hid (∀ v ∈ cur.take (n * 2), v.oneCell' = true)) (hon : Hid (∀ v ∈ ns, v.oneCell' = true)) :
    Calls Tryz.prog 81 #[.slice (some ⟨g, 0, none⟩) n c, .int .i64 i, .slice (some ⟨va, 0, none⟩) 1 1] w fun e w' => e = .returned (.slice (some ⟨g, 0, none⟩) t c) ∧ Hid (w'.heap[g]? = some (.cells (splice (splice cur (j * 2) ((cur.drop (i * 2)).take ((n - i) * 2))) (i * 2) ns).toArray 65 (0, 0))) ∧ Hid (w.grownBy w' (some g)) := by
  have q1 : ((i : Int) == (n : Int)) = false := by rw [beq_eq_false_iff_ne]; omega
  have q3 : IntKind.i64.wrap ((n : Int) + 1) = t := by rw [IntWalk.i64_in _ (by omega), ht.out]; omega
  have q4 : IntKind.i64.wrap ((i : Int) + 1) = j := by rw [IntWalk.i64_in _ (by omega), hj.out]; omega
  have q5 : ((n : Int) + 1) = t := by rw [ht.out]; omega
  have q6 : ((i : Int) + 1) = j := by rw [hj.out]; omega
  have hmn : Hid (Nat.min 1 (t - i) = 1) := Nat.min_eq_left (by omega)
  have hmn2 : Hid (Nat.min (t - i) (t - j) = n - i) := (Nat.min_eq_right (by omega)).trans (by have := hj.out; have := ht.out; omega)
  have hcj : ¬ c = j := by omega
  have hci : ¬ c = i := by omega
  have hit : i ≤ t := by omega
  have hjt2 : j ≤ t := by omega
  have hin2 : i ≤ n := by omega
  have hov := fun m d => ov_N w g va (j * 2) m d 1 1 cur ns hne hg hv (by have := ht.out; have := hj.out; unfold Hid; omega)
  try simp only [Nat.mul_one] at hov
  go_enter Tryz.func81, Tryz.ntmps81
  go_upto_region 15 with (simp only [hov])
  have hgd : Hid (w.drew.heap[g]? = some (.cells cur.toArray 65 (0, 0))) := hg.out
  have hsrc := hid (seg_src hgd.out (i * 2) ((n - i) * 2))
  have hone := hid (one_seg ho.out (i * 2) ((n - i) * 2) (by omega))
  have hcl : Hid (((cur.drop (i * 2)).take ((n - i) * 2)).length = (n - i) * 2) := by unfold Hid; rw [List.length_take, List.length_drop, hcur]; apply Nat.min_eq_left; omega
  generalize hq1 : (cur.drop (i * 2)).take ((n - i) * 2) = cs at *
  replace hq1 := hid hq1
  have hfit : j * 2 + cs.length ≤ cur.length := by rw [hcl.out, hcur]; have := hj.out; have := ht.out; omega
  obtain ⟨w2, hcp, hg2, hr2⟩ := ex_copy_k (P := Tryz.prog) w.drew 45 45 3 65 2 g (j * 2) (t - j) (c - j) ⟨g, i * 2, none⟩ (t - i) (c - i) cur _ cs Tryz.underlying45 (by kernel_rfl) hgd (n - i) hmn2 hcl hsrc.out hfit hone.out
  have hl2 : Hid ((splice cur (j * 2) cs).length = c * 2) := by unfold Hid; rw [length_splice _ _ _ hfit]; exact hcur
  have hr : Hid (w.grownBy w2 (some g)) := (grown_draw w (some g)).trans hr2.out
  have hv2 : Hid (w2.heap[va]? = some (.cells ns.toArray 65 (0, 0))) := (hr2.out.block va (Array.getElem?_eq_some_iff.1 hv.out).1 (fun e => hne (Option.some.inj e).symm)).trans hv.out
  clear hr2 hgd hsrc hone hg hv hov ho hfit hcl
  try simp only [Nat.mul_one] at hcp
  go_region
  clear hcp
  have hsrc : ∀ k v, ns[k]? = some v → w2.cell? ((⟨va, 0, none⟩ : Addr).add k) = some v := fun k v h => row_cell hv2.out 0 k (by rw [Nat.zero_add]; exact h)
  have hfit : i * 2 + ns.length ≤ (splice cur (j * 2) cs).length := by rw [hl2.out, hns.out]; have := hj.out; have := ht.out; omega
  generalize hq2 : splice cur (j * 2) cs = cur2 at *
  replace hq2 := hid hq2
  obtain ⟨w3, hcp, hg3, hr3⟩ := ex_copy_k (P := Tryz.prog) w2 45 45 3 65 2 g (i * 2) (t - i) (c - i) ⟨va, 0, none⟩ 1 1 cur2 _ ns Tryz.underlying45 (by kernel_rfl) hg2 1 hmn hns hsrc hfit hon.out
  replace hr : Hid (w.grownBy w3 (some g)) := hr.out.trans hr3.out
  clear hsrc hfit hr3 hg2
  try simp only [Nat.mul_one] at hcp
  go_wp2_with fail
  go_ret
  exact ⟨rfl, by rw [hq1.out, hq2.out]; exact hg3, hr⟩
theorem infoK : (Tryz.prog.info? 44).map (fun i => (i.zero, i.size, i.bytes)) = some (some (.pointer none), 1, 8) := by kernel_rfl
theorem ov_K (w : World) (g va k n c m d : Nat) (cur news : List Value) (hne : g ≠ va) (hg : Hid (w.heap[g]? = some (.cells cur.toArray 44 (0, 0)))) (hv : Hid (w.heap[va]? = some (.cells news.toArray 44 (0, 0)))) (hn : Hid (cur.length ≠ 0)) :
    (callFunc 119 #[.slice (some ⟨va, 0, none⟩) m d, .slice (some ⟨g, k, none⟩) n c]).run Tryz.prog w = .ok (.value (.bool false)) w := by
  rw [run_callFunc_extern Tryz.func119 (by kernel_rfl) (by kernel_rfl) (by kernel_rfl) (e := Extern.SlicesOverlaps.overlaps #[46, 46] #[4]) (by kernel_rfl),
    Lib.run_overlaps_apart w 46 4 44 Tryz.underlying46 1 Tryz.sizeOf44 ⟨va, 0, none⟩ ⟨g, k, none⟩ m d n c (fun e => hne e.symm) _ _ _ _ (shape_row hv.out) (shape_row hg.out) hn.out (frozen_row hv.out _) (frozen_row hv.out _)]
  rfl
theorem azero_K (w : World) (g n i k : Nat) (cur : List Value) (hg : Hid (w.heap[g]? = some (.cells cur.toArray 44 (0, 0)))) (hcur : cur.length = n * 1) (hi : i ≤ n) (hgt : n < i + k) (h0 : 0 < k) (hb : i + k ≤ 2000000) :
    ∃ (c' : Nat) (r : List Value), (Builtin.append_ #[46, 3] 46 #[.slice (some ⟨g, 0, none⟩) i n, .int .i64 k]).run Tryz.prog w = .ok (.slice (some ⟨w.heap.size, 0, none⟩) (i + k) c') (w.drew.alloc (.cells r.toArray 44)) ∧ i + k ≤ c' ∧ c' ≤ maxLen ∧ r.length = c' * 1 ∧ r.take (i * 1) = cur.take (i * 1) := by
  obtain ⟨i0, hi0, hz0, hz1, hz2⟩ := info_parts infoK
  have hl : (cur.take (i * 1)).length = i * 1 := by rw [List.length_take]; omega
  have hold := run_firstCells_some (P := Tryz.prog) w.drew i0.size i ⟨g, 0, none⟩ i n (cur.take (i * 1)) (by rw [hz1]; exact hl) (fun j v h => by
    have := seg_src (w := w.drew) hg.out 0 (i * 1) j v (by rw [List.drop_zero]; exact h)
    exact this)
  have hr := Lib.run_append_grow_zeros (P := Tryz.prog) w 46 3 46 44 i0 _ .i64 .i64 Tryz.underlying46 Tryz.underlying3 hi0 hz0 (some ⟨g, 0, none⟩) i n _ hold k h0 (by rw [hz1]; decide) hgt (by omega) (by rw [hz2]; omega) (growslice_fits hgt (by rw [hz2]; omega))
  have hge := grownCap_ge w (i + k) n 44
  have hle := grownCap_le_maxLen w (i + k) n 44 (by unfold maxLen; omega)
  generalize grownCap w (i + k) n 44 = c' at *
  refine ⟨c', ((cur.take (i * 1)).toArray ++ Builtin.zeroCells (Value.cells (.pointer none)) k ++ Builtin.zeroCells (Value.cells (.pointer none)) (c' - (i + k))).toList, ?_, hge, hle, ?_, ?_⟩
  · rw [Array.toArray_toList]; exact hr
  · simp only [Array.toList_append, List.length_append, Array.length_toList, size_zeroCells, List.size_toArray, hl, Value.cells]
    simp only [List.size_toArray, List.length_cons, List.length_nil]
    omega
  · rw [Array.toList_append, Array.toList_append, List.append_assoc, List.take_left' (by simpa using hl)]
theorem insA_K (g n c i j t : Nat) (cur ns : List Value) (va : Nat) (w : World) (hj : Hid (j = i + 1)) (ht : Hid (t = n + 1)) (hin : i < n) (hjt : j < t) (hnt : n < t) (htc : t ≤ c) (hc : c ≤ 9223372036854775807) (hn2 : n ≤ 1000000) (hcur : cur.length = c * 1) (hns : Hid (ns.length = 1 * 1)) (hne : g ≠ va)
    (hg : Hid (w.heap[g]? = some (.cells cur.toArray 44 (0, 0)))) (hv : Hid (w.heap[va]? = some (.cells ns.toArray 44 (0, 0)))) (ho : Hid (∀ v ∈ cur.take (n * 1), v.oneCell' = true)) (hon : Hid (∀ v ∈ ns, v.oneCell' = true)) :
    Calls Tryz.prog 84 #[.slice (some ⟨g, 0, none⟩) n c, .int .i64 i, .slice (some ⟨va, 0, none⟩) 1 1] w fun e w' => e = .returned (.slice (some ⟨g, 0, none⟩) t c) ∧ Hid (w'.heap[g]? = some (.cells (splice (splice cur (j * 1) ((cur.drop (i * 1)).take ((n - i) * 1))) (i * 1) ns).toArray 44 (0, 0))) ∧ Hid (w.grownBy w' (some g)) := by
  have q1 : ((i : Int) == (n : Int)) = false := by rw [beq_eq_false_iff_ne]; omega
  have q3 : IntKind.i64.wrap ((n : Int) + 1) = t := by rw [IntWalk.i64_in _ (by omega), ht.out]; omega
  have q4 : IntKind.i64.wrap ((i : Int) + 1) = j := by rw [IntWalk.i64_in _ (by omega), hj.out]; omega
  have q5 : ((n : Int) + 1) = t := by rw [ht.out]; omega
  have q6 : ((i : Int) + 1) = j := by rw [hj.out]; omega
  have hmn : Hid (Nat.min 1 (t - i) = 1) := Nat.min_eq_left (by omega)
  have hmn2 : Hid (Nat.min (t - i) (t - j) = n - i) := (Nat.min_eq_right (by omega)).trans (by have := hj.out; have := ht.out; omega)
  have hcj : ¬ c = j := by omega
  have hci : ¬ c = i := by omega
  have hit : i ≤ t := by omega
  have hjt2 : j ≤ t := by omega
  have hin2 : i ≤ n := by omega
  have hov := fun m d => ov_K w g va (j * 1) m d 1 1 cur ns hne hg hv (by have := ht.out; have := hj.out; unfold Hid; omega)
  try simp only [Nat.mul_one] at hov
  go_enter Tryz.func84, Tryz.ntmps84
  go_upto_region 15 with (simp only [hov])
  have hgd : Hid (w.drew.heap[g]? = some (.cells cur.toArray 44 (0, 0))) := hg.out
  have hsrc := hid (seg_src hgd.out (i * 1) ((n - i) * 1))
  have hone := hid (one_seg ho.out (i * 1) ((n - i) * 1) (by omega))
  have hcl : Hid (((cur.drop (i * 1)).take ((n - i) * 1)).length = (n - i) * 1) := by unfold Hid; rw [List.length_take, List.length_drop, hcur]; apply Nat.min_eq_left; omega
  generalize hq1 : (cur.drop (i * 1)).take ((n - i) * 1) = cs at *
  replace hq1 := hid hq1
  have hfit : j * 1 + cs.length ≤ cur.length := by rw [hcl.out, hcur]; have := hj.out; have := ht.out; omega
  obtain ⟨w2, hcp, hg2, hr2⟩ := ex_copy_k (P := Tryz.prog) w.drew 46 46 3 44 1 g (j * 1) (t - j) (c - j) ⟨g, i * 1, none⟩ (t - i) (c - i) cur _ cs Tryz.underlying46 (by kernel_rfl) hgd (n - i) hmn2 hcl hsrc.out hfit hone.out
  have hl2 : Hid ((splice cur (j * 1) cs).length = c * 1) := by unfold Hid; rw [length_splice _ _ _ hfit]; exact hcur
  have hr : Hid (w.grownBy w2 (some g)) := (grown_draw w (some g)).trans hr2.out
  have hv2 : Hid (w2.heap[va]? = some (.cells ns.toArray 44 (0, 0))) := (hr2.out.block va (Array.getElem?_eq_some_iff.1 hv.out).1 (fun e => hne (Option.some.inj e).symm)).trans hv.out
  clear hr2 hgd hsrc hone hg hv hov ho hfit hcl
  try simp only [Nat.mul_one] at hcp
  go_region
  clear hcp
  have hsrc : ∀ k v, ns[k]? = some v → w2.cell? ((⟨va, 0, none⟩ : Addr).add k) = some v := fun k v h => row_cell hv2.out 0 k (by rw [Nat.zero_add]; exact h)
  have hfit : i * 1 + ns.length ≤ (splice cur (j * 1) cs).length := by rw [hl2.out, hns.out]; have := hj.out; have := ht.out; omega
  generalize hq2 : splice cur (j * 1) cs = cur2 at *
  replace hq2 := hid hq2
  obtain ⟨w3, hcp, hg3, hr3⟩ := ex_copy_k (P := Tryz.prog) w2 46 46 3 44 1 g (i * 1) (t - i) (c - i) ⟨va, 0, none⟩ 1 1 cur2 _ ns Tryz.underlying46 (by kernel_rfl) hg2 1 hmn hns hsrc hfit hon.out
  replace hr : Hid (w.grownBy w3 (some g)) := hr.out.trans hr3.out
  clear hsrc hfit hr3 hg2
  try simp only [Nat.mul_one] at hcp
  go_wp2_with fail
  go_ret
  exact ⟨rfl, by rw [hq1.out, hq2.out]; exact hg3, hr⟩
open Go.RowKit Go.Shelf
theorem insB_N (g n i j t : Nat) (cur ns : List Value) (va : Nat) (w : World) (hj : Hid (j = i + 1)) (ht : Hid (t = n + 1)) (hin : i < n) (hjt : j < t) (hnt : n < t) (hc : n ≤ 1000000) (hcur : cur.length = n * 2) (hns : Hid (ns.length = 1 * 2)) (hne : g ≠ va)
    (hg : Hid (w.heap[g]? = some (.cells cur.toArray 65 (0, 0)))) (hv : Hid (w.heap[va]? = some (.cells ns.toArray 65 (0, 0)))) (ho : Hid (∀ v ∈ cur.take (n * 2), v.oneCell' = true)) (hon : Hid (∀ v ∈ ns, v.oneCell' = true)) :
    Calls Tryz.prog 81 #[.slice (some ⟨g, 0, none⟩) n n, .int .i64 i, .slice (some ⟨va, 0, none⟩) 1 1] w fun e w' => ∃ (c' : Nat) (r : List Value), e = .returned (.slice (some ⟨w.heap.size, 0, none⟩) t c') ∧ t ≤ c' ∧ c' ≤ maxLen ∧ r.length = c' * 2 ∧ r.take (t * 2) = cur.take (i * 2) ++ (ns ++ (cur.drop (i * 2)).take ((n - i) * 2)) ∧ w'.heap[w.heap.size]? = some (.cells r.toArray 65 (0, 0)) ∧ Ext w w' := by
  have q1 : ((i : Int) == (n : Int)) = false := by rw [beq_eq_false_iff_ne]; omega
  have q3 : IntKind.i64.wrap ((n : Int) + 1) = t := by rw [IntWalk.i64_in _ (by omega), ht.out]; omega
  have q4 : IntKind.i64.wrap ((i : Int) + 1) = j := by rw [IntWalk.i64_in _ (by omega), hj.out]; omega
  have q5 : ((n : Int) + 1) = t := by rw [ht.out]; omega
  have q6 : ((i : Int) + 1) = j := by rw [hj.out]; omega
  have q7 : IntKind.i64.wrap ((t : Int) - (i : Int)) = ((t - i : Nat) : Int) := by have := ht.out; rw [IntWalk.i64_in _ (by omega)]; omega
  have hin2 : i ≤ n := by omega
  obtain ⟨c', r, hap, hc1, hc2, hr1, hr2⟩ := azero_N w g n i (t - i) cur hg hcur hin2 (by omega) (by omega) (by have := ht.out; omega)
  rw [show i + (t - i) = t by omega] at hap hc1
  have hxa : Hid (Ext w (w.drew.alloc (.cells r.toArray 65))) := ((Ext.refl w).drew_right).alloc_right _
  have hga : Hid ((w.drew.alloc (.cells r.toArray 65)).heap[w.heap.size]? = some (.cells r.toArray 65 (0, 0))) := heap_alloc_new w.drew _
  have hgb : Hid ((w.drew.alloc (.cells r.toArray 65)).heap[g]? = some (.cells cur.toArray 65 (0, 0))) := (hxa.out.block (Array.getElem?_eq_some_iff.1 hg.out).1).trans hg.out
  have hva : Hid ((w.drew.alloc (.cells r.toArray 65)).heap[va]? = some (.cells ns.toArray 65 (0, 0))) := (hxa.out.block (Array.getElem?_eq_some_iff.1 hv.out).1).trans hv.out
  have hgl : Hid (g < w.heap.size ∧ va < w.heap.size) := ⟨(Array.getElem?_eq_some_iff.1 hg.out).1, (Array.getElem?_eq_some_iff.1 hv.out).1⟩
  have hcb : c' ≤ 9223372036854775807 := hc2
  have hq0 : ¬ c' = i := by omega
  have hq9 : ¬ c' = j := by omega
  have hni : ¬ n = i := by omega
  have hit : i ≤ t := by omega
  have hjt2 : j ≤ t := by omega
  go_enter Tryz.func81, Tryz.ntmps81
  go_wp2_with (at_builtin; refine Lib.wpList_append_run _ rfl _ _ _ _ rfl _ _ rfl rfl _ _ hap ?_; clear hap; generalize w.drew.alloc (.cells r.toArray 65) = w2 at *)
  have hgl2 := hgl.out
  generalize hGe : w.heap.size = G at *
  replace hGe := hid hGe
  clear hgl hg hv
  have hsrc : ∀ k v, ns[k]? = some v → w2.cell? ((⟨va, 0, none⟩ : Addr).add k) = some v := fun k v h => row_cell hva.out 0 k (by rw [Nat.zero_add]; exact h)
  have hfit : i * 2 + ns.length ≤ r.length := by rw [hr1, hns.out]; have := hj.out; have := ht.out; omega
  have hmn : Hid (Nat.min 1 (t - i) = 1) := Nat.min_eq_left (by omega)
  have hmn2 : Hid (Nat.min (n - i) (t - j) = n - i) := Nat.min_eq_left (by have := hj.out; have := ht.out; omega)
  obtain ⟨w3, hcp, hg3, hr3⟩ := ex_copy_k (P := Tryz.prog) w2 45 45 3 65 2 G (i * 2) (t - i) (c' - i) ⟨va, 0, none⟩ 1 1 r _ ns Tryz.underlying45 (by kernel_rfl) hga 1 hmn hns hsrc hfit hon.out
  have hl3 : Hid ((splice r (i * 2) ns).length = c' * 2) := by unfold Hid; rw [length_splice _ _ _ hfit]; exact hr1
  have hgb3 : Hid (w3.drew.heap[g]? = some (.cells cur.toArray 65 (0, 0))) := (hr3.out.block g (Array.getElem?_eq_some_iff.1 hgb.out).1 (fun e => by have := Option.some.inj e; omega)).trans hgb.out
  have hg3d : Hid (w3.drew.heap[G]? = some (.cells (splice r (i * 2) ns).toArray 65 (0, 0))) := hg3.out
  have hx3 : Hid (Ext w w3.drew) := ⟨hr3.out.os.trans hxa.out.os, hr3.out.tape.trans hxa.out.tape, hr3.out.output.trans hxa.out.output, Nat.le_trans hxa.out.size hr3.out.size, fun k hk => (hr3.out.block k (Nat.lt_of_lt_of_le hk hxa.out.size) (fun e => by have := Option.some.inj e; rw [hGe.out] at hk; omega)).trans (hxa.out.block hk)⟩
  clear hsrc hfit hr3 hg3 hga hgb hva hxa
  have hsrc := hid (seg_src hgb3.out (i * 2) ((n - i) * 2))
  have hone := hid (one_seg ho.out (i * 2) ((n - i) * 2) (by omega))
  have hcl : Hid (((cur.drop (i * 2)).take ((n - i) * 2)).length = (n - i) * 2) := by unfold Hid; rw [List.length_take, List.length_drop, hcur]; apply Nat.min_eq_left; omega
  generalize hq1 : (cur.drop (i * 2)).take ((n - i) * 2) = cs at *
  replace hq1 := hid hq1
  have hfit : j * 2 + cs.length ≤ (splice r (i * 2) ns).length := by rw [hl3.out, hcl.out]; have := hj.out; have := ht.out; omega
  obtain ⟨w4, hcp2, hg4, hr4⟩ := ex_copy_k (P := Tryz.prog) w3.drew 45 45 3 65 2 G (j * 2) (t - j) (c' - j) ⟨g, i * 2, none⟩ (n - i) (n - i) (splice r (i * 2) ns) _ cs Tryz.underlying45 (by kernel_rfl) hg3d (n - i) hmn2 hcl hsrc.out hfit hone.out
  have hl4 : Hid ((splice (splice r (i * 2) ns) (j * 2) cs).length = c' * 2) := by unfold Hid; rw [length_splice _ _ _ hfit]; exact hl3.out
  have hx4 : Hid (Ext w w4) := ⟨hr4.out.os.trans hx3.out.os, hr4.out.tape.trans hx3.out.tape, hr4.out.output.trans hx3.out.output, Nat.le_trans hx3.out.size hr4.out.size, fun k hk => (hr4.out.block k (Nat.lt_of_lt_of_le hk hx3.out.size) (fun e => by have := Option.some.inj e; rw [hGe.out] at hk; omega)).trans (hx3.out.block hk)⟩
  have hfin : Hid ((splice (splice r (i * 2) ns) (j * 2) cs).take (t * 2) = cur.take (i * 2) ++ (ns ++ cs)) := by
    have h := splice_out2 (r := r) (ns := ns) (cs := cs) (a := i * 2) (b := j * 2) (by have := hj.out; rw [hns.out]; omega) (by rw [hr1, hcl.out]; have := hj.out; have := ht.out; omega)
    rw [hr2, hcl.out, show j * 2 + (n - i) * 2 = t * 2 by have := hj.out; have := ht.out; omega] at h
    exact h
  generalize splice (splice r (i * 2) ns) (j * 2) cs = r4 at *
  clear hsrc hone hfit hr4 hg3d hgb3 hx3
  try simp only [Nat.mul_one] at hcp
  try simp only [Nat.mul_one] at hcp2
  rw [hcp]
  clear hcp
  go_upto_region 11 with fail
  go_region
  go_wp2_with fail
  go_ret
  rw [hGe.out]
  exact ⟨c', r4, rfl, hc1, hc2, hl4.out, by rw [hq1.out]; exact hfin.out, hg4.out, hx4.out⟩
theorem insC_N (n : Nat) (v : Value) (xs ns : List Value) (va : Nat) (w : World) (hn : n ≤ 1000000) (hown : w.ownsRow 0 65 2 v n xs) (hv : w.heap[va]? = some (.cells ns.toArray 65 (0, 0))) (hns : ns.length = 1 * 2) (hon : ∀ v ∈ ns, v.oneCell' = true) :
    Calls Tryz.prog 81 #[v, .int .i64 n, .slice (some ⟨va, 0, none⟩) 1 1] w fun e w' => ∃ v', e = .returned v' ∧ w'.ownsRow 0 65 2 v' (n + 1) (xs ++ ns) ∧ Rw v v' w w' := by
  obtain ⟨i0, hi0, hz0, hz1, hz2⟩ := info_parts infoN
  obtain ⟨A, c, rfl, hr⟩ := own_rd hown
  have hmx := Rd.max hr
  have hnews : Hid (∀ j u, ns[j]? = some u → w.cell? ((⟨va, 0, none⟩ : Addr).add j) = some u) := fun k v h => row_cell hv 0 k (by rw [Nat.zero_add]; exact h)
  replace hns := hid hns
  replace hon := hid hon
  clear hr hv
  generalize hG : w.heap.size = G at *
  replace hG := hid hG
  rcases A with _ | ad
  · obtain ⟨rfl, rfl, rfl⟩ := own_none hown
    replace hown := hid hown
    go_enter Tryz.func81, Tryz.ntmps81
    go_wp2_with (at_builtin; refine wpList_append_lies _ rfl _ _ 45 rfl 0 65 i0 _ 2 24 Tryz.underlying45 hi0 hz0 hz1 hz2 rfl (by decide) _ _ _ rfl hown.out ⟨va, 0, none⟩ 1 1 ns rfl hns.out hnews.out hon.out (by decide) (by unfold maxLen; omega) (by omega) (Nat.zero_le _) G hG.out ?_)
    intro g' cap w1 own1 hg1 hat _
    have hrw : Hid (Rw (.slice none 0 0) (.slice (some ⟨g', 0, none⟩) (0 + 1) cap) w w1) := by
      refine ⟨hg1, ?_⟩
      rcases hat with h | h
      · left; rw [h]; rfl
      · right; intro k hk; have : g' = k := by simpa [Value.ownBlock] using hk
        have := hG.out; omega
    replace own1 := hid own1
    clear hg1 hat
    go_wp2
    go_ret
    exact ⟨_, rfl, own1.out, hrw.out⟩
  · replace hown := hid hown
    by_cases hcn : c = n
    · subst hcn
      go_enter Tryz.func81, Tryz.ntmps81
      go_wp2_with (at_builtin; refine wpList_append_lies _ rfl _ _ 45 rfl 0 65 i0 _ 2 24 Tryz.underlying45 hi0 hz0 hz1 hz2 rfl (by decide) _ _ _ rfl hown.out ⟨va, 0, none⟩ 1 1 ns rfl hns.out hnews.out hon.out (by decide) (by unfold maxLen; omega) (by omega) (Nat.zero_le _) G hG.out ?_)
      intro g' cap w1 own1 hg1 hat _
      have hrw : Hid (Rw (.slice (some ad) c c) (.slice (some ⟨g', 0, none⟩) (c + 1) cap) w w1) := by
        refine ⟨hg1, ?_⟩
        rcases hat with h | h
        · left; rw [h]; rfl
        · right; intro k hk; have : g' = k := by simpa [Value.ownBlock] using hk
          have := hG.out; omega
      replace own1 := hid own1
      clear hg1 hat
      go_wp2
      go_ret
      exact ⟨_, rfl, own1.out, hrw.out⟩
    · go_enter Tryz.func81, Tryz.ntmps81
      go_wp2_with (at_builtin; refine wpList_append_lies _ rfl _ _ 45 rfl 0 65 i0 _ 2 24 Tryz.underlying45 hi0 hz0 hz1 hz2 rfl (by decide) _ _ _ rfl hown.out ⟨va, 0, none⟩ 1 1 ns rfl hns.out hnews.out hon.out (by decide) (by unfold maxLen; omega) (by omega) (Nat.zero_le _) G hG.out ?_)
      intro g' cap w1 own1 hg1 hat _
      have hrw : Hid (Rw (.slice (some ad) n c) (.slice (some ⟨g', 0, none⟩) (n + 1) cap) w w1) := by
        refine ⟨hg1, ?_⟩
        rcases hat with h | h
        · left; rw [h]; rfl
        · right; intro k hk; have : g' = k := by simpa [Value.ownBlock] using hk
          have := hG.out; omega
      replace own1 := hid own1
      clear hg1 hat
      go_wp2
      go_ret
      exact ⟨_, rfl, own1.out, hrw.out⟩
theorem ins_N (n i : Nat) (v : Value) (xs ns : List Value) (va : Nat) (w : World) (hi : i ≤ n) (hn : n ≤ 1000000) (hown : w.ownsRow 0 65 2 v n xs) (h1 : ∀ u ∈ xs, u.oneCell' = true) (hv : w.heap[va]? = some (.cells ns.toArray 65 (0, 0))) (hns : ns.length = 1 * 2) (hon : ∀ v ∈ ns, v.oneCell' = true) (hne : v.ownBlock ≠ some va) :
    Calls Tryz.prog 81 #[v, .int .i64 i, .slice (some ⟨va, 0, none⟩) 1 1] w fun e w' => ∃ v', e = .returned v' ∧ w'.ownsRow 0 65 2 v' (n + 1) (xs.take (i * 2) ++ (ns ++ xs.drop (i * 2))) ∧ Rw v v' w w' := by
  have hxl : xs.length = n * 2 := hown.1
  by_cases hin : i = n
  · subst hin
    rw [List.take_of_length_le (by omega), List.drop_of_length_le (by omega), List.append_nil]
    exact insC_N i v xs ns va w hn hown hv hns hon
  · obtain ⟨g, c, cur, rfl, hg, hnc, hc, hl, ht⟩ := row_open hown (by omega)
    have hgv : g ≠ va := fun e => hne (by rw [e]; rfl)
    have e1 : cur.take (i * 2) = xs.take (i * 2) := by rw [← ht, List.take_take, Nat.min_eq_left (by omega)]
    have e2 : (cur.drop (i * 2)).take ((n - i) * 2) = xs.drop (i * 2) := by
      rw [← ht, List.drop_take]
      congr 1
      omega
    have hcl : ((cur.drop (i * 2)).take ((n - i) * 2)).length = (n - i) * 2 := by rw [e2, List.length_drop, hxl]; omega
    have hlen : (xs.take (i * 2) ++ (ns ++ xs.drop (i * 2))).length = (n + 1) * 2 := by
      rw [List.length_append, List.length_append, List.length_take, List.length_drop, hns, hxl]; omega
    by_cases hroom : n + 1 ≤ c
    · refine (insA_N g n c i (i + 1) (n + 1) cur ns va w rfl rfl (by omega) (by omega) (by omega) hroom hc hn hl hns hgv hg hv (by rw [ht]; exact h1) hon).mono ?_
      rintro e w' ⟨rfl, h2, h3⟩
      refine ⟨_, rfl, row_shut h2.out hroom hc (by rw [length_splice _ _ _ (by rw [length_splice _ _ _ (by rw [hcl, hl]; omega), hl, hns]; omega), length_splice _ _ _ (by rw [hcl, hl]; omega)]; exact hl) hlen ?_, h3.out, .inl rfl⟩
      have h := splice_in2 (cur := cur) (ns := ns) (cs := (cur.drop (i * 2)).take ((n - i) * 2)) (a := i * 2) (b := (i + 1) * 2) (by rw [hns]; omega) (by rw [hcl, hl]; omega)
      rw [hcl, show (i + 1) * 2 + (n - i) * 2 = (n + 1) * 2 by omega] at h
      rw [h, e1, e2]
    · obtain rfl : c = n := by omega
      refine (insB_N g c i (i + 1) (c + 1) cur ns va w rfl rfl (by omega) (by omega) (by omega) hn hl hns hgv hg hv (by rw [ht]; exact h1) hon).mono ?_
      rintro e w' ⟨c', r, rfl, h2, h3, h4, h5, h6, h7⟩
      refine ⟨_, rfl, row_shut h6 h2 h3 h4 hlen (by rw [h5, e1, e2]), Ext.grown h7 _, .inr (fun k hk => ?_)⟩
      have : w.heap.size = k := by simpa [Value.ownBlock] using hk
      omega
theorem insB_K (g n i j t : Nat) (cur ns : List Value) (va : Nat) (w : World) (hj : Hid (j = i + 1)) (ht : Hid (t = n + 1)) (hin : i < n) (hjt : j < t) (hnt : n < t) (hc : n ≤ 1000000) (hcur : cur.length = n * 1) (hns : Hid (ns.length = 1 * 1)) (hne : g ≠ va)
    (hg : Hid (w.heap[g]? = some (.cells cur.toArray 44 (0, 0)))) (hv : Hid (w.heap[va]? = some (.cells ns.toArray 44 (0, 0)))) (ho : Hid (∀ v ∈ cur.take (n * 1), v.oneCell' = true)) (hon : Hid (∀ v ∈ ns, v.oneCell' = true)) :
    Calls Tryz.prog 84 #[.slice (some ⟨g, 0, none⟩) n n, .int .i64 i, .slice (some ⟨va, 0, none⟩) 1 1] w fun e w' => ∃ (c' : Nat) (r : List Value), e = .returned (.slice (some ⟨w.heap.size, 0, none⟩) t c') ∧ t ≤ c' ∧ c' ≤ maxLen ∧ r.length = c' * 1 ∧ r.take (t * 1) = cur.take (i * 1) ++ (ns ++ (cur.drop (i * 1)).take ((n - i) * 1)) ∧ w'.heap[w.heap.size]? = some (.cells r.toArray 44 (0, 0)) ∧ Ext w w' := by
  have q1 : ((i : Int) == (n : Int)) = false := by rw [beq_eq_false_iff_ne]; omega
  have q3 : IntKind.i64.wrap ((n : Int) + 1) = t := by rw [IntWalk.i64_in _ (by omega), ht.out]; omega
  have q4 : IntKind.i64.wrap ((i : Int) + 1) = j := by rw [IntWalk.i64_in _ (by omega), hj.out]; omega
  have q5 : ((n : Int) + 1) = t := by rw [ht.out]; omega
  have q6 : ((i : Int) + 1) = j := by rw [hj.out]; omega
  have q7 : IntKind.i64.wrap ((t : Int) - (i : Int)) = ((t - i : Nat) : Int) := by have := ht.out; rw [IntWalk.i64_in _ (by omega)]; omega
  have hin2 : i ≤ n := by omega
  obtain ⟨c', r, hap, hc1, hc2, hr1, hr2⟩ := azero_K w g n i (t - i) cur hg hcur hin2 (by omega) (by omega) (by have := ht.out; omega)
  rw [show i + (t - i) = t by omega] at hap hc1
  have hxa : Hid (Ext w (w.drew.alloc (.cells r.toArray 44))) := ((Ext.refl w).drew_right).alloc_right _
  have hga : Hid ((w.drew.alloc (.cells r.toArray 44)).heap[w.heap.size]? = some (.cells r.toArray 44 (0, 0))) := heap_alloc_new w.drew _
  have hgb : Hid ((w.drew.alloc (.cells r.toArray 44)).heap[g]? = some (.cells cur.toArray 44 (0, 0))) := (hxa.out.block (Array.getElem?_eq_some_iff.1 hg.out).1).trans hg.out
  have hva : Hid ((w.drew.alloc (.cells r.toArray 44)).heap[va]? = some (.cells ns.toArray 44 (0, 0))) := (hxa.out.block (Array.getElem?_eq_some_iff.1 hv.out).1).trans hv.out
  have hgl : Hid (g < w.heap.size ∧ va < w.heap.size) := ⟨(Array.getElem?_eq_some_iff.1 hg.out).1, (Array.getElem?_eq_some_iff.1 hv.out).1⟩
  have hcb : c' ≤ 9223372036854775807 := hc2
  have hq0 : ¬ c' = i := by omega
  have hq9 : ¬ c' = j := by omega
  have hni : ¬ n = i := by omega
  have hit : i ≤ t := by omega
  have hjt2 : j ≤ t := by omega
  go_enter Tryz.func84, Tryz.ntmps84
  go_wp2_with (at_builtin; refine Lib.wpList_append_run _ rfl _ _ _ _ rfl _ _ rfl rfl _ _ hap ?_; clear hap; generalize w.drew.alloc (.cells r.toArray 44) = w2 at *)
  have hgl2 := hgl.out
  generalize hGe : w.heap.size = G at *
  replace hGe := hid hGe
  clear hgl hg hv
  have hsrc : ∀ k v, ns[k]? = some v → w2.cell? ((⟨va, 0, none⟩ : Addr).add k) = some v := fun k v h => row_cell hva.out 0 k (by rw [Nat.zero_add]; exact h)
  have hfit : i * 1 + ns.length ≤ r.length := by rw [hr1, hns.out]; have := hj.out; have := ht.out; omega
  have hmn : Hid (Nat.min 1 (t - i) = 1) := Nat.min_eq_left (by omega)
  have hmn2 : Hid (Nat.min (n - i) (t - j) = n - i) := Nat.min_eq_left (by have := hj.out; have := ht.out; omega)
  obtain ⟨w3, hcp, hg3, hr3⟩ := ex_copy_k (P := Tryz.prog) w2 46 46 3 44 1 G (i * 1) (t - i) (c' - i) ⟨va, 0, none⟩ 1 1 r _ ns Tryz.underlying46 (by kernel_rfl) hga 1 hmn hns hsrc hfit hon.out
  have hl3 : Hid ((splice r (i * 1) ns).length = c' * 1) := by unfold Hid; rw [length_splice _ _ _ hfit]; exact hr1
  have hgb3 : Hid (w3.drew.heap[g]? = some (.cells cur.toArray 44 (0, 0))) := (hr3.out.block g (Array.getElem?_eq_some_iff.1 hgb.out).1 (fun e => by have := Option.some.inj e; omega)).trans hgb.out
  have hg3d : Hid (w3.drew.heap[G]? = some (.cells (splice r (i * 1) ns).toArray 44 (0, 0))) := hg3.out
  have hx3 : Hid (Ext w w3.drew) := ⟨hr3.out.os.trans hxa.out.os, hr3.out.tape.trans hxa.out.tape, hr3.out.output.trans hxa.out.output, Nat.le_trans hxa.out.size hr3.out.size, fun k hk => (hr3.out.block k (Nat.lt_of_lt_of_le hk hxa.out.size) (fun e => by have := Option.some.inj e; rw [hGe.out] at hk; omega)).trans (hxa.out.block hk)⟩
  clear hsrc hfit hr3 hg3 hga hgb hva hxa
  have hsrc := hid (seg_src hgb3.out (i * 1) ((n - i) * 1))
  have hone := hid (one_seg ho.out (i * 1) ((n - i) * 1) (by omega))
  have hcl : Hid (((cur.drop (i * 1)).take ((n - i) * 1)).length = (n - i) * 1) := by unfold Hid; rw [List.length_take, List.length_drop, hcur]; apply Nat.min_eq_left; omega
  generalize hq1 : (cur.drop (i * 1)).take ((n - i) * 1) = cs at *
  replace hq1 := hid hq1
  have hfit : j * 1 + cs.length ≤ (splice r (i * 1) ns).length := by rw [hl3.out, hcl.out]; have := hj.out; have := ht.out; omega
  obtain ⟨w4, hcp2, hg4, hr4⟩ := ex_copy_k (P := Tryz.prog) w3.drew 46 46 3 44 1 G (j * 1) (t - j) (c' - j) ⟨g, i * 1, none⟩ (n - i) (n - i) (splice r (i * 1) ns) _ cs Tryz.underlying46 (by kernel_rfl) hg3d (n - i) hmn2 hcl hsrc.out hfit hone.out
  have hl4 : Hid ((splice (splice r (i * 1) ns) (j * 1) cs).length = c' * 1) := by unfold Hid; rw [length_splice _ _ _ hfit]; exact hl3.out
  have hx4 : Hid (Ext w w4) := ⟨hr4.out.os.trans hx3.out.os, hr4.out.tape.trans hx3.out.tape, hr4.out.output.trans hx3.out.output, Nat.le_trans hx3.out.size hr4.out.size, fun k hk => (hr4.out.block k (Nat.lt_of_lt_of_le hk hx3.out.size) (fun e => by have := Option.some.inj e; rw [hGe.out] at hk; omega)).trans (hx3.out.block hk)⟩
  have hfin : Hid ((splice (splice r (i * 1) ns) (j * 1) cs).take (t * 1) = cur.take (i * 1) ++ (ns ++ cs)) := by
    have h := splice_out2 (r := r) (ns := ns) (cs := cs) (a := i * 1) (b := j * 1) (by have := hj.out; rw [hns.out]; omega) (by rw [hr1, hcl.out]; have := hj.out; have := ht.out; omega)
    rw [hr2, hcl.out, show j * 1 + (n - i) * 1 = t * 1 by have := hj.out; have := ht.out; omega] at h
    exact h
  generalize splice (splice r (i * 1) ns) (j * 1) cs = r4 at *
  clear hsrc hone hfit hr4 hg3d hgb3 hx3
  try simp only [Nat.mul_one] at hcp
  try simp only [Nat.mul_one] at hcp2
  rw [hcp]
  clear hcp
  go_upto_region 11 with fail
  go_region
  go_wp2_with fail
  go_ret
  rw [hGe.out]
  exact ⟨c', r4, rfl, hc1, hc2, hl4.out, by rw [hq1.out]; exact hfin.out, hg4.out, hx4.out⟩
theorem insC_K (n : Nat) (v : Value) (xs ns : List Value) (va : Nat) (w : World) (hn : n ≤ 1000000) (hown : w.ownsRow 0 44 1 v n xs) (hv : w.heap[va]? = some (.cells ns.toArray 44 (0, 0))) (hns : ns.length = 1 * 1) (hon : ∀ v ∈ ns, v.oneCell' = true) :
    Calls Tryz.prog 84 #[v, .int .i64 n, .slice (some ⟨va, 0, none⟩) 1 1] w fun e w' => ∃ v', e = .returned v' ∧ w'.ownsRow 0 44 1 v' (n + 1) (xs ++ ns) ∧ Rw v v' w w' := by
  obtain ⟨i0, hi0, hz0, hz1, hz2⟩ := info_parts infoK
  obtain ⟨A, c, rfl, hr⟩ := own_rd hown
  have hmx := Rd.max hr
  have hnews : Hid (∀ j u, ns[j]? = some u → w.cell? ((⟨va, 0, none⟩ : Addr).add j) = some u) := fun k v h => row_cell hv 0 k (by rw [Nat.zero_add]; exact h)
  replace hns := hid hns
  replace hon := hid hon
  clear hr hv
  generalize hG : w.heap.size = G at *
  replace hG := hid hG
  rcases A with _ | ad
  · obtain ⟨rfl, rfl, rfl⟩ := own_none hown
    replace hown := hid hown
    go_enter Tryz.func84, Tryz.ntmps84
    go_wp2_with (at_builtin; refine wpList_append_lies _ rfl _ _ 46 rfl 0 44 i0 _ 1 8 Tryz.underlying46 hi0 hz0 hz1 hz2 rfl (by decide) _ _ _ rfl hown.out ⟨va, 0, none⟩ 1 1 ns rfl hns.out hnews.out hon.out (by decide) (by unfold maxLen; omega) (by omega) (Nat.zero_le _) G hG.out ?_)
    intro g' cap w1 own1 hg1 hat _
    have hrw : Hid (Rw (.slice none 0 0) (.slice (some ⟨g', 0, none⟩) (0 + 1) cap) w w1) := by
      refine ⟨hg1, ?_⟩
      rcases hat with h | h
      · left; rw [h]; rfl
      · right; intro k hk; have : g' = k := by simpa [Value.ownBlock] using hk
        have := hG.out; omega
    replace own1 := hid own1
    clear hg1 hat
    go_wp2
    go_ret
    exact ⟨_, rfl, own1.out, hrw.out⟩
  · replace hown := hid hown
    by_cases hcn : c = n
    · subst hcn
      go_enter Tryz.func84, Tryz.ntmps84
      go_wp2_with (at_builtin; refine wpList_append_lies _ rfl _ _ 46 rfl 0 44 i0 _ 1 8 Tryz.underlying46 hi0 hz0 hz1 hz2 rfl (by decide) _ _ _ rfl hown.out ⟨va, 0, none⟩ 1 1 ns rfl hns.out hnews.out hon.out (by decide) (by unfold maxLen; omega) (by omega) (Nat.zero_le _) G hG.out ?_)
      intro g' cap w1 own1 hg1 hat _
      have hrw : Hid (Rw (.slice (some ad) c c) (.slice (some ⟨g', 0, none⟩) (c + 1) cap) w w1) := by
        refine ⟨hg1, ?_⟩
        rcases hat with h | h
        · left; rw [h]; rfl
        · right; intro k hk; have : g' = k := by simpa [Value.ownBlock] using hk
          have := hG.out; omega
      replace own1 := hid own1
      clear hg1 hat
      go_wp2
      go_ret
      exact ⟨_, rfl, own1.out, hrw.out⟩
    · go_enter Tryz.func84, Tryz.ntmps84
      go_wp2_with (at_builtin; refine wpList_append_lies _ rfl _ _ 46 rfl 0 44 i0 _ 1 8 Tryz.underlying46 hi0 hz0 hz1 hz2 rfl (by decide) _ _ _ rfl hown.out ⟨va, 0, none⟩ 1 1 ns rfl hns.out hnews.out hon.out (by decide) (by unfold maxLen; omega) (by omega) (Nat.zero_le _) G hG.out ?_)
      intro g' cap w1 own1 hg1 hat _
      have hrw : Hid (Rw (.slice (some ad) n c) (.slice (some ⟨g', 0, none⟩) (n + 1) cap) w w1) := by
        refine ⟨hg1, ?_⟩
        rcases hat with h | h
        · left; rw [h]; rfl
        · right; intro k hk; have : g' = k := by simpa [Value.ownBlock] using hk
          have := hG.out; omega
      replace own1 := hid own1
      clear hg1 hat
      go_wp2
      go_ret
      exact ⟨_, rfl, own1.out, hrw.out⟩
theorem ins_K (n i : Nat) (v : Value) (xs ns : List Value) (va : Nat) (w : World) (hi : i ≤ n) (hn : n ≤ 1000000) (hown : w.ownsRow 0 44 1 v n xs) (h1 : ∀ u ∈ xs, u.oneCell' = true) (hv : w.heap[va]? = some (.cells ns.toArray 44 (0, 0))) (hns : ns.length = 1 * 1) (hon : ∀ v ∈ ns, v.oneCell' = true) (hne : v.ownBlock ≠ some va) :
    Calls Tryz.prog 84 #[v, .int .i64 i, .slice (some ⟨va, 0, none⟩) 1 1] w fun e w' => ∃ v', e = .returned v' ∧ w'.ownsRow 0 44 1 v' (n + 1) (xs.take (i * 1) ++ (ns ++ xs.drop (i * 1))) ∧ Rw v v' w w' := by
  have hxl : xs.length = n * 1 := hown.1
  by_cases hin : i = n
  · subst hin
    rw [List.take_of_length_le (by omega), List.drop_of_length_le (by omega), List.append_nil]
    exact insC_K i v xs ns va w hn hown hv hns hon
  · obtain ⟨g, c, cur, rfl, hg, hnc, hc, hl, ht⟩ := row_open hown (by omega)
    have hgv : g ≠ va := fun e => hne (by rw [e]; rfl)
    have e1 : cur.take (i * 1) = xs.take (i * 1) := by rw [← ht, List.take_take, Nat.min_eq_left (by omega)]
    have e2 : (cur.drop (i * 1)).take ((n - i) * 1) = xs.drop (i * 1) := by
      rw [← ht, List.drop_take]
      congr 1
      omega
    have hcl : ((cur.drop (i * 1)).take ((n - i) * 1)).length = (n - i) * 1 := by rw [e2, List.length_drop, hxl]; omega
    have hlen : (xs.take (i * 1) ++ (ns ++ xs.drop (i * 1))).length = (n + 1) * 1 := by
      rw [List.length_append, List.length_append, List.length_take, List.length_drop, hns, hxl]; omega
    by_cases hroom : n + 1 ≤ c
    · refine (insA_K g n c i (i + 1) (n + 1) cur ns va w rfl rfl (by omega) (by omega) (by omega) hroom hc hn hl hns hgv hg hv (by rw [ht]; exact h1) hon).mono ?_
      rintro e w' ⟨rfl, h2, h3⟩
      refine ⟨_, rfl, row_shut h2.out hroom hc (by rw [length_splice _ _ _ (by rw [length_splice _ _ _ (by rw [hcl, hl]; omega), hl, hns]; omega), length_splice _ _ _ (by rw [hcl, hl]; omega)]; exact hl) hlen ?_, h3.out, .inl rfl⟩
      have h := splice_in2 (cur := cur) (ns := ns) (cs := (cur.drop (i * 1)).take ((n - i) * 1)) (a := i * 1) (b := (i + 1) * 1) (by rw [hns]; omega) (by rw [hcl, hl]; omega)
      rw [hcl, show (i + 1) * 1 + (n - i) * 1 = (n + 1) * 1 by omega] at h
      rw [h, e1, e2]
    · obtain rfl : c = n := by omega
      refine (insB_K g c i (i + 1) (c + 1) cur ns va w rfl rfl (by omega) (by omega) (by omega) hn hl hns hgv hg hv (by rw [ht]; exact h1) hon).mono ?_
      rintro e w' ⟨c', r, rfl, h2, h3, h4, h5, h6, h7⟩
      refine ⟨_, rfl, row_shut h6 h2 h3 h4 hlen (by rw [h5, e1, e2]), Ext.grown h7 _, .inr (fun k hk => ?_)⟩
      have : w.heap.size = k := by simpa [Value.ownBlock] using hk
      omega
open Go.RowKit Go.Shelf
theorem delA_N (g n c i j : Nat) (cur : List Value) (w : World) (hij : Hid (j = i + 1)) (hlt : i < j) (hj : j ≤ n) (hn : n ≤ c) (hnc : ¬ c = j) (hc : c ≤ 9223372036854775807) (hn2 : n ≤ 1000000) (hcur : cur.length = c * 2)
    (hg : Hid (w.heap[g]? = some (.cells cur.toArray 65 (0, 0)))) (ho : Hid (∀ v ∈ cur.take (n * 2), v.oneCell' = true)) :
    Calls Tryz.prog 51 #[.slice (some ⟨g, 0, none⟩) n c, .int .i64 i, .int .i64 j] w fun e w' => e = .returned (.slice (some ⟨g, 0, none⟩) (n - 1) c) ∧
      Hid (w'.heap[g]? = some (.cells (splice (splice cur (i * 2) ((cur.drop (j * 2)).take ((n - j) * 2))) ((n - 1) * 2) [.string ⟨#[]⟩, .int .i64 0]).toArray 65 (0, 0))) ∧ Hid (w.grownBy w' (some g)) := by
  have q1 : ((i : Int) == (j : Int)) = false := by rw [beq_eq_false_iff_ne]; omega
  have qa : ¬ j < i := by omega
  have qb : j ≤ n := by omega
  have qc : i ≤ j := by omega
  have qd : i ≤ n := by omega
  have qe : i ≤ c := by omega
  have qg : j ≤ c := by omega
  have qs : i + (n - j) = n - 1 := by have := hij.out; omega
  have qt : n - 1 ≤ n := by omega
  have qu : n - 1 ≤ c := by omega
  have qv : ¬ c = n - 1 := by omega
  have qw : n - (n - 1) = 1 := by omega
  have qx : ¬ c = i := by omega
  go_enter Tryz.func51, Tryz.ntmps51
  go_upto_region 5 with fail
  have hg1 : Hid (w.drew.heap[g]? = some (.cells cur.toArray 65 (0, 0))) := hg.out
  have hcl : ((cur.drop (j * 2)).take ((n - j) * 2)).length = (n - j) * 2 := by rw [List.length_take, List.length_drop, hcur]; apply Nat.min_eq_left; omega
  have hsrc : ∀ k v, ((cur.drop (j * 2)).take ((n - j) * 2))[k]? = some v → w.drew.cell? ((⟨g, j * 2, none⟩ : Addr).add k) = some v := fun k v h => by
    refine row_cell hg1.out _ _ ?_
    rw [List.getElem?_take] at h
    split at h
    · rw [List.getElem?_drop] at h; exact h
    · cases h
  have hone : ∀ v ∈ ((cur.drop (j * 2)).take ((n - j) * 2)), v.oneCell' = true := fun v hv => ho.out v (mem_seg (by omega) hv)
  obtain ⟨w2, hap, hg2, hr2⟩ := ex_append_row (P := Tryz.prog) w.drew 45 45 65 2 Tryz.underlying45 (by kernel_rfl) g i c cur hg1 ⟨g, j * 2, none⟩ (n - j) (c - j) ((cur.drop (j * 2)).take ((n - j) * 2)) hcl hsrc hone (by omega) (by rw [hcl, hcur]; omega)
  clear hsrc hone
  rw [qs] at hap
  have hl2 : (splice cur (i * 2) ((cur.drop (j * 2)).take ((n - j) * 2))).length = c * 2 := by rw [length_splice _ _ _ (by rw [hcl, hcur]; omega)]; exact hcur
  obtain ⟨w3, hcr, hg3, hr3⟩ := ex_clear_1 (P := Tryz.prog) w2 45 0 65 g ((n - 1) * 2) (c - (n - 1)) _ _ _ [.string ⟨#[]⟩, .int .i64 0] Tryz.underlying45 Tryz.zeroValue65 rfl hg2 (by rw [hl2]; simp; omega) (by simp [Value.oneCell'])
  have hr : Hid (w.grownBy w3 (some g)) := (show w.grownBy w.drew (some g) from ⟨rfl, rfl, rfl, Nat.le_refl _, fun _ _ _ => rfl⟩).trans (hr2.out.trans hr3.out)
  skip
  clear hg1 hg2 hr2 hr3 hl2 hcl
  refine region_J (fun _ => True) 7 (by kernel_rfl) ?_
  refine JT 0 (v := ?van0) trivial ?yan0 ?ran0
  case yan0 => (intro w hSw; obtain _ := hSw; (go_simp; with_reducible rfl))
  simp only [Act.put, lyA, lyB, lyC, lyD, lyE, lyF]
  refine JT 1 (v := ?van1) trivial ?yan1 ?ran1
  case yan1 => (intro w hSw; obtain _ := hSw; (go_simp; with_reducible rfl))
  simp only [Act.put, lyA, lyB, lyC, lyD, lyE, lyF]
  refine JT 2 (v := ?van2) trivial ?yan2 ?ran2
  case yan2 => (intro w hSw; obtain _ := hSw; (go_simp; with_reducible rfl))
  simp only [Act.put, lyA, lyB, lyC, lyD, lyE, lyF]
  refine JT 3 (v := ?van3) trivial ?yan3 ?ran3
  case yan3 => (intro w hSw; obtain _ := hSw; (go_simp; with_reducible rfl))
  simp only [Act.put, lyA, lyB, lyC, lyD, lyE, lyF]
  refine JT 4 (v := ?van4) trivial ?yan4 ?ran4
  case yan4 => (intro w hSw; obtain _ := hSw; (go_simp; with_reducible rfl))
  simp only [Act.put, lyA, lyB, lyC, lyD, lyE, lyF]
  refine JT 5 (v := ?van5) trivial ?yan5 ?ran5
  case yan5 => (intro w hSw; obtain _ := hSw; (go_simp; with_reducible rfl))
  simp only [Act.put, lyA, lyB, lyC, lyD, lyE, lyF]
  refine J_one 6 rfl (by kernel_rfl) (fun K hK => ?_)
  refine step_run rfl _ (ex_append _ _ _ _ rfl _ _ rfl rfl _ hap) ?_
  refine hK _ _ ⟨fun _ => trivial, ?_⟩
  clear hK K hap
  simp only [Act.put, lyA, lyB, lyC, lyD, lyE, lyF]
  refine J_one 7 rfl (by kernel_rfl) (fun K hK => ?_)
  go_simp
  refine hK _ _ ⟨fun h => absurd rfl h, ?_⟩
  clear hK K
  refine J_done (by kernel_rfl) (OnlyOn.normal ?_)
  go_wp2
  go_ret
  exact ⟨rfl, hg3, hr⟩
theorem delB_N (g n i j : Nat) (cur : List Value) (w : World) (hij : Hid (j = i + 1)) (hlt : i < j) (hj : j = n) (hc : n ≤ 9223372036854775807) (hn2 : n ≤ 1000000) (hcur : cur.length = n * 2)
    (hg : Hid (w.heap[g]? = some (.cells cur.toArray 65 (0, 0)))) (ho : Hid (∀ v ∈ cur.take (n * 2), v.oneCell' = true)) :
    Calls Tryz.prog 51 #[.slice (some ⟨g, 0, none⟩) n n, .int .i64 i, .int .i64 j] w fun e w' => e = .returned (.slice (some ⟨g, 0, none⟩) (n - 1) n) ∧
      Hid (w'.heap[g]? = some (.cells (splice (splice cur (i * 2) ((cur.drop (j * 2)).take ((n - j) * 2))) ((n - 1) * 2) [.string ⟨#[]⟩, .int .i64 0]).toArray 65 (0, 0))) ∧ Hid (w.grownBy w' (some g)) := by
  obtain rfl := hj
  have q1 : ((i : Int) == (j : Int)) = false := by rw [beq_eq_false_iff_ne]; omega
  have qa : ¬ j < i := by omega
  have qb : j ≤ j := by omega
  have qc : i ≤ j := by omega
  have qd : i ≤ j := by omega
  have qe : i ≤ j := by omega
  have qg : j ≤ j := by omega
  have qs : i + (j - j) = j - 1 := by have := hij.out; omega
  have qt : j - 1 ≤ j := by omega
  have qu : j - 1 ≤ j := by omega
  have qv : ¬ j = j - 1 := by omega
  have qw : j - (j - 1) = 1 := by omega
  have qx : ¬ j = i := by omega
  go_enter Tryz.func51, Tryz.ntmps51
  go_upto_region 5 with fail
  have hg1 : Hid (w.drew.heap[g]? = some (.cells cur.toArray 65 (0, 0))) := hg.out
  have hcl : ((cur.drop (j * 2)).take ((j - j) * 2)).length = (j - j) * 2 := by rw [List.length_take, List.length_drop, hcur]; apply Nat.min_eq_left; omega
  have hnil : (cur.drop (j * 2)).take ((j - j) * 2) = [] := by rw [Nat.sub_self, Nat.zero_mul, List.take_zero]
  obtain ⟨w2, hap, hg2, hr2⟩ := ex_append_row (P := Tryz.prog) w.drew 45 45 65 2 Tryz.underlying45 (by kernel_rfl) g i j cur hg1 ⟨g, 0, none⟩ (j - j) (j - j) ((cur.drop (j * 2)).take ((j - j) * 2)) hcl (fun k v h => by rw [hnil] at h; simp at h) (fun v h => by rw [hnil] at h; cases h) (by omega) (by rw [hcl, hcur]; omega)
  rw [qs] at hap
  rw [Nat.sub_self] at hap
  have hl2 : (splice cur (i * 2) ((cur.drop (j * 2)).take ((j - j) * 2))).length = j * 2 := by rw [length_splice _ _ _ (by rw [hcl, hcur]; omega)]; exact hcur
  obtain ⟨w3, hcr, hg3, hr3⟩ := ex_clear_1 (P := Tryz.prog) w2 45 0 65 g ((j - 1) * 2) (j - (j - 1)) _ _ _ [.string ⟨#[]⟩, .int .i64 0] Tryz.underlying45 Tryz.zeroValue65 rfl hg2 (by rw [hl2]; simp; omega) (by simp [Value.oneCell'])
  have hr : Hid (w.grownBy w3 (some g)) := (show w.grownBy w.drew (some g) from ⟨rfl, rfl, rfl, Nat.le_refl _, fun _ _ _ => rfl⟩).trans (hr2.out.trans hr3.out)
  rw [qw] at hcr
  clear hg1 hg2 hr2 hr3 hl2 hcl
  refine region_J (fun _ => True) 7 (by kernel_rfl) ?_
  refine JT 0 (v := ?van0) trivial ?yan0 ?ran0
  case yan0 => (intro w hSw; obtain _ := hSw; (go_simp; with_reducible rfl))
  simp only [Act.put, lyA, lyB, lyC, lyD, lyE, lyF]
  refine JT 1 (v := ?van1) trivial ?yan1 ?ran1
  case yan1 => (intro w hSw; obtain _ := hSw; (go_simp; with_reducible rfl))
  simp only [Act.put, lyA, lyB, lyC, lyD, lyE, lyF]
  refine JT 2 (v := ?van2) trivial ?yan2 ?ran2
  case yan2 => (intro w hSw; obtain _ := hSw; (go_simp; with_reducible rfl))
  simp only [Act.put, lyA, lyB, lyC, lyD, lyE, lyF]
  refine JT 3 (v := ?van3) trivial ?yan3 ?ran3
  case yan3 => (intro w hSw; obtain _ := hSw; (go_simp; with_reducible rfl))
  simp only [Act.put, lyA, lyB, lyC, lyD, lyE, lyF]
  refine JT 4 (v := ?van4) trivial ?yan4 ?ran4
  case yan4 => (intro w hSw; obtain _ := hSw; (go_simp; with_reducible rfl))
  simp only [Act.put, lyA, lyB, lyC, lyD, lyE, lyF]
  refine JT 5 (v := ?van5) trivial ?yan5 ?ran5
  case yan5 => (intro w hSw; obtain _ := hSw; (go_simp; with_reducible rfl))
  simp only [Act.put, lyA, lyB, lyC, lyD, lyE, lyF]
  refine J_one 6 rfl (by kernel_rfl) (fun K hK => ?_)
  refine step_run rfl _ (ex_append _ _ _ _ rfl _ _ rfl rfl _ hap) ?_
  refine hK _ _ ⟨fun _ => trivial, ?_⟩
  clear hK K hap
  simp only [Act.put, lyA, lyB, lyC, lyD, lyE, lyF]
  refine J_one 7 rfl (by kernel_rfl) (fun K hK => ?_)
  go_simp
  refine hK _ _ ⟨fun h => absurd rfl h, ?_⟩
  clear hK K
  refine J_done (by kernel_rfl) (OnlyOn.normal ?_)
  go_wp2
  go_ret
  exact ⟨rfl, hg3, hr⟩
theorem delA_K (g n c i j : Nat) (cur : List Value) (w : World) (hij : Hid (j = i + 1)) (hlt : i < j) (hj : j ≤ n) (hn : n ≤ c) (hnc : ¬ c = j) (hc : c ≤ 9223372036854775807) (hn2 : n ≤ 1000000) (hcur : cur.length = c * 1)
    (hg : Hid (w.heap[g]? = some (.cells cur.toArray 44 (0, 0)))) (ho : Hid (∀ v ∈ cur.take (n * 1), v.oneCell' = true)) :
    Calls Tryz.prog 121 #[.slice (some ⟨g, 0, none⟩) n c, .int .i64 i, .int .i64 j] w fun e w' => e = .returned (.slice (some ⟨g, 0, none⟩) (n - 1) c) ∧
      Hid (w'.heap[g]? = some (.cells (splice (splice cur (i * 1) ((cur.drop (j * 1)).take ((n - j) * 1))) ((n - 1) * 1) [.pointer none]).toArray 44 (0, 0))) ∧ Hid (w.grownBy w' (some g)) := by
  have q1 : ((i : Int) == (j : Int)) = false := by rw [beq_eq_false_iff_ne]; omega
  have qa : ¬ j < i := by omega
  have qb : j ≤ n := by omega
  have qc : i ≤ j := by omega
  have qd : i ≤ n := by omega
  have qe : i ≤ c := by omega
  have qg : j ≤ c := by omega
  have qs : i + (n - j) = n - 1 := by have := hij.out; omega
  have qt : n - 1 ≤ n := by omega
  have qu : n - 1 ≤ c := by omega
  have qv : ¬ c = n - 1 := by omega
  have qw : n - (n - 1) = 1 := by omega
  have qx : ¬ c = i := by omega
  go_enter Tryz.func121, Tryz.ntmps121
  go_upto_region 5 with fail
  have hg1 : Hid (w.drew.heap[g]? = some (.cells cur.toArray 44 (0, 0))) := hg.out
  have hcl : ((cur.drop (j * 1)).take ((n - j) * 1)).length = (n - j) * 1 := by rw [List.length_take, List.length_drop, hcur]; apply Nat.min_eq_left; omega
  have hsrc : ∀ k v, ((cur.drop (j * 1)).take ((n - j) * 1))[k]? = some v → w.drew.cell? ((⟨g, j * 1, none⟩ : Addr).add k) = some v := fun k v h => by
    refine row_cell hg1.out _ _ ?_
    rw [List.getElem?_take] at h
    split at h
    · rw [List.getElem?_drop] at h; exact h
    · cases h
  have hone : ∀ v ∈ ((cur.drop (j * 1)).take ((n - j) * 1)), v.oneCell' = true := fun v hv => ho.out v (mem_seg (by omega) hv)
  obtain ⟨w2, hap, hg2, hr2⟩ := ex_append_row (P := Tryz.prog) w.drew 46 46 44 1 Tryz.underlying46 (by kernel_rfl) g i c cur hg1 ⟨g, j * 1, none⟩ (n - j) (c - j) ((cur.drop (j * 1)).take ((n - j) * 1)) hcl hsrc hone (by omega) (by rw [hcl, hcur]; omega)
  clear hsrc hone
  rw [qs] at hap
  have hl2 : (splice cur (i * 1) ((cur.drop (j * 1)).take ((n - j) * 1))).length = c * 1 := by rw [length_splice _ _ _ (by rw [hcl, hcur]; omega)]; exact hcur
  obtain ⟨w3, hcr, hg3, hr3⟩ := ex_clear_1 (P := Tryz.prog) w2 46 0 44 g ((n - 1) * 1) (c - (n - 1)) _ _ _ [.pointer none] Tryz.underlying46 Tryz.zeroValue44 rfl hg2 (by rw [hl2]; simp; omega) (by simp [Value.oneCell'])
  have hr : Hid (w.grownBy w3 (some g)) := (show w.grownBy w.drew (some g) from ⟨rfl, rfl, rfl, Nat.le_refl _, fun _ _ _ => rfl⟩).trans (hr2.out.trans hr3.out)
  skip
  clear hg1 hg2 hr2 hr3 hl2 hcl
  try simp only [Nat.mul_one] at hap hcr
  refine region_J (fun _ => True) 7 (by kernel_rfl) ?_
  refine JT 0 (v := ?vak0) trivial ?yak0 ?rak0
  case yak0 => (intro w hSw; obtain _ := hSw; (go_simp; with_reducible rfl))
  simp only [Act.put, lyA, lyB, lyC, lyD, lyE, lyF]
  refine JT 1 (v := ?vak1) trivial ?yak1 ?rak1
  case yak1 => (intro w hSw; obtain _ := hSw; (go_simp; with_reducible rfl))
  simp only [Act.put, lyA, lyB, lyC, lyD, lyE, lyF]
  refine JT 2 (v := ?vak2) trivial ?yak2 ?rak2
  case yak2 => (intro w hSw; obtain _ := hSw; (go_simp; with_reducible rfl))
  simp only [Act.put, lyA, lyB, lyC, lyD, lyE, lyF]
  refine JT 3 (v := ?vak3) trivial ?yak3 ?rak3
  case yak3 => (intro w hSw; obtain _ := hSw; (go_simp; with_reducible rfl))
  simp only [Act.put, lyA, lyB, lyC, lyD, lyE, lyF]
  refine JT 4 (v := ?vak4) trivial ?yak4 ?rak4
  case yak4 => (intro w hSw; obtain _ := hSw; (go_simp; with_reducible rfl))
  simp only [Act.put, lyA, lyB, lyC, lyD, lyE, lyF]
  refine JT 5 (v := ?vak5) trivial ?yak5 ?rak5
  case yak5 => (intro w hSw; obtain _ := hSw; (go_simp; with_reducible rfl))
  simp only [Act.put, lyA, lyB, lyC, lyD, lyE, lyF]
  refine J_one 6 rfl (by kernel_rfl) (fun K hK => ?_)
  refine step_run rfl _ (ex_append _ _ _ _ rfl _ _ rfl rfl _ hap) ?_
  refine hK _ _ ⟨fun _ => trivial, ?_⟩
  clear hK K hap
  simp only [Act.put, lyA, lyB, lyC, lyD, lyE, lyF]
  refine J_one 7 rfl (by kernel_rfl) (fun K hK => ?_)
  go_simp
  refine hK _ _ ⟨fun h => absurd rfl h, ?_⟩
  clear hK K
  refine J_done (by kernel_rfl) (OnlyOn.normal ?_)
  go_wp2
  go_ret
  exact ⟨rfl, hg3, hr⟩
theorem delB_K (g n i j : Nat) (cur : List Value) (w : World) (hij : Hid (j = i + 1)) (hlt : i < j) (hj : j = n) (hc : n ≤ 9223372036854775807) (hn2 : n ≤ 1000000) (hcur : cur.length = n * 1)
    (hg : Hid (w.heap[g]? = some (.cells cur.toArray 44 (0, 0)))) (ho : Hid (∀ v ∈ cur.take (n * 1), v.oneCell' = true)) :
    Calls Tryz.prog 121 #[.slice (some ⟨g, 0, none⟩) n n, .int .i64 i, .int .i64 j] w fun e w' => e = .returned (.slice (some ⟨g, 0, none⟩) (n - 1) n) ∧
      Hid (w'.heap[g]? = some (.cells (splice (splice cur (i * 1) ((cur.drop (j * 1)).take ((n - j) * 1))) ((n - 1) * 1) [.pointer none]).toArray 44 (0, 0))) ∧ Hid (w.grownBy w' (some g)) := by
  obtain rfl := hj
  have q1 : ((i : Int) == (j : Int)) = false := by rw [beq_eq_false_iff_ne]; omega
  have qa : ¬ j < i := by omega
  have qb : j ≤ j := by omega
  have qc : i ≤ j := by omega
  have qd : i ≤ j := by omega
  have qe : i ≤ j := by omega
  have qg : j ≤ j := by omega
  have qs : i + (j - j) = j - 1 := by have := hij.out; omega
  have qt : j - 1 ≤ j := by omega
  have qu : j - 1 ≤ j := by omega
  have qv : ¬ j = j - 1 := by omega
  have qw : j - (j - 1) = 1 := by omega
  have qx : ¬ j = i := by omega
  go_enter Tryz.func121, Tryz.ntmps121
  go_upto_region 5 with fail
  have hg1 : Hid (w.drew.heap[g]? = some (.cells cur.toArray 44 (0, 0))) := hg.out
  have hcl : ((cur.drop (j * 1)).take ((j - j) * 1)).length = (j - j) * 1 := by rw [List.length_take, List.length_drop, hcur]; apply Nat.min_eq_left; omega
  have hnil : (cur.drop (j * 1)).take ((j - j) * 1) = [] := by rw [Nat.sub_self, Nat.zero_mul, List.take_zero]
  obtain ⟨w2, hap, hg2, hr2⟩ := ex_append_row (P := Tryz.prog) w.drew 46 46 44 1 Tryz.underlying46 (by kernel_rfl) g i j cur hg1 ⟨g, 0, none⟩ (j - j) (j - j) ((cur.drop (j * 1)).take ((j - j) * 1)) hcl (fun k v h => by rw [hnil] at h; simp at h) (fun v h => by rw [hnil] at h; cases h) (by omega) (by rw [hcl, hcur]; omega)
  rw [qs] at hap
  rw [Nat.sub_self] at hap
  have hl2 : (splice cur (i * 1) ((cur.drop (j * 1)).take ((j - j) * 1))).length = j * 1 := by rw [length_splice _ _ _ (by rw [hcl, hcur]; omega)]; exact hcur
  obtain ⟨w3, hcr, hg3, hr3⟩ := ex_clear_1 (P := Tryz.prog) w2 46 0 44 g ((j - 1) * 1) (j - (j - 1)) _ _ _ [.pointer none] Tryz.underlying46 Tryz.zeroValue44 rfl hg2 (by rw [hl2]; simp; omega) (by simp [Value.oneCell'])
  have hr : Hid (w.grownBy w3 (some g)) := (show w.grownBy w.drew (some g) from ⟨rfl, rfl, rfl, Nat.le_refl _, fun _ _ _ => rfl⟩).trans (hr2.out.trans hr3.out)
  rw [qw] at hcr
  clear hg1 hg2 hr2 hr3 hl2 hcl
  try simp only [Nat.mul_one] at hap hcr
  refine region_J (fun _ => True) 7 (by kernel_rfl) ?_
  refine JT 0 (v := ?vak0) trivial ?yak0 ?rak0
  case yak0 => (intro w hSw; obtain _ := hSw; (go_simp; with_reducible rfl))
  simp only [Act.put, lyA, lyB, lyC, lyD, lyE, lyF]
  refine JT 1 (v := ?vak1) trivial ?yak1 ?rak1
  case yak1 => (intro w hSw; obtain _ := hSw; (go_simp; with_reducible rfl))
  simp only [Act.put, lyA, lyB, lyC, lyD, lyE, lyF]
  refine JT 2 (v := ?vak2) trivial ?yak2 ?rak2
  case yak2 => (intro w hSw; obtain _ := hSw; (go_simp; with_reducible rfl))
  simp only [Act.put, lyA, lyB, lyC, lyD, lyE, lyF]
  refine JT 3 (v := ?vak3) trivial ?yak3 ?rak3
  case yak3 => (intro w hSw; obtain _ := hSw; (go_simp; with_reducible rfl))
  simp only [Act.put, lyA, lyB, lyC, lyD, lyE, lyF]
  refine JT 4 (v := ?vak4) trivial ?yak4 ?rak4
  case yak4 => (intro w hSw; obtain _ := hSw; (go_simp; with_reducible rfl))
  simp only [Act.put, lyA, lyB, lyC, lyD, lyE, lyF]
  refine JT 5 (v := ?vak5) trivial ?yak5 ?rak5
  case yak5 => (intro w hSw; obtain _ := hSw; (go_simp; with_reducible rfl))
  simp only [Act.put, lyA, lyB, lyC, lyD, lyE, lyF]
  refine J_one 6 rfl (by kernel_rfl) (fun K hK => ?_)
  refine step_run rfl _ (ex_append _ _ _ _ rfl _ _ rfl rfl _ hap) ?_
  refine hK _ _ ⟨fun _ => trivial, ?_⟩
  clear hK K hap
  simp only [Act.put, lyA, lyB, lyC, lyD, lyE, lyF]
  refine J_one 7 rfl (by kernel_rfl) (fun K hK => ?_)
  go_simp
  refine hK _ _ ⟨fun h => absurd rfl h, ?_⟩
  clear hK K
  refine J_done (by kernel_rfl) (OnlyOn.normal ?_)
  go_wp2
  go_ret
  exact ⟨rfl, hg3, hr⟩
open Go.RowKit Go.Shelf
theorem del_N (n i : Nat) (v : Value) (xs : List Value) (w : World) (hi : i < n) (hn : n ≤ 1000000) (hown : w.ownsRow 0 65 2 v n xs) (h1 : ∀ u ∈ xs, u.oneCell' = true) :
    Calls Tryz.prog 51 #[v, .int .i64 i, .int .i64 ((i + 1 : Nat) : Int)] w fun e w' => ∃ v', e = .returned v' ∧ w'.ownsRow 0 65 2 v' (n - 1) (xs.take (i * 2) ++ xs.drop ((i + 1) * 2)) ∧ Rw v v' w w' := by
  have hxl : xs.length = n * 2 := hown.1
  obtain ⟨g, c, cur, rfl, hg, hnc, hc, hl, ht⟩ := row_open hown (by omega)
  have e1 : cur.take (i * 2) = xs.take (i * 2) := by rw [← ht, List.take_take, Nat.min_eq_left (by omega)]
  have e2 : (cur.drop ((i + 1) * 2)).take ((n - (i + 1)) * 2) = xs.drop ((i + 1) * 2) := by
    rw [← ht, List.drop_take]
    congr 1
    omega
  have hcl : (xs.drop ((i + 1) * 2)).length = (n - (i + 1)) * 2 := by rw [List.length_drop, hxl]; omega
  have hlen : (xs.take (i * 2) ++ xs.drop ((i + 1) * 2)).length = (n - 1) * 2 := by rw [List.length_append, List.length_take, hcl, hxl]; omega
  have hs1 : (splice cur (i * 2) (xs.drop ((i + 1) * 2))).length = c * 2 := by rw [length_splice _ _ _ (by rw [hcl, hl]; omega)]; exact hl
  have hend : ∀ zs : List Value, zs.length = 2 → (splice (splice cur (i * 2) (xs.drop ((i + 1) * 2))) ((n - 1) * 2) zs).length = c * 2 ∧ (splice (splice cur (i * 2) (xs.drop ((i + 1) * 2))) ((n - 1) * 2) zs).take ((n - 1) * 2) = xs.take (i * 2) ++ xs.drop ((i + 1) * 2) := fun zs hz => by
    refine ⟨by rw [length_splice _ _ _ (by rw [hs1, hz]; omega)]; exact hs1, ?_⟩
    have t1 : ∀ L : List Value, (n - 1) * 2 ≤ L.length → (splice L ((n - 1) * 2) zs).take ((n - 1) * 2) = L.take ((n - 1) * 2) := fun L hL => by
      unfold splice
      exact List.take_left' (by rw [List.length_take]; omega)
    rw [t1 _ (by rw [hs1]; omega)]
    unfold splice
    rw [e1]
    first
      | rw [← List.append_assoc, List.take_left' hlen]
      | rw [List.take_left' hlen]
  by_cases hcj : c = i + 1
  · obtain rfl : n = c := by omega
    refine (delB_N g n i (i + 1) cur w rfl (by omega) hcj.symm hc hn hl hg (by rw [ht]; exact h1)).mono ?_
    rintro e w' ⟨rfl, h2, h3⟩
    rw [e2] at h2
    exact ⟨_, rfl, row_shut h2.out (by omega) hc (hend _ rfl).1 hlen (hend _ rfl).2, h3.out, .inl rfl⟩
  · refine (delA_N g n c i (i + 1) cur w rfl (by omega) (by omega) hnc hcj hc hn hl hg (by rw [ht]; exact h1)).mono ?_
    rintro e w' ⟨rfl, h2, h3⟩
    rw [e2] at h2
    exact ⟨_, rfl, row_shut h2.out (by omega) hc (hend _ rfl).1 hlen (hend _ rfl).2, h3.out, .inl rfl⟩
theorem del_K (n i : Nat) (v : Value) (xs : List Value) (w : World) (hi : i < n) (hn : n ≤ 1000000) (hown : w.ownsRow 0 44 1 v n xs) (h1 : ∀ u ∈ xs, u.oneCell' = true) :
    Calls Tryz.prog 121 #[v, .int .i64 i, .int .i64 ((i + 1 : Nat) : Int)] w fun e w' => ∃ v', e = .returned v' ∧ w'.ownsRow 0 44 1 v' (n - 1) (xs.take (i * 1) ++ xs.drop ((i + 1) * 1)) ∧ Rw v v' w w' := by
  have hxl : xs.length = n * 1 := hown.1
  obtain ⟨g, c, cur, rfl, hg, hnc, hc, hl, ht⟩ := row_open hown (by omega)
  have e1 : cur.take (i * 1) = xs.take (i * 1) := by rw [← ht, List.take_take, Nat.min_eq_left (by omega)]
  have e2 : (cur.drop ((i + 1) * 1)).take ((n - (i + 1)) * 1) = xs.drop ((i + 1) * 1) := by
    rw [← ht, List.drop_take]
    congr 1
    omega
  have hcl : (xs.drop ((i + 1) * 1)).length = (n - (i + 1)) * 1 := by rw [List.length_drop, hxl]; omega
  have hlen : (xs.take (i * 1) ++ xs.drop ((i + 1) * 1)).length = (n - 1) * 1 := by rw [List.length_append, List.length_take, hcl, hxl]; omega
  have hs1 : (splice cur (i * 1) (xs.drop ((i + 1) * 1))).length = c * 1 := by rw [length_splice _ _ _ (by rw [hcl, hl]; omega)]; exact hl
  have hend : ∀ zs : List Value, zs.length = 1 → (splice (splice cur (i * 1) (xs.drop ((i + 1) * 1))) ((n - 1) * 1) zs).length = c * 1 ∧ (splice (splice cur (i * 1) (xs.drop ((i + 1) * 1))) ((n - 1) * 1) zs).take ((n - 1) * 1) = xs.take (i * 1) ++ xs.drop ((i + 1) * 1) := fun zs hz => by
    refine ⟨by rw [length_splice _ _ _ (by rw [hs1, hz]; omega)]; exact hs1, ?_⟩
    have t1 : ∀ L : List Value, (n - 1) * 1 ≤ L.length → (splice L ((n - 1) * 1) zs).take ((n - 1) * 1) = L.take ((n - 1) * 1) := fun L hL => by
      unfold splice
      exact List.take_left' (by rw [List.length_take]; omega)
    rw [t1 _ (by rw [hs1]; omega)]
    unfold splice
    rw [e1]
    first
      | rw [← List.append_assoc, List.take_left' hlen]
      | rw [List.take_left' hlen]
  by_cases hcj : c = i + 1
  · obtain rfl : n = c := by omega
    refine (delB_K g n i (i + 1) cur w rfl (by omega) hcj.symm hc hn hl hg (by rw [ht]; exact h1)).mono ?_
    rintro e w' ⟨rfl, h2, h3⟩
    rw [e2] at h2
    exact ⟨_, rfl, row_shut h2.out (by omega) hc (hend _ rfl).1 hlen (hend _ rfl).2, h3.out, .inl rfl⟩
  · refine (delA_K g n c i (i + 1) cur w rfl (by omega) (by omega) hnc hcj hc hn hl hg (by rw [ht]; exact h1)).mono ?_
    rintro e w' ⟨rfl, h2, h3⟩
    rw [e2] at h2
    exact ⟨_, rfl, row_shut h2.out (by omega) hc (hend _ rfl).1 hlen (hend _ rfl).2, h3.out, .inl rfl⟩
open Go.RowKit Go.Shelf
theorem clone_N (A : Option Addr) (n c : Nat) (xs : List Value) (w : World) (hn : n ≤ 1000000) (hr : Rd w 2 A n c xs) (h1 : ∀ u ∈ xs, u.oneCell' = true) :
    Calls Tryz.prog 82 #[.slice A n c] w fun e w' => ∃ v', e = .returned v' ∧ w'.ownsRow w.heap.size 65 2 v' n xs ∧ Ext w w' := by
  obtain ⟨i0, hi, hz0, hz1, hz2⟩ := info_parts infoN
  have hnil := fun w => Lib.run_eql_slice_nil (P := Tryz.prog) w 45 65 A n c 0 0 Tryz.underlying45
  rcases A with _ | ad
  · have h0 : n = 0 := by
      rcases Nat.eq_zero_or_pos n with h | h
      · exact h
      · obtain ⟨_, e, _⟩ := hr.2.2.2 h; cases e
    subst h0
    have hx : xs = [] := List.eq_nil_of_length_eq_zero (by have := hr.1; omega)
    subst hx
    clear hr hn
    go_enter Tryz.func82, Tryz.ntmps82
    go_wp2
    go_ret
    exact ⟨_, rfl, World.ownsRow_nil _ _ _ _, Ext.refl _⟩
  · have Ho : Hid ((w.alloc (.cells #[] 65)).ownsRow w.heap.size 65 2 (.slice (some ⟨w.heap.size, 0, none⟩) 0 0) 0 []) := World.ownsRow_lit w #[] 0 (Nat.le_refl _) (by decide) rfl
    replace h1 := hid h1
    go_enter Tryz.func82, Tryz.ntmps82
    go_wp2_with (at_builtin; refine wpList_appendAny _ rfl _ _ 45 rfl w.heap.size 65 i0 _ 2 24 Tryz.underlying45 hi hz0 hz1 hz2 rfl (by decide) _ _ _ rfl Ho.out _ _ _ _ rfl (hr.alloc _) h1.out (by unfold maxLen; omega) (by omega) (by simp) ?_)
    intro v' w1 own1 hg1
    have hb1 : Hid (Ext w w1) := Below.grown ((Below.refl _ _).alloc (Nat.le_refl _) _) hg1 (by simp) (fun k hk => by simp [Value.ownBlock] at hk; omega)
    clear hg1
    try simp only [List.nil_append, Nat.zero_add] at own1
    replace own1 := hid own1
    go_wp2
    go_ret
    exact ⟨_, rfl, own1.out, hb1.out⟩
theorem clone_K (A : Option Addr) (n c : Nat) (xs : List Value) (w : World) (hn : n ≤ 1000000) (hr : Rd w 1 A n c xs) (h1 : ∀ u ∈ xs, u.oneCell' = true) :
    Calls Tryz.prog 83 #[.slice A n c] w fun e w' => ∃ v', e = .returned v' ∧ w'.ownsRow w.heap.size 44 1 v' n xs ∧ Ext w w' := by
  obtain ⟨i0, hi, hz0, hz1, hz2⟩ := info_parts infoK
  have hnil := fun w => Lib.run_eql_slice_nil (P := Tryz.prog) w 46 44 A n c 0 0 Tryz.underlying46
  rcases A with _ | ad
  · have h0 : n = 0 := by
      rcases Nat.eq_zero_or_pos n with h | h
      · exact h
      · obtain ⟨_, e, _⟩ := hr.2.2.2 h; cases e
    subst h0
    have hx : xs = [] := List.eq_nil_of_length_eq_zero (by have := hr.1; omega)
    subst hx
    clear hr hn
    go_enter Tryz.func83, Tryz.ntmps83
    go_wp2
    go_ret
    exact ⟨_, rfl, World.ownsRow_nil _ _ _ _, Ext.refl _⟩
  · have Ho : Hid ((w.alloc (.cells #[] 44)).ownsRow w.heap.size 44 1 (.slice (some ⟨w.heap.size, 0, none⟩) 0 0) 0 []) := World.ownsRow_lit w #[] 0 (Nat.le_refl _) (by decide) rfl
    replace h1 := hid h1
    go_enter Tryz.func83, Tryz.ntmps83
    go_wp2_with (at_builtin; refine wpList_appendAny _ rfl _ _ 46 rfl w.heap.size 44 i0 _ 1 8 Tryz.underlying46 hi hz0 hz1 hz2 rfl (by decide) _ _ _ rfl Ho.out _ _ _ _ rfl (hr.alloc _) h1.out (by unfold maxLen; omega) (by omega) (by simp) ?_)
    intro v' w1 own1 hg1
    have hb1 : Hid (Ext w w1) := Below.grown ((Below.refl _ _).alloc (Nat.le_refl _) _) hg1 (by simp) (fun k hk => by simp [Value.ownBlock] at hk; omega)
    clear hg1
    try simp only [List.nil_append, Nat.zero_add] at own1
    replace own1 := hid own1
    go_wp2
    go_ret
    exact ⟨_, rfl, own1.out, hb1.out⟩
open Go.RowKit Go.Shelf
theorem tents_take : ∀ (l : List Te) (k : Nat), (tents l).take (k * 2) = tents (l.take k)
  | [], k => by simp [tents]
  | x :: l, 0 => by simp [tents]
  | x :: l, k + 1 => by
    rw [tents, List.take_succ_cons, tents, ← tents_take l k, List.take_append]
    rw [List.take_of_length_le (by simp [tcells]; omega)]
    congr 2
    simp [tcells]
    omega
theorem tents_drop : ∀ (l : List Te) (k : Nat), (tents l).drop (k * 2) = tents (l.drop k)
  | [], k => by simp [tents]
  | x :: l, 0 => by simp
  | x :: l, k + 1 => by
    rw [tents, List.drop_succ_cons, ← tents_drop l k, List.drop_append]
    rw [List.drop_of_length_le (by simp [tcells]; omega), List.nil_append]
    congr 1
    simp [tcells]
    omega
theorem lit_add (g o j : Nat) : (⟨g, o, none⟩ : Addr).add j = ⟨g, o + j, none⟩ := by unfold Addr.add; split <;> simp_all
theorem Rd.sub {w : World} {k n c a b g : Nat} {xs : List Value} (h : Rd w k (some ⟨g, 0, none⟩) n c xs) (hab : a ≤ b) (hb : b ≤ n) : Rd w k (some ⟨g, a * k, none⟩) (b - a) (c - a) ((xs.drop (a * k)).take ((b - a) * k)) := by
  have h1 := h.1
  have h2 := h.2.1
  have hbk : b * k ≤ n * k := Nat.mul_le_mul_right k hb
  have hak : a * k ≤ b * k := Nat.mul_le_mul_right k hab
  have hs : (b - a) * k = b * k - a * k := Nat.sub_mul b a k
  refine ⟨by rw [List.length_take, List.length_drop, h1, hs]; omega, by omega, by have := h.2.2.1; omega, fun h0 => ?_⟩
  obtain ⟨ad, e, hc⟩ := h.2.2.2 (by omega)
  obtain rfl := Option.some.inj e
  refine ⟨_, rfl, fun j u hu => ?_⟩
  rw [List.getElem?_take] at hu
  split at hu
  · rw [List.getElem?_drop] at hu
    have := hc _ _ hu
    rw [lit_add] at this ⊢
    rw [Nat.zero_add] at this
    exact this
  · cases hu
theorem Rd.takeK {w : World} {k n c m : Nat} {A : Option Addr} {xs : List Value} (h : Rd w k A n c xs) (hm : m ≤ n) : Rd w k A m c (xs.take (m * k)) :=
  ⟨by rw [List.length_take, h.1]; exact Nat.min_eq_left (Nat.mul_le_mul_right k hm), Nat.le_trans hm h.2.1, h.2.2.1, fun h0 => by
    obtain ⟨ad, e, hc⟩ := h.2.2.2 (by omega)
    exact ⟨ad, e, fun j u hu => hc j u (by rw [List.getElem?_take] at hu; split at hu; exact hu; cases hu)⟩⟩
theorem heap_set_other {w : World} {b p : Nat} {o : Option Obj} (h : w.heap[p]? = o) (hne : b ≠ p) (j : Nat) (u : Value) : (w.setCell ⟨b, j, none⟩ u).heap[p]? = o := by
  rw [← h]; simp [World.setCell, Array.getElem?_modify, hne]
theorem node_set0 {w : World} {p : Nat} {a b : Value} (h : w.heap[p]? = some (.cells #[a, b] 48 (0, 0))) (u : Value) : (w.setCell ⟨p, 0, none⟩ u).heap[p]? = some (.cells #[u, b] 48 (0, 0)) := by
  simp [World.setCell, Array.getElem?_modify, h]
theorem node_set1 {w : World} {p : Nat} {a b : Value} (h : w.heap[p]? = some (.cells #[a, b] 48 (0, 0))) (u : Value) : (w.setCell ⟨p, 1, none⟩ u).heap[p]? = some (.cells #[a, u] 48 (0, 0)) := by
  simp [World.setCell, Array.getElem?_modify, h]
theorem node_c0 {w : World} {p : Nat} {a b : Value} (h : w.heap[p]? = some (.cells #[a, b] 48 (0, 0))) : w.cell? ⟨p, 0, none⟩ = some a := by rw [Lib.cell_of_heap h]; rfl
theorem node_c1 {w : World} {p : Nat} {a b : Value} (h : w.heap[p]? = some (.cells #[a, b] 48 (0, 0))) : w.cell? ⟨p, 1, none⟩ = some b := by rw [Lib.cell_of_heap h]; rfl
structure Tri (f : Nat → Nat) (w W : World) (p q r : Nat) (lv kv lq kq lr kr : Value) (nl nk ml mk tl tk : Nat) (xl xk yl yk zl zk : List Value) : Prop where
  hp : W.heap[p]? = some (.cells #[lv, kv] 48 (0, 0))
  hq : W.heap[q]? = some (.cells #[lq, kq] 48 (0, 0))
  hr : W.heap[r]? = some (.cells #[lr, kr] 48 (0, 0))
  o1 : W.ownsRow 0 65 2 lv nl xl
  o2 : W.ownsRow 0 44 1 kv nk xk
  o3 : W.ownsRow 0 65 2 lq ml yl
  o4 : W.ownsRow 0 44 1 kq mk yk
  o5 : W.ownsRow 0 65 2 lr tl zl
  o6 : W.ownsRow 0 44 1 kr tk zk
  nd : ∀ a, one1 p a + ob lv a + ob kv a + one1 q a + ob lq a + ob kq a + one1 r a + ob lr a + ob kr a ≤ 1
  fr : FR f w W
  le : ∀ a, a < w.heap.size → one1 p a + ob lv a + ob kv a + one1 q a + ob lq a + ob kq a + one1 r a + ob lr a + ob kr a ≤ f a
theorem own_ne {W W' : World} {b s n : Nat} {t : TypeId} {v : Value} {xs : List Value} {row : Option Nat} (h : W.ownsRow b t s v n xs) (hg : W.grownBy W' row) (hne : ∀ k, v.ownBlock = some k → row ≠ some k) : W'.ownsRow b t s v n xs := by
  refine ⟨h.1, ?_⟩
  rcases h.2 with h2 | ⟨g', cap, cur, rfl, f2, f3, f4⟩
  · exact .inl h2
  · exact .inr ⟨g', cap, cur, rfl, f2, (hg.block g' (Array.getElem?_eq_some_iff.1 f3).1 (fun e => hne g' rfl e.symm)).trans f3, f4⟩
section
variable {f : Nat → Nat} {w W W' : World} {p q r : Nat} {lv kv lq kq lr kr v' : Value} {nl nk ml mk tl tk n' : Nat} {xl xk yl yk zl zk xs' : List Value}
theorem Tri.rot (h : Tri f w W p q r lv kv lq kq lr kr nl nk ml mk tl tk xl xk yl yk zl zk) : Tri f w W q r p lq kq lr kr lv kv ml mk tl tk nl nk yl yk zl zk xl xk :=
  ⟨h.hq, h.hr, h.hp, h.o3, h.o4, h.o5, h.o6, h.o1, h.o2, fun a => by have := h.nd a; omega, h.fr, fun a ha => by have := h.le a ha; omega⟩
theorem Tri.ext (h : Tri f w W p q r lv kv lq kq lr kr nl nk ml mk tl tk xl xk yl yk zl zk) (hx : Ext W W') : Tri f w W' p q r lv kv lq kq lr kr nl nk ml mk tl tk xl xk yl yk zl zk :=
  ⟨(hx.block (Array.getElem?_eq_some_iff.1 h.hp).1).trans h.hp, (hx.block (Array.getElem?_eq_some_iff.1 h.hq).1).trans h.hq, (hx.block (Array.getElem?_eq_some_iff.1 h.hr).1).trans h.hr, hx.own h.o1, hx.own h.o2, hx.own h.o3, hx.own h.o4, hx.own h.o5, hx.own h.o6, h.nd, h.fr.trans (FR.of_ext (f := f) hx) (fun _ _ h => h), h.le⟩
theorem fr_step {f : Nat → Nat} {w W W' : World} {row : Option Nat} {p : Nat} (h : FR f w W) (hg : W.grownBy W' row) (hrow : ∀ k, row = some k → k < w.heap.size → f k ≠ 0) (hp : p < w.heap.size → f p ≠ 0) (j : Nat) (u : Value) : FR f w (W'.setCell ⟨p, j, none⟩ u) := by
  obtain ⟨a1, a2, a3, a4, a5⟩ := h
  refine ⟨a1.trans hg.os.symm, a2.trans hg.tape.symm, a3.trans hg.output.symm, by have := hg.size; simp; omega, fun k hk h0 => ?_⟩
  have hkp : p ≠ k := fun e => hp (e ▸ hk) (e ▸ h0)
  have e1 : (W'.setCell ⟨p, j, none⟩ u).heap[k]? = W'.heap[k]? := by simp [World.setCell, Array.getElem?_modify, hkp]
  rw [e1, hg.block k (by omega) (fun e => hrow k e.symm hk h0)]
  exact a5 k hk h0
theorem own_bound {W : World} {b s n : Nat} {t : TypeId} {v : Value} {xs : List Value} (h : W.ownsRow b t s v n xs) {a : Nat} (ha : W.heap.size ≤ a) : ob v a = 0 := if_neg (fun e => by have := (h.lt a e).2; omega)
theorem one_bound {W : World} {p : Nat} {o : Obj} (h : W.heap[p]? = some o) {a : Nat} (ha : W.heap.size ≤ a) : one1 p a = 0 := if_neg (fun e => by have := (Array.getElem?_eq_some_iff.1 h).1; omega)
theorem ob_same {u v : Value} (h : u.ownBlock = v.ownBlock) (a : Nat) : ob u a = ob v a := by unfold ob; rw [h]
theorem Tri.rep0 (h : Tri f w W p q r lv kv lq kq lr kr nl nk ml mk tl tk xl xk yl yk zl zk) (hg : W.grownBy W' lv.ownBlock) (ho : W'.ownsRow 0 65 2 v' n' xs') (hv : v'.ownBlock = lv.ownBlock ∨ ∀ k, v'.ownBlock = some k → W.heap.size ≤ k) :
    Tri f w (W'.setCell ⟨p, 0, none⟩ v') p q r v' kv lq kq lr kr n' nk ml mk tl tk xs' xk yl yk zl zk := by
  have hsz := h.fr.2.2.2.1
  have hv'p : v'.ownBlock ≠ some p := fun e => by
    rcases hv with h1 | h1
    · have := h.nd p; rw [ob_some (v := lv) (h1.symm.trans e), one_self] at this; omega
    · have := h1 p e; have := (Array.getElem?_eq_some_iff.1 h.hp).1; omega
  have bp := (hg.block p (Array.getElem?_eq_some_iff.1 h.hp).1 (fun e0 => by have := h.nd p; rw [ob_some e0.symm, one_self] at this; omega)).trans h.hp
  have bq := (hg.block q (Array.getElem?_eq_some_iff.1 h.hq).1 (fun e0 => by have := h.nd q; rw [ob_some e0.symm, one_self] at this; omega)).trans h.hq
  have br := (hg.block r (Array.getElem?_eq_some_iff.1 h.hr).1 (fun e0 => by have := h.nd r; rw [ob_some e0.symm, one_self] at this; omega)).trans h.hr
  have hpq : p ≠ q := fun e => by have := h.nd p; rw [one_self, show one1 q p = 1 from e ▸ one_self p] at this; omega
  have hpr : p ≠ r := fun e => by have := h.nd p; rw [one_self, show one1 r p = 1 from e ▸ one_self p] at this; omega
  refine ⟨node_set0 bp _, heap_set_other bq hpq 0 _, heap_set_other br hpr 0 _, own_set ho hv'p 0 _, own_set (own_ne h.o2 hg (fun k e e2 => by have := h.nd k; rw [ob_some e, ob_some e2] at this; omega)) (fun e => by have := h.nd p; rw [ob_some e, one_self] at this; omega) 0 _, own_set (own_ne h.o3 hg (fun k e e2 => by have := h.nd k; rw [ob_some e, ob_some e2] at this; omega)) (fun e => by have := h.nd p; rw [ob_some e, one_self] at this; omega) 0 _, own_set (own_ne h.o4 hg (fun k e e2 => by have := h.nd k; rw [ob_some e, ob_some e2] at this; omega)) (fun e => by have := h.nd p; rw [ob_some e, one_self] at this; omega) 0 _, own_set (own_ne h.o5 hg (fun k e e2 => by have := h.nd k; rw [ob_some e, ob_some e2] at this; omega)) (fun e => by have := h.nd p; rw [ob_some e, one_self] at this; omega) 0 _, own_set (own_ne h.o6 hg (fun k e e2 => by have := h.nd k; rw [ob_some e, ob_some e2] at this; omega)) (fun e => by have := h.nd p; rw [ob_some e, one_self] at this; omega) 0 _, fun a => ?_, ?_, fun a ha => ?_⟩
  · have hn := h.nd a
    rcases hv with h1 | h1
    · rw [ob_same h1]; exact hn
    · by_cases hs : a < W.heap.size
      · rw [show ob v' a = 0 from if_neg (fun e => by have := h1 a e; omega)]; omega
      · rw [one_bound h.hp (Nat.le_of_not_lt hs), one_bound h.hq (Nat.le_of_not_lt hs), one_bound h.hr (Nat.le_of_not_lt hs), own_bound h.o2 (Nat.le_of_not_lt hs), own_bound h.o3 (Nat.le_of_not_lt hs), own_bound h.o4 (Nat.le_of_not_lt hs), own_bound h.o5 (Nat.le_of_not_lt hs), own_bound h.o6 (Nat.le_of_not_lt hs)]
        have : ob v' a ≤ 1 := by unfold ob; split <;> omega
        omega
  · exact fr_step h.fr hg (fun k e hk h0 => by have := h.le k hk; rw [ob_some e] at this; omega) (fun hk h0 => by have := h.le p hk; rw [one_self] at this; omega) 0 _
  · have hn := h.le a ha
    rcases hv with h1 | h1
    · rw [ob_same h1]; exact hn
    · rw [show ob v' a = 0 from if_neg (fun e => by have := h1 a e; omega)]; omega
theorem Tri.rep1 (h : Tri f w W p q r lv kv lq kq lr kr nl nk ml mk tl tk xl xk yl yk zl zk) (hg : W.grownBy W' kv.ownBlock) (ho : W'.ownsRow 0 44 1 v' n' xs') (hv : v'.ownBlock = kv.ownBlock ∨ ∀ k, v'.ownBlock = some k → W.heap.size ≤ k) :
    Tri f w (W'.setCell ⟨p, 1, none⟩ v') p q r lv v' lq kq lr kr nl n' ml mk tl tk xl xs' yl yk zl zk := by
  have hsz := h.fr.2.2.2.1
  have hv'p : v'.ownBlock ≠ some p := fun e => by
    rcases hv with h1 | h1
    · have := h.nd p; rw [ob_some (v := kv) (h1.symm.trans e), one_self] at this; omega
    · have := h1 p e; have := (Array.getElem?_eq_some_iff.1 h.hp).1; omega
  have bp := (hg.block p (Array.getElem?_eq_some_iff.1 h.hp).1 (fun e0 => by have := h.nd p; rw [ob_some e0.symm, one_self] at this; omega)).trans h.hp
  have bq := (hg.block q (Array.getElem?_eq_some_iff.1 h.hq).1 (fun e0 => by have := h.nd q; rw [ob_some e0.symm, one_self] at this; omega)).trans h.hq
  have br := (hg.block r (Array.getElem?_eq_some_iff.1 h.hr).1 (fun e0 => by have := h.nd r; rw [ob_some e0.symm, one_self] at this; omega)).trans h.hr
  have hpq : p ≠ q := fun e => by have := h.nd p; rw [one_self, show one1 q p = 1 from e ▸ one_self p] at this; omega
  have hpr : p ≠ r := fun e => by have := h.nd p; rw [one_self, show one1 r p = 1 from e ▸ one_self p] at this; omega
  refine ⟨node_set1 bp _, heap_set_other bq hpq 1 _, heap_set_other br hpr 1 _, own_set (own_ne h.o1 hg (fun k e e2 => by have := h.nd k; rw [ob_some e, ob_some e2] at this; omega)) (fun e => by have := h.nd p; rw [ob_some e, one_self] at this; omega) 1 _, own_set ho hv'p 1 _, own_set (own_ne h.o3 hg (fun k e e2 => by have := h.nd k; rw [ob_some e, ob_some e2] at this; omega)) (fun e => by have := h.nd p; rw [ob_some e, one_self] at this; omega) 1 _, own_set (own_ne h.o4 hg (fun k e e2 => by have := h.nd k; rw [ob_some e, ob_some e2] at this; omega)) (fun e => by have := h.nd p; rw [ob_some e, one_self] at this; omega) 1 _, own_set (own_ne h.o5 hg (fun k e e2 => by have := h.nd k; rw [ob_some e, ob_some e2] at this; omega)) (fun e => by have := h.nd p; rw [ob_some e, one_self] at this; omega) 1 _, own_set (own_ne h.o6 hg (fun k e e2 => by have := h.nd k; rw [ob_some e, ob_some e2] at this; omega)) (fun e => by have := h.nd p; rw [ob_some e, one_self] at this; omega) 1 _, fun a => ?_, ?_, fun a ha => ?_⟩
  · have hn := h.nd a
    rcases hv with h1 | h1
    · rw [ob_same h1]; exact hn
    · by_cases hs : a < W.heap.size
      · rw [show ob v' a = 0 from if_neg (fun e => by have := h1 a e; omega)]; omega
      · rw [one_bound h.hp (Nat.le_of_not_lt hs), one_bound h.hq (Nat.le_of_not_lt hs), one_bound h.hr (Nat.le_of_not_lt hs), own_bound h.o1 (Nat.le_of_not_lt hs), own_bound h.o3 (Nat.le_of_not_lt hs), own_bound h.o4 (Nat.le_of_not_lt hs), own_bound h.o5 (Nat.le_of_not_lt hs), own_bound h.o6 (Nat.le_of_not_lt hs)]
        have : ob v' a ≤ 1 := by unfold ob; split <;> omega
        omega
  · exact fr_step h.fr hg (fun k e hk h0 => by have := h.le k hk; rw [ob_some e] at this; omega) (fun hk h0 => by have := h.le p hk; rw [one_self] at this; omega) 1 _
  · have hn := h.le a ha
    rcases hv with h1 | h1
    · rw [ob_same h1]; exact hn
    · rw [show ob v' a = 0 from if_neg (fun e => by have := h1 a e; omega)]; omega
end
end Go.Proofs.YtjjikkhhlpikbaaGreatDoor
