/-
  slices.Insert of one element.
-/
import Derived.Test.YtpijfiaecicpfaaB3
import Derived.Deep.RegionLaw
import Derived.Deep.Cut
import Derived.BigQuiet
namespace Go.Proofs.Ytpijfiaecicpfaa
open Go.RowKit Go.Shelf
set_option linter.unusedVariables false
set_option linter.unusedSimpArgs false
theorem mem_seg {α : Type} {L : List α} {o m N : Nat} (h : o + m ≤ N) {v : α} (hv : v ∈ (L.drop o).take m) : v ∈ L.take N := by
  have e : (L.drop o).take m = (L.take (o + m)).drop o := by rw [List.drop_take]; congr 1; omega
  rw [e] at hv
  have h2 := List.mem_of_mem_drop hv
  have e2 : L.take (o + m) = (L.take N).take (o + m) := by rw [List.take_take, Nat.min_eq_left h]
  rw [e2] at h2
  exact List.mem_of_mem_take h2
theorem shape_row {w : World} {g : Nat} {cur : List Value} {t : TypeId} (hg : w.heap[g]? = some (.cells cur.toArray t (0, 0))) : w.shape? g = some (t, cur.length) := by
  simp [World.shape?, hg]
theorem frozen_row {w : World} {g : Nat} {cur : List Value} {t : TypeId} (hg : w.heap[g]? = some (.cells cur.toArray t (0, 0))) (k : Nat) : w.frozen? ⟨g, k, none⟩ = false := by
  simp [World.frozen?, hg]
theorem seg_src {w : World} {g : Nat} {cur : List Value} {t : TypeId} (hg : w.heap[g]? = some (.cells cur.toArray t (0, 0))) (o m : Nat) : ∀ k v, ((cur.drop o).take m)[k]? = some v → w.cell? ((⟨g, o, none⟩ : Addr).add k) = some v := fun k v h => by
  refine row_cell hg _ _ ?_
  rw [List.getElem?_take] at h
  split at h
  · rw [List.getElem?_drop] at h; exact h
  · cases h
theorem one_seg {cur : List Value} {N : Nat} (h : ∀ v ∈ cur.take N, v.oneCell' = true) (o m : Nat) (hN : o + m ≤ N) : ∀ v ∈ (cur.drop o).take m, v.oneCell' = true := fun v hv => h v (mem_seg hN hv)
theorem of_take {l m : List Value} {n k : Nat} {v : Value} (h : l.take n = m) (hk : m[k]? = some v) : l[k]? = some v := by
  rw [← h, List.getElem?_take] at hk
  split at hk
  · exact hk
  · cases hk
theorem splice_in2 {α : Type} {cur ns cs : List α} {a b : Nat} (hb : a + ns.length = b) (hl : b + cs.length ≤ cur.length) : (splice (splice cur b cs) a ns).take (b + cs.length) = cur.take a ++ (ns ++ cs) := by
  subst hb
  have h1 : (cur.take (a + ns.length)).length = a + ns.length := by rw [List.length_take]; omega
  have h2 : (cur.take a).length = a := by rw [List.length_take]; omega
  have e : splice (splice cur (a + ns.length) cs) a ns = cur.take a ++ (ns ++ (cs ++ cur.drop (a + ns.length + cs.length))) := by
    unfold splice
    rw [List.take_append_of_le_length (by omega), List.take_take, Nat.min_eq_left (by omega), List.drop_left' (by omega)]
  rw [e, ← List.append_assoc, ← List.append_assoc, ← List.append_assoc]
  rw [List.take_left' (by simp only [List.length_append, h2])]
theorem splice_out2 {α : Type} {r ns cs : List α} {a b : Nat} (hb : a + ns.length = b) (hl : b + cs.length ≤ r.length) : (splice (splice r a ns) b cs).take (b + cs.length) = r.take a ++ (ns ++ cs) := by
  subst hb
  have h2 : (r.take a).length = a := by rw [List.length_take]; omega
  have e1 : (splice r a ns).take (a + ns.length) = r.take a ++ ns := by
    unfold splice
    rw [← List.append_assoc, List.take_left' (by rw [List.length_append, h2])]
  have e : splice (splice r a ns) (a + ns.length) cs = (r.take a ++ ns) ++ (cs ++ (splice r a ns).drop (a + ns.length + cs.length)) := by
    rw [← e1]
    rfl
  rw [e, ← List.append_assoc, List.take_left' (by simp only [List.length_append, h2]), List.append_assoc]
/-- A row that is one's own, opened and shut. -/
theorem row_open {w : World} {v : Value} {E : TypeId} {k n : Nat} {xs : List Value} (h : w.ownsRow 0 E k v n xs) (hn : 0 < n) :
    ∃ (g c : Nat) (cur : List Value), v = .slice (some ⟨g, 0, none⟩) n c ∧ w.heap[g]? = some (.cells cur.toArray E (0, 0)) ∧ n ≤ c ∧ c ≤ 9223372036854775807 ∧ cur.length = c * k ∧ cur.take (n * k) = xs := by
  rcases h.2 with ⟨_, h0⟩ | ⟨g, c, cur, rfl, _, hg, hn, hc, hs, ht⟩
  · omega
  · exact ⟨g, c, cur.toList, rfl, by simpa using hg, hn, hc, by simpa using hs, ht⟩
theorem row_shut {w : World} {E : TypeId} {k g n c : Nat} {cur xs : List Value} (hg : w.heap[g]? = some (.cells cur.toArray E (0, 0))) (hn : n ≤ c) (hc : c ≤ 9223372036854775807) (hl : cur.length = c * k) (hx : xs.length = n * k) (ht : cur.take (n * k) = xs) :
    w.ownsRow 0 E k (.slice (some ⟨g, 0, none⟩) n c) n xs :=
  ⟨hx, .inr ⟨g, c, cur.toArray, rfl, Nat.zero_le _, hg, hn, hc, by simpa using hl, by simpa using ht⟩⟩
/-- What has turned where a row is rewritten: its block alone; it lies where it lay, or in new memory. -/
def Rw (v v' : Value) (w w' : World) : Prop := w.grownBy w' v.ownBlock ∧ (v'.ownBlock = v.ownBlock ∨ ∀ k, v'.ownBlock = some k → w.heap.size ≤ k)
theorem Ext.grown {w w' : World} (h : Ext w w') (row : Option Nat) : w.grownBy w' row := ⟨h.os, h.tape, h.output, h.size, fun k hk _ => h.block hk⟩
theorem grown_draw (w : World) (row : Option Nat) : w.grownBy w.drew row := ⟨rfl, rfl, rfl, Nat.le_refl _, fun _ _ _ => rfl⟩
theorem infoN : (Try.prog.info? 71).map (fun i => (i.zero, i.size, i.bytes)) = some (some (.agg #[.string ⟨#[]⟩, .int .i64 0]), 2, 24) := by kernel_rfl
theorem ov_N (w : World) (g va k n c m d : Nat) (cur news : List Value) (hne : g ≠ va) (hg : Hid (w.heap[g]? = some (.cells cur.toArray 71 (0, 0)))) (hv : Hid (w.heap[va]? = some (.cells news.toArray 71 (0, 0)))) (hn : Hid (cur.length ≠ 0)) :
    (callFunc 123 #[.slice (some ⟨va, 0, none⟩) m d, .slice (some ⟨g, k, none⟩) n c]).run Try.prog w = .ok (.value (.bool false)) w := by
  rw [run_callFunc_extern Try.func123 (by kernel_rfl) (by kernel_rfl) (by kernel_rfl) (e := Extern.SlicesOverlaps.overlaps #[92, 92] #[4]) (by kernel_rfl),
    Lib.run_overlaps_apart w 92 4 71 Try.underlying92 2 Try.sizeOf71 ⟨va, 0, none⟩ ⟨g, k, none⟩ m d n c (fun e => hne e.symm) _ _ _ _ (shape_row hv.out) (shape_row hg.out) hn.out (frozen_row hv.out _) (frozen_row hv.out _)]
  rfl
theorem azero_N (w : World) (g n i k : Nat) (cur : List Value) (hg : Hid (w.heap[g]? = some (.cells cur.toArray 71 (0, 0)))) (hcur : cur.length = n * 2) (hi : i ≤ n) (hgt : n < i + k) (h0 : 0 < k) (hb : i + k ≤ 2000000) :
    ∃ (c' : Nat) (r : List Value), (Builtin.append_ #[92, 3] 92 #[.slice (some ⟨g, 0, none⟩) i n, .int .i64 k]).run Try.prog w = .ok (.slice (some ⟨w.heap.size, 0, none⟩) (i + k) c') (w.drew.alloc (.cells r.toArray 71)) ∧ i + k ≤ c' ∧ c' ≤ maxLen ∧ r.length = c' * 2 ∧ r.take (i * 2) = cur.take (i * 2) := by
  obtain ⟨i0, hi0, hz0, hz1, hz2⟩ := info_parts infoN
  have hl : (cur.take (i * 2)).length = i * 2 := by rw [List.length_take]; omega
  have hold := run_firstCells_some (P := Try.prog) w.drew i0.size i ⟨g, 0, none⟩ i n (cur.take (i * 2)) (by rw [hz1]; exact hl) (fun j v h => by
    have := seg_src (w := w.drew) hg.out 0 (i * 2) j v (by rw [List.drop_zero]; exact h)
    exact this)
  have hr := Lib.run_append_grow_zeros (P := Try.prog) w 92 3 92 71 i0 _ .i64 .i64 Try.underlying92 Try.underlying3 hi0 hz0 (some ⟨g, 0, none⟩) i n _ hold k h0 (by rw [hz1]; decide) hgt (by omega) (by rw [hz2]; omega) (growslice_fits hgt (by rw [hz2]; omega))
  have hge := grownCap_ge w (i + k) n 71
  have hle := grownCap_le_maxLen w (i + k) n 71 (by unfold maxLen; omega)
  generalize grownCap w (i + k) n 71 = c' at *
  refine ⟨c', ((cur.take (i * 2)).toArray ++ Builtin.zeroCells (Value.cells (.agg #[.string ⟨#[]⟩, .int .i64 0])) k ++ Builtin.zeroCells (Value.cells (.agg #[.string ⟨#[]⟩, .int .i64 0])) (c' - (i + k))).toList, ?_, hge, hle, ?_, ?_⟩
  · rw [Array.toArray_toList]; exact hr
  · simp only [Array.toList_append, List.length_append, Array.length_toList, size_zeroCells, List.size_toArray, hl, Value.cells]
    simp only [List.size_toArray, List.length_cons, List.length_nil]
    omega
  · rw [Array.toList_append, Array.toList_append, List.append_assoc, List.take_left' (by simpa using hl)]
set_option maxRecDepth 100000 in
set_option maxHeartbeats 4000000 in
theorem insA_N (g n c i j t : Nat) (cur ns : List Value) (va : Nat) (w : World) (hj : Hid (j = i + 1)) (ht : Hid (t = n + 1)) (hin : i < n) (hjt : j < t) (hnt : n < t) (htc : t ≤ c) (hc : c ≤ 9223372036854775807) (hn2 : n ≤ 1000000) (hcur : cur.length = c * 2) (hns : Hid (ns.length = 1 * 2)) (hne : g ≠ va)
    (hg : Hid (w.heap[g]? = some (.cells cur.toArray 71 (0, 0)))) (hv : Hid (w.heap[va]? = some (.cells ns.toArray 71 (0, 0)))) (ho : Hid (∀ v ∈ cur.take (n * 2), v.oneCell' = true)) (hon : Hid (∀ v ∈ ns, v.oneCell' = true)) :
    Calls Try.prog 104 #[.slice (some ⟨g, 0, none⟩) n c, .int .i64 i, .slice (some ⟨va, 0, none⟩) 1 1] w fun e w' => e = .returned (.slice (some ⟨g, 0, none⟩) t c) ∧ Hid (w'.heap[g]? = some (.cells (splice (splice cur (j * 2) ((cur.drop (i * 2)).take ((n - i) * 2))) (i * 2) ns).toArray 71 (0, 0))) ∧ Hid (w.grownBy w' (some g)) := by
  have q1 : ((i : Int) == (n : Int)) = false := by rw [beq_eq_false_iff_ne]; omega
  have q3 : IntKind.i64.wrap ((n : Int) + 1) = t := by rw [IntWalk.i64_in _ (by omega), ht.out]; omega
  have q4 : IntKind.i64.wrap ((i : Int) + 1) = j := by rw [IntWalk.i64_in _ (by omega), hj.out]; omega
  have q5 : ((n : Int) + 1) = t := by rw [ht.out]; omega
  have q6 : ((i : Int) + 1) = j := by rw [hj.out]; omega
  have hmn : Hid (Nat.min 1 (t - i) = 1) := Nat.min_eq_left (by omega)
  have hmn2 : Hid (Nat.min (t - i) (t - j) = n - i) := (Nat.min_eq_right (by omega)).trans (by have := hj.out; have := ht.out; omega)
  have hcj : ¬ c = j := by omega
  have hci : ¬ c = i := by omega
  have hit : i ≤ t := by omega
  have hjt2 : j ≤ t := by omega
  have hin2 : i ≤ n := by omega
  have hov := fun m d => ov_N w g va (j * 2) m d 1 1 cur ns hne hg hv (by have := ht.out; have := hj.out; unfold Hid; omega)
  try simp only [Nat.mul_one] at hov
  go_enter Try.func104, Try.ntmps104
  go_upto_region 15 with (simp only [hov])
  have hgd : Hid (w.drew.heap[g]? = some (.cells cur.toArray 71 (0, 0))) := hg.out
  have hsrc := hid (seg_src hgd.out (i * 2) ((n - i) * 2))
  have hone := hid (one_seg ho.out (i * 2) ((n - i) * 2) (by omega))
  have hcl : Hid (((cur.drop (i * 2)).take ((n - i) * 2)).length = (n - i) * 2) := by unfold Hid; rw [List.length_take, List.length_drop, hcur]; apply Nat.min_eq_left; omega
  generalize hq1 : (cur.drop (i * 2)).take ((n - i) * 2) = cs at *
  replace hq1 := hid hq1
  have hfit : j * 2 + cs.length ≤ cur.length := by rw [hcl.out, hcur]; have := hj.out; have := ht.out; omega
  obtain ⟨w2, hcp, hg2, hr2⟩ := ex_copy_k (P := Try.prog) w.drew 92 92 3 71 2 g (j * 2) (t - j) (c - j) ⟨g, i * 2, none⟩ (t - i) (c - i) cur _ cs Try.underlying92 (by kernel_rfl) hgd (n - i) hmn2 hcl hsrc.out hfit hone.out
  have hl2 : Hid ((splice cur (j * 2) cs).length = c * 2) := by unfold Hid; rw [length_splice _ _ _ hfit]; exact hcur
  have hr : Hid (w.grownBy w2 (some g)) := (grown_draw w (some g)).trans hr2.out
  have hv2 : Hid (w2.heap[va]? = some (.cells ns.toArray 71 (0, 0))) := (hr2.out.block va (Array.getElem?_eq_some_iff.1 hv.out).1 (fun e => hne (Option.some.inj e).symm)).trans hv.out
  clear hr2 hgd hsrc hone hg hv hov ho hfit hcl
  try simp only [Nat.mul_one] at hcp
  go_region
  clear hcp
  have hsrc : ∀ k v, ns[k]? = some v → w2.cell? ((⟨va, 0, none⟩ : Addr).add k) = some v := fun k v h => row_cell hv2.out 0 k (by rw [Nat.zero_add]; exact h)
  have hfit : i * 2 + ns.length ≤ (splice cur (j * 2) cs).length := by rw [hl2.out, hns.out]; have := hj.out; have := ht.out; omega
  generalize hq2 : splice cur (j * 2) cs = cur2 at *
  replace hq2 := hid hq2
  obtain ⟨w3, hcp, hg3, hr3⟩ := ex_copy_k (P := Try.prog) w2 92 92 3 71 2 g (i * 2) (t - i) (c - i) ⟨va, 0, none⟩ 1 1 cur2 _ ns Try.underlying92 (by kernel_rfl) hg2 1 hmn hns hsrc hfit hon.out
  replace hr : Hid (w.grownBy w3 (some g)) := hr.out.trans hr3.out
  clear hsrc hfit hr3 hg2
  try simp only [Nat.mul_one] at hcp
  go_wp2_with fail
  go_ret
  exact ⟨rfl, by rw [hq1.out, hq2.out]; exact hg3, hr⟩
theorem infoK : (Try.prog.info? 81).map (fun i => (i.zero, i.size, i.bytes)) = some (some (.pointer none), 1, 8) := by kernel_rfl
theorem ov_K (w : World) (g va k n c m d : Nat) (cur news : List Value) (hne : g ≠ va) (hg : Hid (w.heap[g]? = some (.cells cur.toArray 81 (0, 0)))) (hv : Hid (w.heap[va]? = some (.cells news.toArray 81 (0, 0)))) (hn : Hid (cur.length ≠ 0)) :
    (callFunc 125 #[.slice (some ⟨va, 0, none⟩) m d, .slice (some ⟨g, k, none⟩) n c]).run Try.prog w = .ok (.value (.bool false)) w := by
  rw [run_callFunc_extern Try.func125 (by kernel_rfl) (by kernel_rfl) (by kernel_rfl) (e := Extern.SlicesOverlaps.overlaps #[103, 103] #[4]) (by kernel_rfl),
    Lib.run_overlaps_apart w 103 4 81 Try.underlying103 1 Try.sizeOf81 ⟨va, 0, none⟩ ⟨g, k, none⟩ m d n c (fun e => hne e.symm) _ _ _ _ (shape_row hv.out) (shape_row hg.out) hn.out (frozen_row hv.out _) (frozen_row hv.out _)]
  rfl
theorem azero_K (w : World) (g n i k : Nat) (cur : List Value) (hg : Hid (w.heap[g]? = some (.cells cur.toArray 81 (0, 0)))) (hcur : cur.length = n * 1) (hi : i ≤ n) (hgt : n < i + k) (h0 : 0 < k) (hb : i + k ≤ 2000000) :
    ∃ (c' : Nat) (r : List Value), (Builtin.append_ #[103, 3] 103 #[.slice (some ⟨g, 0, none⟩) i n, .int .i64 k]).run Try.prog w = .ok (.slice (some ⟨w.heap.size, 0, none⟩) (i + k) c') (w.drew.alloc (.cells r.toArray 81)) ∧ i + k ≤ c' ∧ c' ≤ maxLen ∧ r.length = c' * 1 ∧ r.take (i * 1) = cur.take (i * 1) := by
  obtain ⟨i0, hi0, hz0, hz1, hz2⟩ := info_parts infoK
  have hl : (cur.take (i * 1)).length = i * 1 := by rw [List.length_take]; omega
  have hold := run_firstCells_some (P := Try.prog) w.drew i0.size i ⟨g, 0, none⟩ i n (cur.take (i * 1)) (by rw [hz1]; exact hl) (fun j v h => by
    have := seg_src (w := w.drew) hg.out 0 (i * 1) j v (by rw [List.drop_zero]; exact h)
    exact this)
  have hr := Lib.run_append_grow_zeros (P := Try.prog) w 103 3 103 81 i0 _ .i64 .i64 Try.underlying103 Try.underlying3 hi0 hz0 (some ⟨g, 0, none⟩) i n _ hold k h0 (by rw [hz1]; decide) hgt (by omega) (by rw [hz2]; omega) (growslice_fits hgt (by rw [hz2]; omega))
  have hge := grownCap_ge w (i + k) n 81
  have hle := grownCap_le_maxLen w (i + k) n 81 (by unfold maxLen; omega)
  generalize grownCap w (i + k) n 81 = c' at *
  refine ⟨c', ((cur.take (i * 1)).toArray ++ Builtin.zeroCells (Value.cells (.pointer none)) k ++ Builtin.zeroCells (Value.cells (.pointer none)) (c' - (i + k))).toList, ?_, hge, hle, ?_, ?_⟩
  · rw [Array.toArray_toList]; exact hr
  · simp only [Array.toList_append, List.length_append, Array.length_toList, size_zeroCells, List.size_toArray, hl, Value.cells]
    simp only [List.size_toArray, List.length_cons, List.length_nil]
    omega
  · rw [Array.toList_append, Array.toList_append, List.append_assoc, List.take_left' (by simpa using hl)]
set_option maxRecDepth 100000 in
set_option maxHeartbeats 4000000 in
theorem insA_K (g n c i j t : Nat) (cur ns : List Value) (va : Nat) (w : World) (hj : Hid (j = i + 1)) (ht : Hid (t = n + 1)) (hin : i < n) (hjt : j < t) (hnt : n < t) (htc : t ≤ c) (hc : c ≤ 9223372036854775807) (hn2 : n ≤ 1000000) (hcur : cur.length = c * 1) (hns : Hid (ns.length = 1 * 1)) (hne : g ≠ va)
    (hg : Hid (w.heap[g]? = some (.cells cur.toArray 81 (0, 0)))) (hv : Hid (w.heap[va]? = some (.cells ns.toArray 81 (0, 0)))) (ho : Hid (∀ v ∈ cur.take (n * 1), v.oneCell' = true)) (hon : Hid (∀ v ∈ ns, v.oneCell' = true)) :
    Calls Try.prog 107 #[.slice (some ⟨g, 0, none⟩) n c, .int .i64 i, .slice (some ⟨va, 0, none⟩) 1 1] w fun e w' => e = .returned (.slice (some ⟨g, 0, none⟩) t c) ∧ Hid (w'.heap[g]? = some (.cells (splice (splice cur (j * 1) ((cur.drop (i * 1)).take ((n - i) * 1))) (i * 1) ns).toArray 81 (0, 0))) ∧ Hid (w.grownBy w' (some g)) := by
  have q1 : ((i : Int) == (n : Int)) = false := by rw [beq_eq_false_iff_ne]; omega
  have q3 : IntKind.i64.wrap ((n : Int) + 1) = t := by rw [IntWalk.i64_in _ (by omega), ht.out]; omega
  have q4 : IntKind.i64.wrap ((i : Int) + 1) = j := by rw [IntWalk.i64_in _ (by omega), hj.out]; omega
  have q5 : ((n : Int) + 1) = t := by rw [ht.out]; omega
  have q6 : ((i : Int) + 1) = j := by rw [hj.out]; omega
  have hmn : Hid (Nat.min 1 (t - i) = 1) := Nat.min_eq_left (by omega)
  have hmn2 : Hid (Nat.min (t - i) (t - j) = n - i) := (Nat.min_eq_right (by omega)).trans (by have := hj.out; have := ht.out; omega)
  have hcj : ¬ c = j := by omega
  have hci : ¬ c = i := by omega
  have hit : i ≤ t := by omega
  have hjt2 : j ≤ t := by omega
  have hin2 : i ≤ n := by omega
  have hov := fun m d => ov_K w g va (j * 1) m d 1 1 cur ns hne hg hv (by have := ht.out; have := hj.out; unfold Hid; omega)
  try simp only [Nat.mul_one] at hov
  go_enter Try.func107, Try.ntmps107
  go_upto_region 15 with (simp only [hov])
  have hgd : Hid (w.drew.heap[g]? = some (.cells cur.toArray 81 (0, 0))) := hg.out
  have hsrc := hid (seg_src hgd.out (i * 1) ((n - i) * 1))
  have hone := hid (one_seg ho.out (i * 1) ((n - i) * 1) (by omega))
  have hcl : Hid (((cur.drop (i * 1)).take ((n - i) * 1)).length = (n - i) * 1) := by unfold Hid; rw [List.length_take, List.length_drop, hcur]; apply Nat.min_eq_left; omega
  generalize hq1 : (cur.drop (i * 1)).take ((n - i) * 1) = cs at *
  replace hq1 := hid hq1
  have hfit : j * 1 + cs.length ≤ cur.length := by rw [hcl.out, hcur]; have := hj.out; have := ht.out; omega
  obtain ⟨w2, hcp, hg2, hr2⟩ := ex_copy_k (P := Try.prog) w.drew 103 103 3 81 1 g (j * 1) (t - j) (c - j) ⟨g, i * 1, none⟩ (t - i) (c - i) cur _ cs Try.underlying103 (by kernel_rfl) hgd (n - i) hmn2 hcl hsrc.out hfit hone.out
  have hl2 : Hid ((splice cur (j * 1) cs).length = c * 1) := by unfold Hid; rw [length_splice _ _ _ hfit]; exact hcur
  have hr : Hid (w.grownBy w2 (some g)) := (grown_draw w (some g)).trans hr2.out
  have hv2 : Hid (w2.heap[va]? = some (.cells ns.toArray 81 (0, 0))) := (hr2.out.block va (Array.getElem?_eq_some_iff.1 hv.out).1 (fun e => hne (Option.some.inj e).symm)).trans hv.out
  clear hr2 hgd hsrc hone hg hv hov ho hfit hcl
  try simp only [Nat.mul_one] at hcp
  go_region
  clear hcp
  have hsrc : ∀ k v, ns[k]? = some v → w2.cell? ((⟨va, 0, none⟩ : Addr).add k) = some v := fun k v h => row_cell hv2.out 0 k (by rw [Nat.zero_add]; exact h)
  have hfit : i * 1 + ns.length ≤ (splice cur (j * 1) cs).length := by rw [hl2.out, hns.out]; have := hj.out; have := ht.out; omega
  generalize hq2 : splice cur (j * 1) cs = cur2 at *
  replace hq2 := hid hq2
  obtain ⟨w3, hcp, hg3, hr3⟩ := ex_copy_k (P := Try.prog) w2 103 103 3 81 1 g (i * 1) (t - i) (c - i) ⟨va, 0, none⟩ 1 1 cur2 _ ns Try.underlying103 (by kernel_rfl) hg2 1 hmn hns hsrc hfit hon.out
  replace hr : Hid (w.grownBy w3 (some g)) := hr.out.trans hr3.out
  clear hsrc hfit hr3 hg2
  try simp only [Nat.mul_one] at hcp
  go_wp2_with fail
  go_ret
  exact ⟨rfl, by rw [hq1.out, hq2.out]; exact hg3, hr⟩
end Go.Proofs.Ytpijfiaecicpfaa
