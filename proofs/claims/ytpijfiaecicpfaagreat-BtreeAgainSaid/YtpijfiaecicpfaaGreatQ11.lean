/-
  Rows of one's own: cut short, one element turned, appended to; The entries between two keys; Count; fromLeft: a kid gets the last entry of the one before it; slices.Delete of one entry, of one kid; slices.Delete over a row that is one's own.
-/
import Derived.Test.YtpijfiaecicpfaaGreatQ2
import Derived.Test.YtpijfiaecicpfaaGreatQ1
import Derived.Test.YtpijfiaecicpfaaGreatQ3
import Derived.Maps.AppendAt
import Derived.Deep.AppendLies
import Derived.Test.YtpijfiaecicpfaaGreatQ10
set_option maxRecDepth 100000
set_option maxHeartbeats 40000000
set_option linter.unusedVariables false
set_option linter.unusedSimpArgs false
namespace Go.Proofs.YtpijfiaecicpfaaGreat
open Go.RowKit Go.Shelf
theorem delA_N (g n c i j : Nat) (cur : List Value) (w : World) (hij : Hid (j = i + 1)) (hlt : i < j) (hj : j ≤ n) (hn : n ≤ c) (hnc : ¬ c = j) (hc : c ≤ 9223372036854775807) (hn2 : n ≤ 1000000) (hcur : cur.length = c * 2)
    (hg : Hid (w.heap[g]? = some (.cells cur.toArray 83 (0, 0)))) (ho : Hid (∀ v ∈ cur.take (n * 2), v.oneCell' = true)) :
    Calls Tryz.prog 70 #[.slice (some ⟨g, 0, none⟩) n c, .int .i64 i, .int .i64 j] w fun e w' => e = .returned (.slice (some ⟨g, 0, none⟩) (n - 1) c) ∧
      Hid (w'.heap[g]? = some (.cells (splice (splice cur (i * 2) ((cur.drop (j * 2)).take ((n - j) * 2))) ((n - 1) * 2) [.string ⟨#[]⟩, .int .i64 0]).toArray 83 (0, 0))) ∧ Hid (w.grownBy w' (some g)) := by
  have q1 : ((i : Int) == (j : Int)) = false := by rw [beq_eq_false_iff_ne]; omega
  have qa : ¬ j < i := by omega
  have qb : j ≤ n := by omega
  have qc : i ≤ j := by omega
  have qd : i ≤ n := by omega
  have qe : i ≤ c := by omega
  have qg : j ≤ c := by omega
  have qs : i + (n - j) = n - 1 := by have := hij.out; omega
  have qt : n - 1 ≤ n := by omega
  have qu : n - 1 ≤ c := by omega
  have qv : ¬ c = n - 1 := by omega
  have qw : n - (n - 1) = 1 := by omega
  have qx : ¬ c = i := by omega
  go_enter Tryz.func70, Tryz.ntmps70
  go_upto_region 5 with fail
  have hg1 : Hid (w.drew.heap[g]? = some (.cells cur.toArray 83 (0, 0))) := hg.out
  have hcl : ((cur.drop (j * 2)).take ((n - j) * 2)).length = (n - j) * 2 := by rw [List.length_take, List.length_drop, hcur]; apply Nat.min_eq_left; omega
  have hsrc : ∀ k v, ((cur.drop (j * 2)).take ((n - j) * 2))[k]? = some v → w.drew.cell? ((⟨g, j * 2, none⟩ : Addr).add k) = some v := fun k v h => by
    refine row_cell hg1.out _ _ ?_
    rw [List.getElem?_take] at h
    split at h
    · rw [List.getElem?_drop] at h; exact h
    · cases h
  have hone : ∀ v ∈ ((cur.drop (j * 2)).take ((n - j) * 2)), v.oneCell' = true := fun v hv => ho.out v (mem_seg (by omega) hv)
  obtain ⟨w2, hap, hg2, hr2⟩ := ex_append_row (P := Tryz.prog) w.drew 52 52 83 2 Tryz.underlying52 (by kernel_rfl) g i c cur hg1 ⟨g, j * 2, none⟩ (n - j) (c - j) ((cur.drop (j * 2)).take ((n - j) * 2)) hcl hsrc hone (by omega) (by rw [hcl, hcur]; omega)
  clear hsrc hone
  rw [qs] at hap
  have hl2 : (splice cur (i * 2) ((cur.drop (j * 2)).take ((n - j) * 2))).length = c * 2 := by rw [length_splice _ _ _ (by rw [hcl, hcur]; omega)]; exact hcur
  obtain ⟨w3, hcr, hg3, hr3⟩ := ex_clear_1 (P := Tryz.prog) w2 52 0 83 g ((n - 1) * 2) (c - (n - 1)) _ _ _ [.string ⟨#[]⟩, .int .i64 0] Tryz.underlying52 Tryz.zeroValue83 rfl hg2 (by rw [hl2]; simp; omega) (by simp [Value.oneCell'])
  have hr : Hid (w.grownBy w3 (some g)) := (show w.grownBy w.drew (some g) from ⟨rfl, rfl, rfl, Nat.le_refl _, fun _ _ _ => rfl⟩).trans (hr2.out.trans hr3.out)
  skip
  clear hg1 hg2 hr2 hr3 hl2 hcl
  refine region_J (fun _ => True) 7 (by kernel_rfl) ?_
  refine JT 0 (v := ?van0) trivial ?yan0 ?ran0
  case yan0 => (intro w hSw; obtain _ := hSw; (go_simp; with_reducible rfl))
  simp only [Act.put, lyA, lyB, lyC, lyD, lyE, lyF]
  refine JT 1 (v := ?van1) trivial ?yan1 ?ran1
  case yan1 => (intro w hSw; obtain _ := hSw; (go_simp; with_reducible rfl))
  simp only [Act.put, lyA, lyB, lyC, lyD, lyE, lyF]
  refine JT 2 (v := ?van2) trivial ?yan2 ?ran2
  case yan2 => (intro w hSw; obtain _ := hSw; (go_simp; with_reducible rfl))
  simp only [Act.put, lyA, lyB, lyC, lyD, lyE, lyF]
  refine JT 3 (v := ?van3) trivial ?yan3 ?ran3
  case yan3 => (intro w hSw; obtain _ := hSw; (go_simp; with_reducible rfl))
  simp only [Act.put, lyA, lyB, lyC, lyD, lyE, lyF]
  refine JT 4 (v := ?van4) trivial ?yan4 ?ran4
  case yan4 => (intro w hSw; obtain _ := hSw; (go_simp; with_reducible rfl))
  simp only [Act.put, lyA, lyB, lyC, lyD, lyE, lyF]
  refine JT 5 (v := ?van5) trivial ?yan5 ?ran5
  case yan5 => (intro w hSw; obtain _ := hSw; (go_simp; with_reducible rfl))
  simp only [Act.put, lyA, lyB, lyC, lyD, lyE, lyF]
  refine J_one 6 rfl (by kernel_rfl) (fun K hK => ?_)
  refine step_run rfl _ (ex_append _ _ _ _ rfl _ _ rfl rfl _ hap) ?_
  refine hK _ _ ⟨fun _ => trivial, ?_⟩
  clear hK K hap
  simp only [Act.put, lyA, lyB, lyC, lyD, lyE, lyF]
  refine J_one 7 rfl (by kernel_rfl) (fun K hK => ?_)
  go_simp
  refine hK _ _ ⟨fun h => absurd rfl h, ?_⟩
  clear hK K
  refine J_done (by kernel_rfl) (OnlyOn.normal ?_)
  go_wp2
  go_ret
  exact ⟨rfl, hg3, hr⟩
theorem delB_N (g n i j : Nat) (cur : List Value) (w : World) (hij : Hid (j = i + 1)) (hlt : i < j) (hj : j = n) (hc : n ≤ 9223372036854775807) (hn2 : n ≤ 1000000) (hcur : cur.length = n * 2)
    (hg : Hid (w.heap[g]? = some (.cells cur.toArray 83 (0, 0)))) (ho : Hid (∀ v ∈ cur.take (n * 2), v.oneCell' = true)) :
    Calls Tryz.prog 70 #[.slice (some ⟨g, 0, none⟩) n n, .int .i64 i, .int .i64 j] w fun e w' => e = .returned (.slice (some ⟨g, 0, none⟩) (n - 1) n) ∧
      Hid (w'.heap[g]? = some (.cells (splice (splice cur (i * 2) ((cur.drop (j * 2)).take ((n - j) * 2))) ((n - 1) * 2) [.string ⟨#[]⟩, .int .i64 0]).toArray 83 (0, 0))) ∧ Hid (w.grownBy w' (some g)) := by
  obtain rfl := hj
  have q1 : ((i : Int) == (j : Int)) = false := by rw [beq_eq_false_iff_ne]; omega
  have qa : ¬ j < i := by omega
  have qb : j ≤ j := by omega
  have qc : i ≤ j := by omega
  have qd : i ≤ j := by omega
  have qe : i ≤ j := by omega
  have qg : j ≤ j := by omega
  have qs : i + (j - j) = j - 1 := by have := hij.out; omega
  have qt : j - 1 ≤ j := by omega
  have qu : j - 1 ≤ j := by omega
  have qv : ¬ j = j - 1 := by omega
  have qw : j - (j - 1) = 1 := by omega
  have qx : ¬ j = i := by omega
  go_enter Tryz.func70, Tryz.ntmps70
  go_upto_region 5 with fail
  have hg1 : Hid (w.drew.heap[g]? = some (.cells cur.toArray 83 (0, 0))) := hg.out
  have hcl : ((cur.drop (j * 2)).take ((j - j) * 2)).length = (j - j) * 2 := by rw [List.length_take, List.length_drop, hcur]; apply Nat.min_eq_left; omega
  have hnil : (cur.drop (j * 2)).take ((j - j) * 2) = [] := by rw [Nat.sub_self, Nat.zero_mul, List.take_zero]
  obtain ⟨w2, hap, hg2, hr2⟩ := ex_append_row (P := Tryz.prog) w.drew 52 52 83 2 Tryz.underlying52 (by kernel_rfl) g i j cur hg1 ⟨g, 0, none⟩ (j - j) (j - j) ((cur.drop (j * 2)).take ((j - j) * 2)) hcl (fun k v h => by rw [hnil] at h; simp at h) (fun v h => by rw [hnil] at h; cases h) (by omega) (by rw [hcl, hcur]; omega)
  rw [qs] at hap
  rw [Nat.sub_self] at hap
  have hl2 : (splice cur (i * 2) ((cur.drop (j * 2)).take ((j - j) * 2))).length = j * 2 := by rw [length_splice _ _ _ (by rw [hcl, hcur]; omega)]; exact hcur
  obtain ⟨w3, hcr, hg3, hr3⟩ := ex_clear_1 (P := Tryz.prog) w2 52 0 83 g ((j - 1) * 2) (j - (j - 1)) _ _ _ [.string ⟨#[]⟩, .int .i64 0] Tryz.underlying52 Tryz.zeroValue83 rfl hg2 (by rw [hl2]; simp; omega) (by simp [Value.oneCell'])
  have hr : Hid (w.grownBy w3 (some g)) := (show w.grownBy w.drew (some g) from ⟨rfl, rfl, rfl, Nat.le_refl _, fun _ _ _ => rfl⟩).trans (hr2.out.trans hr3.out)
  rw [qw] at hcr
  clear hg1 hg2 hr2 hr3 hl2 hcl
  refine region_J (fun _ => True) 7 (by kernel_rfl) ?_
  refine JT 0 (v := ?van0) trivial ?yan0 ?ran0
  case yan0 => (intro w hSw; obtain _ := hSw; (go_simp; with_reducible rfl))
  simp only [Act.put, lyA, lyB, lyC, lyD, lyE, lyF]
  refine JT 1 (v := ?van1) trivial ?yan1 ?ran1
  case yan1 => (intro w hSw; obtain _ := hSw; (go_simp; with_reducible rfl))
  simp only [Act.put, lyA, lyB, lyC, lyD, lyE, lyF]
  refine JT 2 (v := ?van2) trivial ?yan2 ?ran2
  case yan2 => (intro w hSw; obtain _ := hSw; (go_simp; with_reducible rfl))
  simp only [Act.put, lyA, lyB, lyC, lyD, lyE, lyF]
  refine JT 3 (v := ?van3) trivial ?yan3 ?ran3
  case yan3 => (intro w hSw; obtain _ := hSw; (go_simp; with_reducible rfl))
  simp only [Act.put, lyA, lyB, lyC, lyD, lyE, lyF]
  refine JT 4 (v := ?van4) trivial ?yan4 ?ran4
  case yan4 => (intro w hSw; obtain _ := hSw; (go_simp; with_reducible rfl))
  simp only [Act.put, lyA, lyB, lyC, lyD, lyE, lyF]
  refine JT 5 (v := ?van5) trivial ?yan5 ?ran5
  case yan5 => (intro w hSw; obtain _ := hSw; (go_simp; with_reducible rfl))
  simp only [Act.put, lyA, lyB, lyC, lyD, lyE, lyF]
  refine J_one 6 rfl (by kernel_rfl) (fun K hK => ?_)
  refine step_run rfl _ (ex_append _ _ _ _ rfl _ _ rfl rfl _ hap) ?_
  refine hK _ _ ⟨fun _ => trivial, ?_⟩
  clear hK K hap
  simp only [Act.put, lyA, lyB, lyC, lyD, lyE, lyF]
  refine J_one 7 rfl (by kernel_rfl) (fun K hK => ?_)
  go_simp
  refine hK _ _ ⟨fun h => absurd rfl h, ?_⟩
  clear hK K
  refine J_done (by kernel_rfl) (OnlyOn.normal ?_)
  go_wp2
  go_ret
  exact ⟨rfl, hg3, hr⟩
theorem delA_K (g n c i j : Nat) (cur : List Value) (w : World) (hij : Hid (j = i + 1)) (hlt : i < j) (hj : j ≤ n) (hn : n ≤ c) (hnc : ¬ c = j) (hc : c ≤ 9223372036854775807) (hn2 : n ≤ 1000000) (hcur : cur.length = c * 1)
    (hg : Hid (w.heap[g]? = some (.cells cur.toArray 51 (0, 0)))) (ho : Hid (∀ v ∈ cur.take (n * 1), v.oneCell' = true)) :
    Calls Tryz.prog 109 #[.slice (some ⟨g, 0, none⟩) n c, .int .i64 i, .int .i64 j] w fun e w' => e = .returned (.slice (some ⟨g, 0, none⟩) (n - 1) c) ∧
      Hid (w'.heap[g]? = some (.cells (splice (splice cur (i * 1) ((cur.drop (j * 1)).take ((n - j) * 1))) ((n - 1) * 1) [.pointer none]).toArray 51 (0, 0))) ∧ Hid (w.grownBy w' (some g)) := by
  have q1 : ((i : Int) == (j : Int)) = false := by rw [beq_eq_false_iff_ne]; omega
  have qa : ¬ j < i := by omega
  have qb : j ≤ n := by omega
  have qc : i ≤ j := by omega
  have qd : i ≤ n := by omega
  have qe : i ≤ c := by omega
  have qg : j ≤ c := by omega
  have qs : i + (n - j) = n - 1 := by have := hij.out; omega
  have qt : n - 1 ≤ n := by omega
  have qu : n - 1 ≤ c := by omega
  have qv : ¬ c = n - 1 := by omega
  have qw : n - (n - 1) = 1 := by omega
  have qx : ¬ c = i := by omega
  go_enter Tryz.func109, Tryz.ntmps109
  go_upto_region 5 with fail
  have hg1 : Hid (w.drew.heap[g]? = some (.cells cur.toArray 51 (0, 0))) := hg.out
  have hcl : ((cur.drop (j * 1)).take ((n - j) * 1)).length = (n - j) * 1 := by rw [List.length_take, List.length_drop, hcur]; apply Nat.min_eq_left; omega
  have hsrc : ∀ k v, ((cur.drop (j * 1)).take ((n - j) * 1))[k]? = some v → w.drew.cell? ((⟨g, j * 1, none⟩ : Addr).add k) = some v := fun k v h => by
    refine row_cell hg1.out _ _ ?_
    rw [List.getElem?_take] at h
    split at h
    · rw [List.getElem?_drop] at h; exact h
    · cases h
  have hone : ∀ v ∈ ((cur.drop (j * 1)).take ((n - j) * 1)), v.oneCell' = true := fun v hv => ho.out v (mem_seg (by omega) hv)
  obtain ⟨w2, hap, hg2, hr2⟩ := ex_append_row (P := Tryz.prog) w.drew 53 53 51 1 Tryz.underlying53 (by kernel_rfl) g i c cur hg1 ⟨g, j * 1, none⟩ (n - j) (c - j) ((cur.drop (j * 1)).take ((n - j) * 1)) hcl hsrc hone (by omega) (by rw [hcl, hcur]; omega)
  clear hsrc hone
  rw [qs] at hap
  have hl2 : (splice cur (i * 1) ((cur.drop (j * 1)).take ((n - j) * 1))).length = c * 1 := by rw [length_splice _ _ _ (by rw [hcl, hcur]; omega)]; exact hcur
  obtain ⟨w3, hcr, hg3, hr3⟩ := ex_clear_1 (P := Tryz.prog) w2 53 0 51 g ((n - 1) * 1) (c - (n - 1)) _ _ _ [.pointer none] Tryz.underlying53 Tryz.zeroValue51 rfl hg2 (by rw [hl2]; simp; omega) (by simp [Value.oneCell'])
  have hr : Hid (w.grownBy w3 (some g)) := (show w.grownBy w.drew (some g) from ⟨rfl, rfl, rfl, Nat.le_refl _, fun _ _ _ => rfl⟩).trans (hr2.out.trans hr3.out)
  skip
  clear hg1 hg2 hr2 hr3 hl2 hcl
  try simp only [Nat.mul_one] at hap hcr
  refine region_J (fun _ => True) 7 (by kernel_rfl) ?_
  refine JT 0 (v := ?vak0) trivial ?yak0 ?rak0
  case yak0 => (intro w hSw; obtain _ := hSw; (go_simp; with_reducible rfl))
  simp only [Act.put, lyA, lyB, lyC, lyD, lyE, lyF]
  refine JT 1 (v := ?vak1) trivial ?yak1 ?rak1
  case yak1 => (intro w hSw; obtain _ := hSw; (go_simp; with_reducible rfl))
  simp only [Act.put, lyA, lyB, lyC, lyD, lyE, lyF]
  refine JT 2 (v := ?vak2) trivial ?yak2 ?rak2
  case yak2 => (intro w hSw; obtain _ := hSw; (go_simp; with_reducible rfl))
  simp only [Act.put, lyA, lyB, lyC, lyD, lyE, lyF]
  refine JT 3 (v := ?vak3) trivial ?yak3 ?rak3
  case yak3 => (intro w hSw; obtain _ := hSw; (go_simp; with_reducible rfl))
  simp only [Act.put, lyA, lyB, lyC, lyD, lyE, lyF]
  refine JT 4 (v := ?vak4) trivial ?yak4 ?rak4
  case yak4 => (intro w hSw; obtain _ := hSw; (go_simp; with_reducible rfl))
  simp only [Act.put, lyA, lyB, lyC, lyD, lyE, lyF]
  refine JT 5 (v := ?vak5) trivial ?yak5 ?rak5
  case yak5 => (intro w hSw; obtain _ := hSw; (go_simp; with_reducible rfl))
  simp only [Act.put, lyA, lyB, lyC, lyD, lyE, lyF]
  refine J_one 6 rfl (by kernel_rfl) (fun K hK => ?_)
  refine step_run rfl _ (ex_append _ _ _ _ rfl _ _ rfl rfl _ hap) ?_
  refine hK _ _ ⟨fun _ => trivial, ?_⟩
  clear hK K hap
  simp only [Act.put, lyA, lyB, lyC, lyD, lyE, lyF]
  refine J_one 7 rfl (by kernel_rfl) (fun K hK => ?_)
  go_simp
  refine hK _ _ ⟨fun h => absurd rfl h, ?_⟩
  clear hK K
  refine J_done (by kernel_rfl) (OnlyOn.normal ?_)
  go_wp2
  go_ret
  exact ⟨rfl, hg3, hr⟩
theorem delB_K (g n i j : Nat) (cur : List Value) (w : World) (hij : Hid (j = i + 1)) (hlt : i < j) (hj : j = n) (hc : n ≤ 9223372036854775807) (hn2 : n ≤ 1000000) (hcur : cur.length = n * 1)
    (hg : Hid (w.heap[g]? = some (.cells cur.toArray 51 (0, 0)))) (ho : Hid (∀ v ∈ cur.take (n * 1), v.oneCell' = true)) :
    Calls Tryz.prog 109 #[.slice (some ⟨g, 0, none⟩) n n, .int .i64 i, .int .i64 j] w fun e w' => e = .returned (.slice (some ⟨g, 0, none⟩) (n - 1) n) ∧
      Hid (w'.heap[g]? = some (.cells (splice (splice cur (i * 1) ((cur.drop (j * 1)).take ((n - j) * 1))) ((n - 1) * 1) [.pointer none]).toArray 51 (0, 0))) ∧ Hid (w.grownBy w' (some g)) := by
  obtain rfl := hj
  have q1 : ((i : Int) == (j : Int)) = false := by rw [beq_eq_false_iff_ne]; omega
  have qa : ¬ j < i := by omega
  have qb : j ≤ j := by omega
  have qc : i ≤ j := by omega
  have qd : i ≤ j := by omega
  have qe : i ≤ j := by omega
  have qg : j ≤ j := by omega
  have qs : i + (j - j) = j - 1 := by have := hij.out; omega
  have qt : j - 1 ≤ j := by omega
  have qu : j - 1 ≤ j := by omega
  have qv : ¬ j = j - 1 := by omega
  have qw : j - (j - 1) = 1 := by omega
  have qx : ¬ j = i := by omega
  go_enter Tryz.func109, Tryz.ntmps109
  go_upto_region 5 with fail
  have hg1 : Hid (w.drew.heap[g]? = some (.cells cur.toArray 51 (0, 0))) := hg.out
  have hcl : ((cur.drop (j * 1)).take ((j - j) * 1)).length = (j - j) * 1 := by rw [List.length_take, List.length_drop, hcur]; apply Nat.min_eq_left; omega
  have hnil : (cur.drop (j * 1)).take ((j - j) * 1) = [] := by rw [Nat.sub_self, Nat.zero_mul, List.take_zero]
  obtain ⟨w2, hap, hg2, hr2⟩ := ex_append_row (P := Tryz.prog) w.drew 53 53 51 1 Tryz.underlying53 (by kernel_rfl) g i j cur hg1 ⟨g, 0, none⟩ (j - j) (j - j) ((cur.drop (j * 1)).take ((j - j) * 1)) hcl (fun k v h => by rw [hnil] at h; simp at h) (fun v h => by rw [hnil] at h; cases h) (by omega) (by rw [hcl, hcur]; omega)
  rw [qs] at hap
  rw [Nat.sub_self] at hap
  have hl2 : (splice cur (i * 1) ((cur.drop (j * 1)).take ((j - j) * 1))).length = j * 1 := by rw [length_splice _ _ _ (by rw [hcl, hcur]; omega)]; exact hcur
  obtain ⟨w3, hcr, hg3, hr3⟩ := ex_clear_1 (P := Tryz.prog) w2 53 0 51 g ((j - 1) * 1) (j - (j - 1)) _ _ _ [.pointer none] Tryz.underlying53 Tryz.zeroValue51 rfl hg2 (by rw [hl2]; simp; omega) (by simp [Value.oneCell'])
  have hr : Hid (w.grownBy w3 (some g)) := (show w.grownBy w.drew (some g) from ⟨rfl, rfl, rfl, Nat.le_refl _, fun _ _ _ => rfl⟩).trans (hr2.out.trans hr3.out)
  rw [qw] at hcr
  clear hg1 hg2 hr2 hr3 hl2 hcl
  try simp only [Nat.mul_one] at hap hcr
  refine region_J (fun _ => True) 7 (by kernel_rfl) ?_
  refine JT 0 (v := ?vak0) trivial ?yak0 ?rak0
  case yak0 => (intro w hSw; obtain _ := hSw; (go_simp; with_reducible rfl))
  simp only [Act.put, lyA, lyB, lyC, lyD, lyE, lyF]
  refine JT 1 (v := ?vak1) trivial ?yak1 ?rak1
  case yak1 => (intro w hSw; obtain _ := hSw; (go_simp; with_reducible rfl))
  simp only [Act.put, lyA, lyB, lyC, lyD, lyE, lyF]
  refine JT 2 (v := ?vak2) trivial ?yak2 ?rak2
  case yak2 => (intro w hSw; obtain _ := hSw; (go_simp; with_reducible rfl))
  simp only [Act.put, lyA, lyB, lyC, lyD, lyE, lyF]
  refine JT 3 (v := ?vak3) trivial ?yak3 ?rak3
  case yak3 => (intro w hSw; obtain _ := hSw; (go_simp; with_reducible rfl))
  simp only [Act.put, lyA, lyB, lyC, lyD, lyE, lyF]
  refine JT 4 (v := ?vak4) trivial ?yak4 ?rak4
  case yak4 => (intro w hSw; obtain _ := hSw; (go_simp; with_reducible rfl))
  simp only [Act.put, lyA, lyB, lyC, lyD, lyE, lyF]
  refine JT 5 (v := ?vak5) trivial ?yak5 ?rak5
  case yak5 => (intro w hSw; obtain _ := hSw; (go_simp; with_reducible rfl))
  simp only [Act.put, lyA, lyB, lyC, lyD, lyE, lyF]
  refine J_one 6 rfl (by kernel_rfl) (fun K hK => ?_)
  refine step_run rfl _ (ex_append _ _ _ _ rfl _ _ rfl rfl _ hap) ?_
  refine hK _ _ ⟨fun _ => trivial, ?_⟩
  clear hK K hap
  simp only [Act.put, lyA, lyB, lyC, lyD, lyE, lyF]
  refine J_one 7 rfl (by kernel_rfl) (fun K hK => ?_)
  go_simp
  refine hK _ _ ⟨fun h => absurd rfl h, ?_⟩
  clear hK K
  refine J_done (by kernel_rfl) (OnlyOn.normal ?_)
  go_wp2
  go_ret
  exact ⟨rfl, hg3, hr⟩
open Go.RowKit Go.Shelf
theorem del_N (n i : Nat) (v : Value) (xs : List Value) (w : World) (hi : i < n) (hn : n ≤ 1000000) (hown : w.ownsRow 0 83 2 v n xs) (h1 : ∀ u ∈ xs, u.oneCell' = true) :
    Calls Tryz.prog 70 #[v, .int .i64 i, .int .i64 ((i + 1 : Nat) : Int)] w fun e w' => ∃ v', e = .returned v' ∧ w'.ownsRow 0 83 2 v' (n - 1) (xs.take (i * 2) ++ xs.drop ((i + 1) * 2)) ∧ Rw v v' w w' := by
  have hxl : xs.length = n * 2 := hown.1
  obtain ⟨g, c, cur, rfl, hg, hnc, hc, hl, ht⟩ := row_open hown (by omega)
  have e1 : cur.take (i * 2) = xs.take (i * 2) := by rw [← ht, List.take_take, Nat.min_eq_left (by omega)]
  have e2 : (cur.drop ((i + 1) * 2)).take ((n - (i + 1)) * 2) = xs.drop ((i + 1) * 2) := by
    rw [← ht, List.drop_take]
    congr 1
    omega
  have hcl : (xs.drop ((i + 1) * 2)).length = (n - (i + 1)) * 2 := by rw [List.length_drop, hxl]; omega
  have hlen : (xs.take (i * 2) ++ xs.drop ((i + 1) * 2)).length = (n - 1) * 2 := by rw [List.length_append, List.length_take, hcl, hxl]; omega
  have hs1 : (splice cur (i * 2) (xs.drop ((i + 1) * 2))).length = c * 2 := by rw [length_splice _ _ _ (by rw [hcl, hl]; omega)]; exact hl
  have hend : ∀ zs : List Value, zs.length = 2 → (splice (splice cur (i * 2) (xs.drop ((i + 1) * 2))) ((n - 1) * 2) zs).length = c * 2 ∧ (splice (splice cur (i * 2) (xs.drop ((i + 1) * 2))) ((n - 1) * 2) zs).take ((n - 1) * 2) = xs.take (i * 2) ++ xs.drop ((i + 1) * 2) := fun zs hz => by
    refine ⟨by rw [length_splice _ _ _ (by rw [hs1, hz]; omega)]; exact hs1, ?_⟩
    have t1 : ∀ L : List Value, (n - 1) * 2 ≤ L.length → (splice L ((n - 1) * 2) zs).take ((n - 1) * 2) = L.take ((n - 1) * 2) := fun L hL => by
      unfold splice
      exact List.take_left' (by rw [List.length_take]; omega)
    rw [t1 _ (by rw [hs1]; omega)]
    unfold splice
    rw [e1]
    first
      | rw [← List.append_assoc, List.take_left' hlen]
      | rw [List.take_left' hlen]
  by_cases hcj : c = i + 1
  · obtain rfl : n = c := by omega
    refine (delB_N g n i (i + 1) cur w rfl (by omega) hcj.symm hc hn hl hg (by rw [ht]; exact h1)).mono ?_
    rintro e w' ⟨rfl, h2, h3⟩
    rw [e2] at h2
    exact ⟨_, rfl, row_shut h2.out (by omega) hc (hend _ rfl).1 hlen (hend _ rfl).2, h3.out, .inl rfl⟩
  · refine (delA_N g n c i (i + 1) cur w rfl (by omega) (by omega) hnc hcj hc hn hl hg (by rw [ht]; exact h1)).mono ?_
    rintro e w' ⟨rfl, h2, h3⟩
    rw [e2] at h2
    exact ⟨_, rfl, row_shut h2.out (by omega) hc (hend _ rfl).1 hlen (hend _ rfl).2, h3.out, .inl rfl⟩
theorem del_K (n i : Nat) (v : Value) (xs : List Value) (w : World) (hi : i < n) (hn : n ≤ 1000000) (hown : w.ownsRow 0 51 1 v n xs) (h1 : ∀ u ∈ xs, u.oneCell' = true) :
    Calls Tryz.prog 109 #[v, .int .i64 i, .int .i64 ((i + 1 : Nat) : Int)] w fun e w' => ∃ v', e = .returned v' ∧ w'.ownsRow 0 51 1 v' (n - 1) (xs.take (i * 1) ++ xs.drop ((i + 1) * 1)) ∧ Rw v v' w w' := by
  have hxl : xs.length = n * 1 := hown.1
  obtain ⟨g, c, cur, rfl, hg, hnc, hc, hl, ht⟩ := row_open hown (by omega)
  have e1 : cur.take (i * 1) = xs.take (i * 1) := by rw [← ht, List.take_take, Nat.min_eq_left (by omega)]
  have e2 : (cur.drop ((i + 1) * 1)).take ((n - (i + 1)) * 1) = xs.drop ((i + 1) * 1) := by
    rw [← ht, List.drop_take]
    congr 1
    omega
  have hcl : (xs.drop ((i + 1) * 1)).length = (n - (i + 1)) * 1 := by rw [List.length_drop, hxl]; omega
  have hlen : (xs.take (i * 1) ++ xs.drop ((i + 1) * 1)).length = (n - 1) * 1 := by rw [List.length_append, List.length_take, hcl, hxl]; omega
  have hs1 : (splice cur (i * 1) (xs.drop ((i + 1) * 1))).length = c * 1 := by rw [length_splice _ _ _ (by rw [hcl, hl]; omega)]; exact hl
  have hend : ∀ zs : List Value, zs.length = 1 → (splice (splice cur (i * 1) (xs.drop ((i + 1) * 1))) ((n - 1) * 1) zs).length = c * 1 ∧ (splice (splice cur (i * 1) (xs.drop ((i + 1) * 1))) ((n - 1) * 1) zs).take ((n - 1) * 1) = xs.take (i * 1) ++ xs.drop ((i + 1) * 1) := fun zs hz => by
    refine ⟨by rw [length_splice _ _ _ (by rw [hs1, hz]; omega)]; exact hs1, ?_⟩
    have t1 : ∀ L : List Value, (n - 1) * 1 ≤ L.length → (splice L ((n - 1) * 1) zs).take ((n - 1) * 1) = L.take ((n - 1) * 1) := fun L hL => by
      unfold splice
      exact List.take_left' (by rw [List.length_take]; omega)
    rw [t1 _ (by rw [hs1]; omega)]
    unfold splice
    rw [e1]
    first
      | rw [← List.append_assoc, List.take_left' hlen]
      | rw [List.take_left' hlen]
  by_cases hcj : c = i + 1
  · obtain rfl : n = c := by omega
    refine (delB_K g n i (i + 1) cur w rfl (by omega) hcj.symm hc hn hl hg (by rw [ht]; exact h1)).mono ?_
    rintro e w' ⟨rfl, h2, h3⟩
    rw [e2] at h2
    exact ⟨_, rfl, row_shut h2.out (by omega) hc (hend _ rfl).1 hlen (hend _ rfl).2, h3.out, .inl rfl⟩
  · refine (delA_K g n c i (i + 1) cur w rfl (by omega) (by omega) hnc hcj hc hn hl hg (by rw [ht]; exact h1)).mono ?_
    rintro e w' ⟨rfl, h2, h3⟩
    rw [e2] at h2
    exact ⟨_, rfl, row_shut h2.out (by omega) hc (hend _ rfl).1 hlen (hend _ rfl).2, h3.out, .inl rfl⟩
open Go.RowKit Go.Shelf
theorem own_cut {w : World} {b n m sz c : Nat} {A : Option Addr} {e : TypeId} {xs : List Value} (h : w.ownsRow b e sz (.slice A n c) n xs) (hm : m ≤ n) : w.ownsRow b e sz (.slice A m c) m (xs.take (m * sz)) := by
  have hl := h.1
  have hle : m * sz ≤ n * sz := Nat.mul_le_mul_right _ hm
  refine ⟨by rw [List.length_take, hl]; omega, ?_⟩
  rcases h.2 with ⟨hv, h0⟩ | ⟨g, cap, cur, hv, e2, e3, e4, e5, e6, e7⟩
  · injection hv with h1 _ h3
    refine .inl ⟨?_, by omega⟩
    rw [h1, h3, show m = 0 by omega]
  · injection hv with h1 _ h3
    refine .inr ⟨g, cap, cur, by rw [h1, h3], e2, e3, by omega, e5, e6, ?_⟩
    rw [← e7, List.take_take, Nat.min_eq_left hle]
theorem tents_set (x : Te) : ∀ (l : List Te) (k : Nat), k < l.length → ((tents l).set (k * 2) (.string x.key)).set (k * 2 + 1) (.int .i64 x.no) = tents (l.set k x)
  | [], k, h => by simp at h
  | y :: l, 0, _ => by simp [tents, tcells]
  | y :: l, k + 1, h => by
    have ih := tents_set x l k (by simpa using h)
    rw [show (k + 1) * 2 = k * 2 + 1 + 1 by omega]
    simp [tents, tcells, ih]
theorem own_turn {w : World} {g n c k : Nat} {l : List Te} {x : Te} (h : w.ownsRow 0 83 2 (.slice (some ⟨g, 0, none⟩) n c) n (tents l)) (hk : k < l.length) :
    ((w.setCell ⟨g, k * 2, none⟩ (.string x.key)).setCell ⟨g, k * 2 + 1, none⟩ (.int .i64 x.no)).ownsRow 0 83 2 (.slice (some ⟨g, 0, none⟩) n c) n (tents (l.set k x)) := by
  rw [← tents_set x l k hk]
  exact own_setK (own_setK h)
theorem turn_rw (w : World) (g n c i j : Nat) (u v : Value) : Rw (.slice (some ⟨g, 0, none⟩) n c) (.slice (some ⟨g, 0, none⟩) n c) w ((w.setCell ⟨g, i, none⟩ u).setCell ⟨g, j, none⟩ v) :=
  ⟨⟨rfl, rfl, rfl, by simp [World.setCell], fun k _ hk => by
    have hne : g ≠ k := fun e => hk (by rw [e]; rfl)
    simp [World.setCell, Array.getElem?_modify, hne]⟩, .inl rfl⟩
theorem app_rw {P : Program} (w : World) (t ty e : TypeId) (i : TypeInfo) (z : Value) (size bytes : Nat) (ht : P.underlying t = some (.slice e)) (hi : P.info? e = some i) (hz : i.zero = some z)
    (hsize : i.size = size) (hby : i.bytes = bytes) (hzs : z.cells.size = size) (hsz : 0 < size) (v : Value) (n : Nat) (xs : List Value) (hown : w.ownsRow 0 e size v n xs)
    (A : Option Addr) (m c : Nat) (es : List Value) (hr : Rd w size A m c es) (h1 : ∀ u ∈ es, u.oneCell' = true) (h63 : n + m ≤ maxLen) (hbytes : (n + m) * bytes ≤ 140737488355328) :
    ∃ v' w', (Builtin.append_ #[t, t] ty #[v, .slice A m c]).run P w = .ok v' w' ∧ w'.ownsRow 0 e size v' (n + m) (xs ++ es) ∧ Rw v v' w w' := by
  rcases A with _ | ad
  · have hm : m = 0 := by
      rcases Nat.eq_zero_or_pos m with h0 | h0
      · exact h0
      · obtain ⟨ad, h, _⟩ := hr.2.2.2 h0
        cases h
    subst hm
    have hn : es = [] := List.eq_nil_of_length_eq_zero (by simpa using hr.1)
    subst hn
    exact ⟨v, w, run_append_nilsrc (P := P) w 0 t ty e i size ht hi v n xs hown c, by simpa using hown, World.grownBy.refl w _, .inl rfl⟩
  · have hcells : ∀ j u, es[j]? = some u → w.cell? (ad.add j) = some u := fun j u hu => by
      rcases Nat.eq_zero_or_pos m with h0 | h0
      · subst h0
        have hn : es = [] := List.eq_nil_of_length_eq_zero (by simpa using hr.1)
        subst hn
        simp at hu
      · obtain ⟨ad', e', hc⟩ := hr.2.2.2 h0
        injection e' with e'
        subst e'
        exact hc j u hu
    obtain ⟨v', w', hr', h2, h3, _, h5⟩ := run_append_own_at (P := P) w 0 t ty e i z size bytes ht hi hz hsize hby hzs hsz v n xs hown ad m c es hr.1 hcells h1 h63 hbytes (Nat.zero_le _)
    refine ⟨v', w', hr', h2, h3, ?_⟩
    rcases h5 with h5 | h5
    · exact .inl h5
    · exact .inr (fun k hk => by rw [h5] at hk; injection hk with hk; omega)
theorem appN (w : World) (ty : TypeId) (v : Value) (n : Nat) (xs : List Value) (hown : w.ownsRow 0 83 2 v n xs) (A : Option Addr) (m c : Nat) (es : List Value) (hr : Rd w 2 A m c es) (h1 : ∀ u ∈ es, u.oneCell' = true) (hn : n + m ≤ 1000000) :
    ∃ v' w', (Builtin.append_ #[52, 52] ty #[v, .slice A m c]).run Tryz.prog w = .ok v' w' ∧ w'.ownsRow 0 83 2 v' (n + m) (xs ++ es) ∧ Rw v v' w w' := by
  obtain ⟨i0, hi0, hz0, hz1, hz2⟩ := info_parts infoN
  exact app_rw w _ ty _ i0 _ 2 24 Tryz.underlying52 hi0 hz0 hz1 hz2 rfl (by decide) v n xs hown A m c es hr h1 (by unfold maxLen; omega) (by omega)
theorem appK (w : World) (ty : TypeId) (v : Value) (n : Nat) (xs : List Value) (hown : w.ownsRow 0 51 1 v n xs) (A : Option Addr) (m c : Nat) (es : List Value) (hr : Rd w 1 A m c es) (h1 : ∀ u ∈ es, u.oneCell' = true) (hn : n + m ≤ 1000000) :
    ∃ v' w', (Builtin.append_ #[53, 53] ty #[v, .slice A m c]).run Tryz.prog w = .ok v' w' ∧ w'.ownsRow 0 51 1 v' (n + m) (xs ++ es) ∧ Rw v v' w w' := by
  obtain ⟨i0, hi0, hz0, hz1, hz2⟩ := info_parts infoK
  exact app_rw w _ ty _ i0 _ 1 8 Tryz.underlying53 hi0 hz0 hz1 hz2 rfl (by decide) v n xs hown A m c es hr h1 (by unfold maxLen; omega) (by omega)
theorem fr_grow {f : Nat → Nat} {w W W' : World} {row : Option Nat} (h : FR f w W) (hg : W.grownBy W' row) (hrow : ∀ k, row = some k → k < w.heap.size → f k ≠ 0) : FR f w W' := by
  obtain ⟨a1, a2, a3, a4, a5⟩ := h
  refine ⟨a1.trans hg.os.symm, a2.trans hg.tape.symm, a3.trans hg.output.symm, by have := hg.size; omega, fun k hk h0 => ?_⟩
  rw [hg.block k (by omega) (fun e => hrow k e.symm hk h0)]
  exact a5 k hk h0
section
variable {f : Nat → Nat} {w W W' : World} {p q r : Nat} {lv kv lq kq lr kr v' : Value} {nl nk ml mk tl tk n' : Nat} {xl xk yl yk zl zk xs' : List Value}
theorem Tri.row0 (h : Tri f w W p q r lv kv lq kq lr kr nl nk ml mk tl tk xl xk yl yk zl zk) (hg : W.grownBy W' lv.ownBlock) (ho : W'.ownsRow 0 83 2 lv n' xs') :
    Tri f w W' p q r lv kv lq kq lr kr n' nk ml mk tl tk xs' xk yl yk zl zk := by
  have bl : ∀ a o, W.heap[a]? = some o → ob lv a = 0 → W'.heap[a]? = some o := fun a o h1 h0 => (hg.block a (Array.getElem?_eq_some_iff.1 h1).1 (fun e => ob_zero h0 e.symm)).trans h1
  have on : ∀ {b s n : Nat} {t : TypeId} {v : Value} {xs : List Value}, W.ownsRow b t s v n xs → (∀ a, ob v a + ob lv a ≤ 1) → W'.ownsRow b t s v n xs := fun h1 h0 => own_ne h1 hg (fun k e e2 => by have := h0 k; rw [ob_some e, ob_some e2] at this; omega)
  refine ⟨bl p _ h.hp (by have := h.nd p; rw [one_self] at this; omega), bl q _ h.hq (by have := h.nd q; rw [one_self] at this; omega), bl r _ h.hr (by have := h.nd r; rw [one_self] at this; omega), ho, on h.o2 (fun a => by have := h.nd a; omega), on h.o3 (fun a => by have := h.nd a; omega), on h.o4 (fun a => by have := h.nd a; omega), on h.o5 (fun a => by have := h.nd a; omega), on h.o6 (fun a => by have := h.nd a; omega), h.nd, ?_, h.le⟩
  exact fr_grow h.fr hg (fun k e hk h0 => by have := h.le k hk; rw [ob_some e] at this; omega)
theorem Tri.put0 (h : Tri f w W p q r lv kv lq kq lr kr nl nk ml mk tl tk xl xk yl yk zl zk) (ho : W.ownsRow 0 83 2 v' n' xs') (hv : v'.ownBlock = lv.ownBlock) : Tri f w (W.setCell ⟨p, 0, none⟩ v') p q r v' kv lq kq lr kr n' nk ml mk tl tk xs' xk yl yk zl zk :=
  h.rep0 (World.grownBy.refl W _) ho (.inl hv)
theorem Tri.put1 (h : Tri f w W p q r lv kv lq kq lr kr nl nk ml mk tl tk xl xk yl yk zl zk) (ho : W.ownsRow 0 51 1 v' n' xs') (hv : v'.ownBlock = kv.ownBlock) : Tri f w (W.setCell ⟨p, 1, none⟩ v') p q r lv v' lq kq lr kr nl n' ml mk tl tk xl xs' yl yk zl zk :=
  h.rep1 (World.grownBy.refl W _) ho (.inl hv)
end
theorem ptrs_take (l : List Nat) (k : Nat) : (ptrs l).take k = ptrs (l.take k) := by unfold ptrs; rw [List.map_take]
theorem ptrs_drop (l : List Nat) (k : Nat) : (ptrs l).drop k = ptrs (l.drop k) := by unfold ptrs; rw [List.map_drop]
theorem own_same {v : Value} {A : Option Addr} {n m c : Nat} (h : v = .slice A n c) : (Value.slice A m c).ownBlock = v.ownBlock := by rw [h]; cases A <;> rfl
theorem own_entry {W : World} {g c n k : Nat} {l : List Te} (h : W.ownsRow 0 83 2 (.slice (some ⟨g, 0, none⟩) n c) n (tents l)) (hk : k < l.length) : W.cell? ⟨g, k * 2, none⟩ = some (.string (tth l k).key) ∧ W.cell? ⟨g, k * 2 + 1, none⟩ = some (.int .i64 (tth l k).no) := by
  have hc := h.cells (g := g) rfl
  have e1 := hc (k * 2 + 0) _ (by rw [tents_at l k hk 0 (by decide)]; rfl)
  have e2 := hc (k * 2 + 1) _ (by rw [tents_at l k hk 1 (by decide)]; rfl)
  rw [lit_add] at e1 e2
  rw [tth_get hk]
  rw [Nat.zero_add, Nat.add_zero] at e1
  rw [Nat.zero_add] at e2
  exact ⟨e1, e2⟩
theorem own_ptr {W : World} {g c n k q : Nat} {l : List Nat} (h : W.ownsRow 0 51 1 (.slice (some ⟨g, 0, none⟩) n c) n (ptrs l)) (hk : l[k]? = some q) : W.cell? ⟨g, k, none⟩ = some (.pointer (some ⟨q, 0, none⟩)) := by
  have hc := h.cells (g := g) rfl
  have e1 := hc k _ (show (ptrs l)[k]? = some (.pointer (some ⟨q, 0, none⟩)) by unfold ptrs; rw [List.getElem?_map, hk]; rfl)
  rw [lit_add, Nat.zero_add] at e1
  exact e1
theorem own_lit {W : World} {b s n m c : Nat} {t : TypeId} {ad : Addr} {xs : List Value} (h : W.ownsRow b t s (.slice (some ad) m c) n xs) : ad = ⟨ad.block, 0, none⟩ := by
  rcases h.2 with ⟨hv, _⟩ | ⟨g, cap, cur, hv, _⟩
  · cases hv
  · injection hv with e1
    injection e1 with e1
    rw [e1]
theorem own_entryA {W : World} {ad : Addr} {c n k : Nat} {l : List Te} (h : W.ownsRow 0 83 2 (.slice (some ad) n c) n (tents l)) (hk : k < l.length) : W.cell? (ad.add (k * 2)) = some (.string (tth l k).key) ∧ W.cell? ⟨(ad.add (k * 2)).block, (ad.add (k * 2)).off + 1, none⟩ = some (.int .i64 (tth l k).no) := by
  have e := own_lit h
  rw [e] at h
  have := own_entry h hk
  rw [e, lit_add, Nat.zero_add]
  exact this
theorem own_ptrA {W : World} {ad : Addr} {c n k q : Nat} {l : List Nat} (h : W.ownsRow 0 51 1 (.slice (some ad) n c) n (ptrs l)) (hk : l[k]? = some q) : W.cell? (ad.add k) = some (.pointer (some ⟨q, 0, none⟩)) := by
  have e := own_lit h
  rw [e] at h
  have := own_ptr h hk
  rw [e, lit_add, Nat.zero_add]
  exact this
theorem own_freeA {W : World} {b s n m c : Nat} {t : TypeId} {ad : Addr} {xs : List Value} (h : W.ownsRow b t s (.slice (some ad) m c) n xs) (k : Nat) : W.frozen? (ad.add k) = false ∧ W.frozen? ⟨(ad.add k).block, (ad.add k).off + 1, none⟩ = false := by
  rcases h.2 with ⟨hv, _⟩ | ⟨g, cap, cur, hv, _, hg, _⟩
  · cases hv
  · injection hv with e1
    injection e1 with e1
    rw [e1, lit_add, Nat.zero_add]
    exact ⟨Lib.frozen_of_heap hg k, Lib.frozen_of_heap hg (k + 1)⟩
theorem own_turnA {w : World} {ad : Addr} {n c k : Nat} {l : List Te} {x : Te} (h : w.ownsRow 0 83 2 (.slice (some ad) n c) n (tents l)) (hk : k < l.length) :
    ((w.setCell (ad.add (k * 2)) (.string x.key)).setCell ⟨(ad.add (k * 2)).block, (ad.add (k * 2)).off + 1, none⟩ (.int .i64 x.no)).ownsRow 0 83 2 (.slice (some ad) n c) n (tents (l.set k x)) ∧
    w.grownBy ((w.setCell (ad.add (k * 2)) (.string x.key)).setCell ⟨(ad.add (k * 2)).block, (ad.add (k * 2)).off + 1, none⟩ (.int .i64 x.no)) (Value.slice (some ad) n c).ownBlock := by
  have e := own_lit h
  rw [e] at h
  have h1 := own_turn (x := x) h hk
  have h2 := turn_rw w ad.block n c (k * 2) (k * 2 + 1) (.string x.key) (.int .i64 x.no)
  rw [e, lit_add, Nat.zero_add]
  exact ⟨h1, h2.1⟩
theorem own_midA {W : World} {ad : Addr} {c n k : Nat} {l : List Te} (h : W.ownsRow 0 83 2 (.slice (some ad) n c) n (tents l)) (hk : k < l.length) (u : Value) :
    (W.setCell (ad.add (k * 2)) u).cell? ⟨(ad.add (k * 2)).block, (ad.add (k * 2)).off + 1, none⟩ = some (.int .i64 (tth l k).no) ∧ (W.setCell (ad.add (k * 2)) u).frozen? ⟨(ad.add (k * 2)).block, (ad.add (k * 2)).off + 1, none⟩ = false := by
  have e := own_lit h
  rw [e] at h
  have h1 := own_entry h hk
  have h2 := own_freeA (own_setK (o := k * 2) (u := u) h) (k * 2)
  rw [lit_add, Nat.zero_add] at h2
  rw [e, lit_add, Nat.zero_add]
  exact ⟨set_keep h1.2 (off_ne (i := k * 2) (j := k * 2 + 1) (by omega)), h2.2⟩
theorem rd_new {w : World} {k b : Nat} {cs : List Value} {t : TypeId} {fr : Nat × Nat} (h : w.heap[b]? = some (.cells cs.toArray t fr)) (hl : cs.length = 1 * k := by first | rfl | simp) : Rd w k (some ⟨b, 0, none⟩) 1 1 cs :=
  ⟨hl, Nat.le_refl _, by unfold maxLen; omega, fun _ => ⟨_, rfl, fun j v hv => by
    have := World.news_of_block h j v (by simpa using hv)
    exact this⟩⟩
theorem own_entry0 {W : World} {ad : Addr} {c n : Nat} {l : List Te} (h : W.ownsRow 0 83 2 (.slice (some ad) n c) n (tents l)) (hk : 0 < l.length) : W.cell? ad = some (.string (tth l 0).key) ∧ W.cell? ⟨ad.block, ad.off + 1, none⟩ = some (.int .i64 (tth l 0).no) := by
  have e := own_lit h
  rw [e] at h
  have := own_entry h hk
  rw [e]
  exact this
theorem own_ptr0 {W : World} {ad : Addr} {c n q : Nat} {l : List Nat} (h : W.ownsRow 0 51 1 (.slice (some ad) n c) n (ptrs l)) (hk : l[0]? = some q) : W.cell? ad = some (.pointer (some ⟨q, 0, none⟩)) := by
  have e := own_lit h
  rw [e] at h
  have := own_ptr h hk
  rw [e]
  exact this
open Go.RowKit Go.Shelf
theorem left_any (f : Nat → Nat) (p q r i j m : Nat) (l lq lr : List Te) (ps pq pr : List Nat) (lv kv vq KQ vr KR : Value) (w : World)
    (H : Tri f w w p q r lv kv vq KQ vr KR l.length ps.length (m + 1) pq.length lr.length pr.length (tents l) (ptrs ps) (tents lq) (ptrs pq) (tents lr) (ptrs pr))
    (hq : ps[j]? = some q) (hr : ps[i]? = some r) (hi : Hid (i = j + 1)) (hj : j < l.length) (hm : Hid (lq.length = m + 1)) (hpq : pq.length = 0 ∨ pq.length = m + 2) (b1 : l.length ≤ 10) (b2 : ps.length ≤ 10) (b3 : m ≤ 10) (b4 : lr.length ≤ 10) (b5 : pr.length ≤ 10)
    (l' lq' lr' : List Te) (pq' pr' : List Nat) (el : Hid (l' = l.set j (tth lq m))) (eq : Hid (lq' = lq.take m)) (er : Hid (lr' = tth l j :: lr)) (epq : Hid (pq' = pq.take (m + 1))) (epr : Hid (pr' = pq.drop (m + 1) ++ pr)) :
    Calls Tryz.prog 93 #[.pointer (some ⟨p, 0, none⟩), .int .i64 i] w fun e w' => e = .returned (.tuple #[]) ∧ ∃ lv' kv' vq' kq' vr' kr' : Value,
      Tri f w w' p q r lv' kv' vq' kq' vr' kr' l'.length ps.length lq'.length pq'.length lr'.length pr'.length (tents l') (ptrs ps) (tents lq') (ptrs pq') (tents lr') (ptrs pr') := by
  obtain ⟨A1, cl, rfl, hr1⟩ := own_rd H.o1
  obtain ⟨ad, rfl, z0, z1⟩ := RdN.at_ hr1 hj
  obtain ⟨A2, kc, rfl, hr2⟩ := own_rd H.o2
  obtain ⟨kad, rfl, -⟩ := hr2.2.2.2 (by have := (List.getElem?_eq_some_iff.1 hq).1; omega)
  obtain ⟨A3, cq, rfl, hr3⟩ := own_rd H.o3
  obtain ⟨aq, rfl, -⟩ := hr3.2.2.2 (by omega)
  obtain ⟨Ar, cr, rfl, hr5⟩ := own_rd H.o5
  obtain ⟨Kq, ckq, rfl, hr4⟩ := own_rd H.o4
  obtain ⟨Kr, ckr, rfl, hr6⟩ := own_rd H.o6
  have y0 := rd_ptr hr2 hq
  have y1 := rd_ptr hr2 hr
  have x1 := node_c1 H.hp
  have mx1 := Rd.max hr1
  have mx2 := Rd.max hr2
  have mx3 := Rd.max hr3
  have mx5 := Rd.max hr5
  have mx4 := Rd.max hr4
  have mx6 := Rd.max hr6
  have hkq : Hid (0 < pq.length → ∃ akq, Kq = some akq) := fun h => by obtain ⟨a, e, -⟩ := hr4.2.2.2 h; exact ⟨a, e⟩
  have hjp := (List.getElem?_eq_some_iff.1 hq).1
  have hip := (List.getElem?_eq_some_iff.1 hr).1
  have hw1 : IntKind.i64.wrap ((i : Int) - 1) = (j : Int) := by have := hi.out; rw [IntWalk.i64_in _ (by omega)]; omega
  have hw2 : ((i : Int) - 1) = (j : Int) := by have := hi.out; omega
  have hw5 : IntKind.i64.wrap (j : Int) = (j : Int) := IntWalk.i64_in _ (by omega)
  have hw6 : (m : Int) < (m : Int) + 1 := by omega
  have hmq := hid (show m < lq.length by have := hm.out; omega)
  have tri : Hid (Tri f w w p q r (.slice (some ad) l.length cl) (.slice (some kad) ps.length kc) (.slice (some aq) (m + 1) cq) (.slice Kq pq.length ckq) (.slice Ar lr.length cr) (.slice Kr pr.length ckr) l.length ps.length (m + 1) pq.length lr.length pr.length (tents l) (ptrs ps) (tents lq) (ptrs pq) (tents lr) (ptrs pr)) := H
  have hE1 : Hid (∀ W : World, W.ownsRow 0 83 2 (.slice (some ad) l.length cl) l.length (tents l) → W.cell? (ad.add (j * 2)) = some (.string (tth l j).key) ∧ W.cell? ⟨(ad.add (j * 2)).block, (ad.add (j * 2)).off + 1, none⟩ = some (.int .i64 (tth l j).no)) := fun W h => own_entryA h hj
  have hE3 : Hid (∀ W : World, W.ownsRow 0 83 2 (.slice (some aq) (m + 1) cq) (m + 1) (tents lq) → W.cell? (aq.add (m * 2)) = some (.string (tth lq m).key) ∧ W.cell? ⟨(aq.add (m * 2)).block, (aq.add (m * 2)).off + 1, none⟩ = some (.int .i64 (tth lq m).no)) := fun W h => own_entryA h hmq.out
  have lp := (Array.getElem?_eq_some_iff.1 H.hp).1
  clear hr1 hr2 hr3 hr4 hr5 hr6 z0 z1 H
  replace hq := hid hq
  replace hr := hid hr
  go_enter Tryz.func93, Tryz.ntmps93
  go_upto_region 0 with fail
  go_quiet (fail)
  clear y0 y1 x1 lp
  rename_i nq
  replace tri := hid (tri.out.ext (Ext.drewN w nq))
  generalize w.drewN nq = W0 at *
  have x3 := node_c0 tri.out.hq
  have lq0 := (Array.getElem?_eq_some_iff.1 tri.out.hq).1
  have hw3 : (((m + 1 : Nat) : Int) - 1) = (m : Int) := by omega
  have hw4 : IntKind.i64.wrap (((m + 1 : Nat) : Int) - 1) = (m : Int) := by rw [IntWalk.i64_in _ (by omega)]; omega
  go_upto_region 2 with fail
  clear x3 lq0
  have tri1 := hid (tri.out.ext (Ext.refl W0).drew_right)
  have I0 : (fun w' : World => w'.cell? ⟨r, 0, none⟩ = some (.slice Ar lr.length cr) ∧ w'.cell? ⟨p, 0, none⟩ = some (.slice (some ad) l.length cl) ∧ w'.cell? (ad.add (j * 2)) = some (.string (tth l j).key) ∧ w'.cell? ⟨(ad.add (j * 2)).block, (ad.add (j * 2)).off + 1, none⟩ = some (.int .i64 (tth l j).no)) W0.drew := ⟨node_c0 tri1.out.hr, node_c0 tri1.out.hp, (hE1.out _ tri1.out.o1).1, (hE1.out _ tri1.out.o1).2⟩
  refine region_J (fun w' : World => w'.cell? ⟨r, 0, none⟩ = some (.slice Ar lr.length cr) ∧ w'.cell? ⟨p, 0, none⟩ = some (.slice (some ad) l.length cl) ∧ w'.cell? (ad.add (j * 2)) = some (.string (tth l j).key) ∧ w'.cell? ⟨(ad.add (j * 2)).block, (ad.add (j * 2)).off + 1, none⟩ = some (.int .i64 (tth l j).no)) 17 (by kernel_rfl) ?_
  clear tri
  generalize W0.drew = W at *
  refine JT 0 (v := ?va0) I0 ?ya0 ?ra0
  case ya0 => (intro w h; obtain ⟨_, _, _, _⟩ := h; go_simp; with_reducible rfl)
  simp only [Act.put, lyA, lyB, lyC, lyD, lyE, lyF]
  refine JT 1 (v := ?va1) I0 ?ya1 ?ra1
  case ya1 => (intro w h; obtain ⟨_, _, _, _⟩ := h; go_simp; with_reducible rfl)
  simp only [Act.put, lyA, lyB, lyC, lyD, lyE, lyF]
  refine JT 2 (v := ?va2) I0 ?ya2 ?ra2
  case ya2 => (intro w h; obtain ⟨_, _, _, _⟩ := h; go_simp; with_reducible rfl)
  simp only [Act.put, lyA, lyB, lyC, lyD, lyE, lyF]
  refine JT 3 (v := ?va3) I0 ?ya3 ?ra3
  case ya3 => (intro w h; obtain ⟨_, _, _, _⟩ := h; go_simp; with_reducible rfl)
  simp only [Act.put, lyA, lyB, lyC, lyD, lyE, lyF]
  refine JT 4 (v := ?va4) I0 ?ya4 ?ra4
  case ya4 => (intro w h; obtain ⟨_, _, _, _⟩ := h; go_simp; with_reducible rfl)
  simp only [Act.put, lyA, lyB, lyC, lyD, lyE, lyF]
  refine JT 5 (v := ?va5) I0 ?ya5 ?ra5
  case ya5 => (intro w h; obtain ⟨_, _, _, _⟩ := h; go_simp; with_reducible rfl)
  simp only [Act.put, lyA, lyB, lyC, lyD, lyE, lyF]
  refine JT 6 (v := ?va6) I0 ?ya6 ?ra6
  case ya6 => (intro w h; obtain ⟨_, _, _, _⟩ := h; go_simp; with_reducible rfl)
  simp only [Act.put, lyA, lyB, lyC, lyD, lyE, lyF]
  refine JT 7 (v := ?va7) I0 ?ya7 ?ra7
  case ya7 => (intro w h; obtain ⟨_, _, _, _⟩ := h; go_simp; with_reducible rfl)
  simp only [Act.put, lyA, lyB, lyC, lyD, lyE, lyF]
  refine JT 8 (v := ?va8) I0 ?ya8 ?ra8
  case ya8 => (intro w h; obtain ⟨_, _, _, _⟩ := h; go_simp; with_reducible rfl)
  simp only [Act.put, lyA, lyB, lyC, lyD, lyE, lyF]
  refine JT 9 (v := ?va9) I0 ?ya9 ?ra9
  case ya9 => (intro w h; obtain ⟨_, _, _, _⟩ := h; go_simp; with_reducible rfl)
  simp only [Act.put, lyA, lyB, lyC, lyD, lyE, lyF]
  refine JT 10 (v := ?va10) I0 ?ya10 ?ra10
  case ya10 => (intro w h; obtain ⟨_, _, _, _⟩ := h; go_simp; with_reducible rfl)
  simp only [Act.put, lyA, lyB, lyC, lyD, lyE, lyF]
  refine JT 11 (v := ?va11) I0 ?ya11 ?ra11
  case ya11 => (intro w h; obtain ⟨_, _, _, _⟩ := h; go_simp; with_reducible rfl)
  simp only [Act.put, lyA, lyB, lyC, lyD, lyE, lyF]
  refine JT 12 (v := ?va12) I0 ?ya12 ?ra12
  case ya12 => (intro w h; obtain ⟨_, _, _, _⟩ := h; go_simp; with_reducible rfl)
  simp only [Act.put, lyA, lyB, lyC, lyD, lyE, lyF]
  refine J_one 13 rfl (by kernel_rfl) (fun K hK => ?_)
  go_simp
  have tri2 := hid (tri1.out.ext ((Ext.refl W).alloc_right (.cells #[.string (tth l j).key, .int .i64 (tth l j).no] 83)))
  have hva := hid (heap_alloc_new W (.cells #[.string (tth l j).key, .int .i64 (tth l j).no] 83))
  have hne : Hid ((Value.slice Ar lr.length cr).ownBlock ≠ some W.heap.size) := fun e => by have := (tri1.out.o5.lt _ e).2; omega
  have I1 : (fun w' : World => w'.cell? ⟨r, 0, none⟩ = some (.slice Ar lr.length cr) ∧ w'.cell? ⟨p, 0, none⟩ = some (.slice (some ad) l.length cl) ∧ w'.cell? (ad.add (j * 2)) = some (.string (tth l j).key) ∧ w'.cell? ⟨(ad.add (j * 2)).block, (ad.add (j * 2)).off + 1, none⟩ = some (.int .i64 (tth l j).no)) (W.alloc (.cells #[.string (tth l j).key, .int .i64 (tth l j).no] 83)) := ⟨((Ext.refl W).alloc_right _).cell I0.1, ((Ext.refl W).alloc_right _).cell I0.2.1, ((Ext.refl W).alloc_right _).cell I0.2.2.1, ((Ext.refl W).alloc_right _).cell I0.2.2.2⟩
  clear tri1
  generalize W.heap.size = va at *
  generalize W.alloc (.cells #[.string (tth l j).key, .int .i64 (tth l j).no] 83) = W1 at *
  refine hK _ _ ⟨fun _ => I1, ?_⟩
  clear hK K
  try simp only [Act.put, lyA, lyB, lyC, lyD, lyE, lyF]
  refine J_one 14 rfl (by kernel_rfl) (fun K hK => ?_)
  go_simp
  refine (ins_N lr.length 0 _ (tents lr) [.string (tth l j).key, .int .i64 (tth l j).no] va W1 (Nat.zero_le _) (by omega) tri2.out.o5 (tents_one _) hva.out rfl (tents_one [tth l j]) hne.out).mono ?_
  rintro e W2 ⟨v', rfl, ho', hrw⟩
  have tri3 : ∀ u, u = v' → Tri f w (W2.setCell ⟨r, 0, none⟩ u) p q r (.slice (some ad) l.length cl) (.slice (some kad) ps.length kc) (.slice (some aq) (m + 1) cq) (.slice Kq pq.length ckq) u (.slice Kr pr.length ckr) l.length ps.length (m + 1) pq.length (lr.length + 1) pr.length (tents l) (ptrs ps) (tents lq) (ptrs pq) (tents (tth l j :: lr)) (ptrs pr) := fun u e => by rw [e]; exact (tri2.out.rot.rot.rep0 hrw.1 ho' hrw.2).rot
  replace tri3 := hid tri3
  have hbr : W2.heap[r]? = some (.cells #[.slice Ar lr.length cr, .slice Kr pr.length ckr] 55 (0, 0)) := (hrw.1.block r (Array.getElem?_eq_some_iff.1 tri2.out.hr).1 (fun e0 => by have := tri2.out.nd r; rw [ob_some e0.symm, one_self] at this; omega)).trans tri2.out.hr
  have hbp : W2.heap[p]? = some (.cells #[(.slice (some ad) l.length cl), (.slice (some kad) ps.length kc)] 55 (0, 0)) := (hrw.1.block p (Array.getElem?_eq_some_iff.1 tri2.out.hp).1 (fun e0 => by have := tri2.out.nd p; rw [ob_some e0.symm, one_self] at this; omega)).trans tri2.out.hp
  have hr2 := node_c0 hbr
  have hf2 := Lib.frozen_of_heap hbr 0
  have hE := hE1.out W2 (own_ne tri2.out.o1 hrw.1 (fun k e e2 => by have := tri2.out.nd k; rw [ob_some e, ob_some e2] at this; omega))
  have I2 : (fun w' : World => w'.cell? ⟨r, 0, none⟩ = some (.slice Ar lr.length cr) ∧ w'.cell? ⟨p, 0, none⟩ = some (.slice (some ad) l.length cl) ∧ w'.cell? (ad.add (j * 2)) = some (.string (tth l j).key) ∧ w'.cell? ⟨(ad.add (j * 2)).block, (ad.add (j * 2)).off + 1, none⟩ = some (.int .i64 (tth l j).no)) W2 := ⟨hr2, node_c0 hbp, hE.1, hE.2⟩
  obtain ⟨Av, cv, rfl, -⟩ := own_form ho'
  clear ho' hrw tri2 hva hne I1 I0 hE hbr hbp
  refine hK _ _ ⟨fun _ => I2, ?_⟩
  clear hK K
  try simp only [Act.put, lyA, lyB, lyC, lyD, lyE, lyF]
  refine J_one 15 rfl (by kernel_rfl) (fun K hK => ?_)
  go_simp
  refine hK _ _ ⟨fun _ => I2, ?_⟩
  clear hK K
  try simp only [Act.put, lyD, lyE, lyF]
  refine J_one 16 rfl (by kernel_rfl) (fun K hK => ?_)
  go_simp
  refine hK _ _ ⟨fun _ => I2, ?_⟩
  clear hK K
  try simp only [Act.put, lyD, lyE, lyF]
  refine J_one 17 rfl (by kernel_rfl) (fun K hK => ?_)
  go_simp
  refine hK _ _ ⟨fun h => absurd rfl h, ?_⟩
  clear hK K
  refine J_done (by kernel_rfl) (OnlyOn.normal ?_)
  replace tri3 := hid (tri3.out _ rfl)
  clear I2 hr2 hf2
  generalize W2.setCell ⟨r, 0, none⟩ (.slice Av (lr.length + 1) cv) = W3 at *
  go_upto_region 3 with fail
  have tri4 := hid (tri3.out.ext (Ext.refl W3).drew_right)
  have I0 : (fun w' : World => w'.cell? ⟨p, 0, none⟩ = some (.slice (some ad) l.length cl) ∧ w'.cell? ⟨q, 0, none⟩ = some (.slice (some aq) (m + 1) cq) ∧ w'.cell? (aq.add (m * 2)) = some (.string (tth lq m).key) ∧ w'.cell? ⟨(aq.add (m * 2)).block, (aq.add (m * 2)).off + 1, none⟩ = some (.int .i64 (tth lq m).no)) W3.drew := ⟨node_c0 tri4.out.hp, node_c0 tri4.out.hq, (hE3.out _ tri4.out.o3).1, (hE3.out _ tri4.out.o3).2⟩
  refine region_J (fun w' : World => w'.cell? ⟨p, 0, none⟩ = some (.slice (some ad) l.length cl) ∧ w'.cell? ⟨q, 0, none⟩ = some (.slice (some aq) (m + 1) cq) ∧ w'.cell? (aq.add (m * 2)) = some (.string (tth lq m).key) ∧ w'.cell? ⟨(aq.add (m * 2)).block, (aq.add (m * 2)).off + 1, none⟩ = some (.int .i64 (tth lq m).no)) 14 (by kernel_rfl) ?_
  clear tri3
  generalize W3.drew = W at *
  have hf1 := (own_freeA tri4.out.o1 (j * 2)).1
  have hz0 := (own_entryA tri4.out.o1 hj).1
  have hz1 := (own_midA tri4.out.o1 hj (.string (tth lq m).key)).1
  have hf2 := (own_midA tri4.out.o1 hj (.string (tth lq m).key)).2
  refine JT 0 (v := ?vb0) I0 ?yb0 ?rb0
  case yb0 => (intro w h; obtain ⟨_, _, _, _⟩ := h; go_simp; with_reducible rfl)
  simp only [Act.put, lyA, lyB, lyC, lyD, lyE, lyF]
  refine JT 1 (v := ?vb1) I0 ?yb1 ?rb1
  case yb1 => (intro w h; obtain ⟨_, _, _, _⟩ := h; go_simp; with_reducible rfl)
  simp only [Act.put, lyA, lyB, lyC, lyD, lyE, lyF]
  refine JT 2 (v := ?vb2) I0 ?yb2 ?rb2
  case yb2 => (intro w h; obtain ⟨_, _, _, _⟩ := h; go_simp; with_reducible rfl)
  simp only [Act.put, lyA, lyB, lyC, lyD, lyE, lyF]
  refine JT 3 (v := ?vb3) I0 ?yb3 ?rb3
  case yb3 => (intro w h; obtain ⟨_, _, _, _⟩ := h; go_simp; with_reducible rfl)
  simp only [Act.put, lyA, lyB, lyC, lyD, lyE, lyF]
  refine JT 4 (v := ?vb4) I0 ?yb4 ?rb4
  case yb4 => (intro w h; obtain ⟨_, _, _, _⟩ := h; go_simp; with_reducible rfl)
  simp only [Act.put, lyA, lyB, lyC, lyD, lyE, lyF]
  refine JT 5 (v := ?vb5) I0 ?yb5 ?rb5
  case yb5 => (intro w h; obtain ⟨_, _, _, _⟩ := h; go_simp; with_reducible rfl)
  simp only [Act.put, lyA, lyB, lyC, lyD, lyE, lyF]
  refine JT 6 (v := ?vb6) I0 ?yb6 ?rb6
  case yb6 => (intro w h; obtain ⟨_, _, _, _⟩ := h; go_simp; with_reducible rfl)
  simp only [Act.put, lyA, lyB, lyC, lyD, lyE, lyF]
  refine JT 7 (v := ?vb7) I0 ?yb7 ?rb7
  case yb7 => (intro w h; obtain ⟨_, _, _, _⟩ := h; go_simp; with_reducible rfl)
  simp only [Act.put, lyA, lyB, lyC, lyD, lyE, lyF]
  refine JT 8 (v := ?vb8) I0 ?yb8 ?rb8
  case yb8 => (intro w h; obtain ⟨_, _, _, _⟩ := h; go_simp; with_reducible rfl)
  simp only [Act.put, lyA, lyB, lyC, lyD, lyE, lyF]
  refine JT 9 (v := ?vb9) I0 ?yb9 ?rb9
  case yb9 => (intro w h; obtain ⟨_, _, _, _⟩ := h; go_simp; with_reducible rfl)
  simp only [Act.put, lyA, lyB, lyC, lyD, lyE, lyF]
  refine JT 10 (v := ?vb10) I0 ?yb10 ?rb10
  case yb10 => (intro w h; obtain ⟨_, _, _, _⟩ := h; go_simp; with_reducible rfl)
  simp only [Act.put, lyA, lyB, lyC, lyD, lyE, lyF]
  refine JT 11 (v := ?vb11) I0 ?yb11 ?rb11
  case yb11 => (intro w h; obtain ⟨_, _, _, _⟩ := h; go_simp; with_reducible rfl)
  simp only [Act.put, lyA, lyB, lyC, lyD, lyE, lyF]
  refine JT 12 (v := ?vb12) I0 ?yb12 ?rb12
  case yb12 => (intro w h; obtain ⟨_, _, _, _⟩ := h; go_simp; with_reducible rfl)
  simp only [Act.put, lyA, lyB, lyC, lyD, lyE, lyF]
  refine J_one 13 rfl (by kernel_rfl) (fun K hK => ?_)
  go_simp
  refine hK _ _ ⟨fun _ => I0, ?_⟩
  clear hK K
  try simp only [Act.put, lyD, lyE, lyF]
  refine J_one 14 rfl (by kernel_rfl) (fun K hK => ?_)
  go_simp
  refine hK _ _ ⟨fun h => absurd rfl h, ?_⟩
  clear hK K
  refine J_done (by kernel_rfl) (OnlyOn.normal ?_)
  have tri5 := hid (tri4.out.row0 (own_turnA (x := tth lq m) tri4.out.o1 hj).2 (own_turnA (x := tth lq m) tri4.out.o1 hj).1)
  clear hf1 hf2 hz0 hz1 I0 tri4
  generalize (W.setCell (ad.add (j * 2)) (.string (tth lq m).key)).setCell ⟨(ad.add (j * 2)).block, (ad.add (j * 2)).off + 1, none⟩ (.int .i64 (tth lq m).no) = W4 at *
  have x3 := node_c0 tri5.out.hq
  have x4 := node_c1 tri5.out.hq
  have x5 := Lib.frozen_of_heap tri5.out.hq 0
  have x6 : (W4.setCell ⟨q, 0, none⟩ (.slice (some aq) m cq)).cell? ⟨q, 1, none⟩ = some (.slice Kq pq.length ckq) := set_keep x4 (off_ne (by decide))
  have lqW := (Array.getElem?_eq_some_iff.1 tri5.out.hq).1
  have oq := own_cut tri5.out.o3 (show m ≤ m + 1 by omega)
  rw [tents_take] at oq
  have tri6 := hid (tri5.out.rot.put0 oq rfl).rot.rot
  have hn1 : ¬ (cq : Int) < (m : Int) := by omega
  have hn2 : m ≤ cq := by omega
  clear oq
  rcases hpq with h0 | h6
  · have d5 : ¬ (0 : Int) < (pq.length : Int) := by omega
    have hpl := hid h0
    clear h0
    go_wp2_with fail
    clear x3 x4 x5 x6
    generalize (W4.setCell ⟨q, 0, none⟩ (.slice (some aq) m cq)) = W6 at *
    go_end0
    have e1 : l'.length = l.length := by rw [el.out, List.length_set]
    have e2 : lq'.length = m := by rw [eq.out, List.length_take]; have := hm.out; omega
    have e3 : lr'.length = lr.length + 1 := by rw [er.out]; rfl
    obtain rfl : pq = [] := List.eq_nil_of_length_eq_zero hpl.out
    obtain rfl : pq' = [] := epq.out
    obtain rfl : pr' = pr := epr.out
    rw [e1, e2, e3, el.out, eq.out, er.out]
    exact ⟨rfl, _, _, _, _, _, _, tri6.out⟩
  · have d5 : (0 : Int) < (pq.length : Int) := by omega
    obtain ⟨akq, rfl⟩ := hkq.out (by omega)
    obtain ⟨m1, hM⟩ : ∃ m1, m + 1 = m1 := ⟨_, rfl⟩
    obtain ⟨u0, hu0⟩ : ∃ u0, pq[m1]? = some u0 := ⟨_, List.getElem?_eq_getElem (by omega)⟩
    have hpl := hid h6
    have hw7 : ((m : Int) + 1) = (m1 : Int) := by omega
    have hw8 : IntKind.i64.wrap ((m : Int) + 1) = (m1 : Int) := by rw [IntWalk.i64_in _ (by omega)]; omega
    have hw9 : IntKind.i64.wrap (m1 : Int) = (m1 : Int) := IntWalk.i64_in _ (by omega)
    have hwa : (m1 : Int) < (pq.length : Int) := by omega
    have hwb : m1 ≤ pq.length := by omega
    rw [hM] at epq epr
    replace hM := hid hM
    replace hu0 := hid hu0
    clear h6
    go_upto_region 6 with fail
    clear x3 x4 x5 x6
    generalize (W4.setCell ⟨q, 0, none⟩ (.slice (some aq) m cq)) = W6 at *
    have tri7 := hid (tri6.out.ext (Ext.refl W6).drew_right)
    have I0 : (fun w' : World => w'.cell? ⟨r, 1, none⟩ = some (.slice Kr pr.length ckr) ∧ w'.cell? ⟨q, 1, none⟩ = some (.slice (some akq) pq.length ckq) ∧ w'.cell? (akq.add m1) = some (.pointer (some ⟨u0, 0, none⟩))) W6.drew := ⟨node_c1 tri7.out.hr, node_c1 tri7.out.hq, own_ptrA tri7.out.o4 hu0.out⟩
    refine region_J (fun w' : World => w'.cell? ⟨r, 1, none⟩ = some (.slice Kr pr.length ckr) ∧ w'.cell? ⟨q, 1, none⟩ = some (.slice (some akq) pq.length ckq) ∧ w'.cell? (akq.add m1) = some (.pointer (some ⟨u0, 0, none⟩))) 17 (by kernel_rfl) ?_
    clear tri6
    generalize W6.drew = W at *
    refine JT 0 (v := ?vc0) I0 ?yc0 ?rc0
    case yc0 => (intro w h; obtain ⟨_, _, _⟩ := h; go_simp; with_reducible rfl)
    simp only [Act.put, lyA, lyB, lyC, lyD, lyE, lyF]
    refine JT 1 (v := ?vc1) I0 ?yc1 ?rc1
    case yc1 => (intro w h; obtain ⟨_, _, _⟩ := h; go_simp; with_reducible rfl)
    simp only [Act.put, lyA, lyB, lyC, lyD, lyE, lyF]
    refine JT 2 (v := ?vc2) I0 ?yc2 ?rc2
    case yc2 => (intro w h; obtain ⟨_, _, _⟩ := h; go_simp; with_reducible rfl)
    simp only [Act.put, lyA, lyB, lyC, lyD, lyE, lyF]
    refine JT 3 (v := ?vc3) I0 ?yc3 ?rc3
    case yc3 => (intro w h; obtain ⟨_, _, _⟩ := h; go_simp; with_reducible rfl)
    simp only [Act.put, lyA, lyB, lyC, lyD, lyE, lyF]
    refine JT 4 (v := ?vc4) I0 ?yc4 ?rc4
    case yc4 => (intro w h; obtain ⟨_, _, _⟩ := h; go_simp; with_reducible rfl)
    simp only [Act.put, lyA, lyB, lyC, lyD, lyE, lyF]
    refine JT 5 (v := ?vc5) I0 ?yc5 ?rc5
    case yc5 => (intro w h; obtain ⟨_, _, _⟩ := h; go_simp; with_reducible rfl)
    simp only [Act.put, lyA, lyB, lyC, lyD, lyE, lyF]
    refine JT 6 (v := ?vc6) I0 ?yc6 ?rc6
    case yc6 => (intro w h; obtain ⟨_, _, _⟩ := h; go_simp; with_reducible rfl)
    simp only [Act.put, lyA, lyB, lyC, lyD, lyE, lyF]
    refine JT 7 (v := ?vc7) I0 ?yc7 ?rc7
    case yc7 => (intro w h; obtain ⟨_, _, _⟩ := h; go_simp; with_reducible rfl)
    simp only [Act.put, lyA, lyB, lyC, lyD, lyE, lyF]
    refine JT 8 (v := ?vc8) I0 ?yc8 ?rc8
    case yc8 => (intro w h; obtain ⟨_, _, _⟩ := h; go_simp; with_reducible rfl)
    simp only [Act.put, lyA, lyB, lyC, lyD, lyE, lyF]
    refine JT 9 (v := ?vc9) I0 ?yc9 ?rc9
    case yc9 => (intro w h; obtain ⟨_, _, _⟩ := h; go_simp; with_reducible rfl)
    simp only [Act.put, lyA, lyB, lyC, lyD, lyE, lyF]
    refine JT 10 (v := ?vc10) I0 ?yc10 ?rc10
    case yc10 => (intro w h; obtain ⟨_, _, _⟩ := h; go_simp; with_reducible rfl)
    simp only [Act.put, lyA, lyB, lyC, lyD, lyE, lyF]
    refine JT 11 (v := ?vc11) I0 ?yc11 ?rc11
    case yc11 => (intro w h; obtain ⟨_, _, _⟩ := h; go_simp; with_reducible rfl)
    simp only [Act.put, lyA, lyB, lyC, lyD, lyE, lyF]
    refine JT 12 (v := ?vc12) I0 ?yc12 ?rc12
    case yc12 => (intro w h; obtain ⟨_, _, _⟩ := h; go_simp; with_reducible rfl)
    simp only [Act.put, lyA, lyB, lyC, lyD, lyE, lyF]
    refine J_one 13 rfl (by kernel_rfl) (fun K hK => ?_)
    go_simp
    have tri8 := hid (tri7.out.ext ((Ext.refl W).alloc_right (.cells #[.pointer (some ⟨u0, 0, none⟩)] 51)))
    have hva := hid (heap_alloc_new W (.cells #[.pointer (some ⟨u0, 0, none⟩)] 51))
    have hne : Hid ((Value.slice Kr pr.length ckr).ownBlock ≠ some W.heap.size) := fun e => by have := (tri7.out.o6.lt _ e).2; omega
    have I1 : (fun w' : World => w'.cell? ⟨r, 1, none⟩ = some (.slice Kr pr.length ckr) ∧ w'.cell? ⟨q, 1, none⟩ = some (.slice (some akq) pq.length ckq) ∧ w'.cell? (akq.add m1) = some (.pointer (some ⟨u0, 0, none⟩))) (W.alloc (.cells #[.pointer (some ⟨u0, 0, none⟩)] 51)) := ⟨((Ext.refl W).alloc_right _).cell I0.1, ((Ext.refl W).alloc_right _).cell I0.2.1, ((Ext.refl W).alloc_right _).cell I0.2.2⟩
    clear tri7
    generalize W.heap.size = va at *
    generalize W.alloc (.cells #[.pointer (some ⟨u0, 0, none⟩)] 51) = W1 at *
    refine hK _ _ ⟨fun _ => I1, ?_⟩
    clear hK K
    try simp only [Act.put, lyA, lyB, lyC, lyD, lyE, lyF]
    refine J_one 14 rfl (by kernel_rfl) (fun K hK => ?_)
    go_simp
    refine (ins_K pr.length 0 _ (ptrs pr) [.pointer (some ⟨u0, 0, none⟩)] va W1 (Nat.zero_le _) (by omega) tri8.out.o6 (ptrs_one _) hva.out rfl (ptrs_one [u0]) hne.out).mono ?_
    rintro e W2 ⟨v', rfl, ho', hrw⟩
    have tri9 : ∀ u, u = v' → Tri f w (W2.setCell ⟨r, 1, none⟩ u) p q r (.slice (some ad) l.length cl) (.slice (some kad) ps.length kc) (.slice (some aq) m cq) (.slice (some akq) pq.length ckq) (.slice Av (lr.length + 1) cv) u l.length ps.length m pq.length (lr.length + 1) (pr.length + 1) (tents (l.set j (tth lq m))) (ptrs ps) (tents (lq.take m)) (ptrs pq) (tents (tth l j :: lr)) (ptrs (u0 :: pr)) := fun u e => by rw [e]; exact (tri8.out.rot.rot.rep1 hrw.1 ho' hrw.2).rot
    replace tri9 := hid tri9
    have hbr : W2.heap[r]? = some (.cells #[.slice Av (lr.length + 1) cv, .slice Kr pr.length ckr] 55 (0, 0)) := (hrw.1.block r (Array.getElem?_eq_some_iff.1 tri8.out.hr).1 (fun e0 => by have := tri8.out.nd r; rw [ob_some e0.symm, one_self] at this; omega)).trans tri8.out.hr
    have hbq : W2.heap[q]? = some (.cells #[.slice (some aq) m cq, .slice (some akq) pq.length ckq] 55 (0, 0)) := (hrw.1.block q (Array.getElem?_eq_some_iff.1 tri8.out.hq).1 (fun e0 => by have := tri8.out.nd q; rw [ob_some e0.symm, one_self] at this; omega)).trans tri8.out.hq
    have hr2 := node_c1 hbr
    have hf2 := Lib.frozen_of_heap hbr 1
    have hE := own_ptrA (own_ne tri8.out.o4 hrw.1 (fun k e e2 => by have := tri8.out.nd k; rw [ob_some e, ob_some e2] at this; omega)) hu0.out
    have I2 : (fun w' : World => w'.cell? ⟨r, 1, none⟩ = some (.slice Kr pr.length ckr) ∧ w'.cell? ⟨q, 1, none⟩ = some (.slice (some akq) pq.length ckq) ∧ w'.cell? (akq.add m1) = some (.pointer (some ⟨u0, 0, none⟩))) W2 := ⟨hr2, node_c1 hbq, hE⟩
    obtain ⟨Aw, cw, rfl, -⟩ := own_form ho'
    clear ho' hrw tri8 hva hne I1 I0 hE hbr hbq
    refine hK _ _ ⟨fun _ => I2, ?_⟩
    clear hK K
    try simp only [Act.put, lyA, lyB, lyC, lyD, lyE, lyF]
    refine J_one 15 rfl (by kernel_rfl) (fun K hK => ?_)
    go_simp
    refine hK _ _ ⟨fun _ => I2, ?_⟩
    clear hK K
    try simp only [Act.put, lyD, lyE, lyF]
    refine J_one 16 rfl (by kernel_rfl) (fun K hK => ?_)
    go_simp
    refine hK _ _ ⟨fun _ => I2, ?_⟩
    clear hK K
    try simp only [Act.put, lyD, lyE, lyF]
    refine J_one 17 rfl (by kernel_rfl) (fun K hK => ?_)
    go_simp
    refine hK _ _ ⟨fun h => absurd rfl h, ?_⟩
    clear hK K
    refine J_done (by kernel_rfl) (OnlyOn.normal ?_)
    replace tri9 := hid (tri9.out _ rfl)
    clear I2 hr2 hf2
    generalize W2.setCell ⟨r, 1, none⟩ (.slice Aw (pr.length + 1) cw) = W3 at *
    have x3 := node_c1 tri9.out.hq
    have x5 := Lib.frozen_of_heap tri9.out.hq 1
    have lqW := (Array.getElem?_eq_some_iff.1 tri9.out.hq).1
    have oq := own_cut tri9.out.o4 hwb
    rw [ptrs_take, Nat.mul_one] at oq
    have tri10 := hid (tri9.out.rot.put1 oq rfl).rot.rot
    have hn3 : ¬ (ckq : Int) < (m1 : Int) := by omega
    have hn4 : m1 ≤ ckq := by omega
    clear oq tri9
    go_wp2_with fail
    clear x3 x5
    generalize (W3.setCell ⟨q, 1, none⟩ (.slice (some akq) m1 ckq)) = W6 at *
    go_end0
    have e1 : l'.length = l.length := by rw [el.out, List.length_set]
    have e2 : lq'.length = m := by rw [eq.out, List.length_take]; have := hm.out; omega
    have e3 : lr'.length = lr.length + 1 := by rw [er.out]; rfl
    have e4 : pq'.length = m1 := by rw [epq.out, List.length_take]; have := hpl.out; have := hM.out; omega
    have e6 : pr' = u0 :: pr := by
      rw [epr.out, List.drop_eq_getElem_cons (by have := hpl.out; have := hM.out; omega), (List.getElem?_eq_some_iff.1 hu0.out).2, List.drop_of_length_le (by have := hpl.out; have := hM.out; omega)]
      rfl
    have e5 : pr'.length = pr.length + 1 := by rw [e6]; rfl
    rw [e1, e2, e3, e4, e5, el.out, eq.out, er.out, epq.out, e6]
    exact ⟨rfl, _, _, _, _, _, _, tri10.out⟩
open Go.RowKit Go.Shelf
def GiveN (l : List Te) (w : World) (e : Ending) (w' : World) : Prop := ∃ A c, e = .returned (.slice A l.length c) ∧ RdN w' A l.length c l ∧ Ext w w'
theorem betw_len (L : List Te) (lo hi : ByteArray) (h : endR L hi ≤ L.length) : (betwT L lo hi).length = endR L hi - min (keyR L lo) (endR L hi) := by
  unfold betwT
  rw [List.length_drop, List.length_take, Nat.min_eq_left h]
theorem end_le {L : List Te} (hS : Srt L) (hi : ByteArray) : endR L hi ≤ L.length := by
  unfold endR
  split
  · exact Nat.le_refl _
  · exact (keyR_cut hS hi).1
theorem rd_part {w : World} {B c a b : Nat} {A : Option Addr} {L : List Te} (h : w.ownsRow B 83 2 (.slice A L.length c) L.length (tents L)) (hab : a ≤ b) (hb : b ≤ L.length) : RdN w (if c = a then A else A.map (·.add (a * 2))) (b - a) (c - a) ((L.take b).drop a) := by
  have hl : ((L.take b).drop a).length = b - a := by rw [List.length_drop, List.length_take, Nat.min_eq_left hb]
  have hr := Rd.of_own h
  have hmx := Rd.max hr
  have e0 : tents ((L.take b).drop a) = ((tents L).drop (a * 2)).take ((b - a) * 2) := by
    rw [tents_drop, tents_take, List.drop_take]
  rcases Nat.eq_zero_or_pos (b - a) with h0 | h0
  · refine ⟨by rw [tents_len, hl], by omega, by unfold maxLen; omega, fun h1 => by omega⟩
  · rw [if_neg (by omega)]
    obtain ⟨ad, rfl, -⟩ := hr.2.2.2 (by omega)
    have e := own_lit h
    rw [e] at hr
    have h2 := hr.sub hab hb
    rw [← e0] at h2
    rw [e]
    show Rd w 2 (some ((⟨ad.block, 0, none⟩ : Addr).add (a * 2))) _ _ _
    rw [lit_add, Nat.zero_add]
    exact h2
theorem between_any (t : Nat) (L : List Te) (h p : Nat) (T : BT) (fT : Nat → Nat) (lo hi : ByteArray) (w : World) (H : TreeAt 0 w t L h p T fT) (l : List Te) (hl : Hid (l = betwT L lo hi)) : Calls Tryz.prog 60 #[.pointer (some ⟨t, 0, none⟩), .string lo, .string hi] w (GiveN l w) := by
  have hE := hid (entries_any t L h p T fT w H)
  have hsr := hid H.sr
  have hle := hid H.le
  clear H
  have hend := end_le hsr.out hi
  have hlo := (keyR_cut hsr.out lo).1
  have hln := betw_len L lo hi hend
  rw [← hl.out] at hln
  obtain ⟨en, hen⟩ : ∃ en, endR L hi = en := ⟨_, rfl⟩
  obtain ⟨r, hr⟩ : ∃ r, keyR L lo = r := ⟨_, rfl⟩
  obtain ⟨a, ha⟩ : ∃ a, min r en = a := ⟨_, rfl⟩
  rw [hen] at hend hln
  rw [hr] at hlo hln
  rw [ha] at hln
  have hae : a ≤ en := by omega
  have hfk := hid (fun (A : Option Addr) (c : Nat) (w2 : World) (hrd : RdN w2 A L.length c L) (s : ByteArray) => fromKey_any A L.length c L s w2 hrd hsr.out (by have := hle.out; omega))
  have hpart : Hid (l = (L.take en).drop a) := by unfold Hid; rw [hl.out]; unfold betwT; rw [hen, hr, ha]
  have hen2 := hen
  unfold endR at hen2
  have hmn : min (r : Int) (en : Int) = (a : Int) := by omega
  replace hln := hid hln
  replace hen := hid hen
  replace ha := hid ha
  have hle10 : L.length ≤ 10000 := hle.out
  have hae2 : (a : Int) ≤ (en : Int) := by omega
  have hfl := hid (fun (A : Option Addr) (c : Nat) (w2 : World) (hrd : RdN w2 A L.length c L) => hfk.out A c w2 hrd lo)
  rw [hr] at hfl
  replace hr := hid hr
  by_cases hb : hi = ⟨#[]⟩
  · rw [if_pos hb] at hen2
    subst hb
    subst hen2
    clear hen
    go_enter Tryz.func60, Tryz.ntmps60
    go_wp2_with fail
    refine hE.out.mono ?_
    rintro e w2 ⟨v, rfl, own2, hx⟩
    obtain ⟨A, c, rfl, -⟩ := own_form own2
    have hrd := hid (show RdN w2 A L.length c L from Rd.of_own own2)
    have hmx := Rd.max hrd.out
    have own2' := hid own2
    replace hx := hid hx
    clear own2
    go_wp2_with fail
    refine (hfl.out A c w2 hrd.out).mono ?_
    rintro e w3 ⟨rfl, hx3⟩
    replace hx := hid (hx.out.trans hx3)
    have hrd3 := hid (rd_part (hx3.own own2'.out) hae (Nat.le_refl _))
    rw [← hpart.out] at hrd3
    clear hx3
    by_cases hca : c = a
    · rw [if_pos hca, hca, Nat.sub_self] at hrd3
      go_wp2
      go_ret
      exact ⟨A, 0, by rw [hln.out]; rfl, by rw [hln.out]; exact hrd3.out, hx.out⟩
    · rw [if_neg hca] at hrd3
      go_wp2
      go_ret
      exact ⟨_, _, by rw [hln.out]; rfl, by rw [hln.out]; exact hrd3.out, hx.out⟩
  · rw [if_neg hb] at hen2
    have hfh := hid (fun (A : Option Addr) (c : Nat) (w2 : World) (hrd : RdN w2 A L.length c L) => hfk.out A c w2 hrd hi)
    rw [hen2] at hfh
    clear hen hen2
    have hbe : hi.toList.isEmpty = false := by
      cases he : hi.toList.isEmpty with
      | false => rfl
      | true => exact absurd (empty_is he) hb
    go_enter Tryz.func60, Tryz.ntmps60
    go_wp2_with fail
    refine hE.out.mono ?_
    rintro e w2 ⟨v, rfl, own2, hx⟩
    obtain ⟨A, c, rfl, -⟩ := own_form own2
    have hrd := hid (show RdN w2 A L.length c L from Rd.of_own own2)
    have hmx := Rd.max hrd.out
    have own2' := hid own2
    replace hx := hid hx
    clear own2
    go_wp2_with fail
    refine (hfh.out A c w2 hrd.out).mono ?_
    rintro e w3 ⟨rfl, hx3⟩
    replace hx := hid (hx.out.trans hx3)
    replace own2' := hid (hx3.own own2'.out)
    replace hrd := hid (hrd.out.ext hx3)
    clear hx3
    go_wp2_with fail
    refine (hfl.out A c w3 hrd.out).mono ?_
    rintro e w4 ⟨rfl, hx4⟩
    replace hx := hid (hx.out.trans hx4)
    have hrd3 := hid (rd_part (hx4.own own2'.out) hae hend)
    rw [← hpart.out] at hrd3
    clear hx4
    by_cases hca : c = a
    · rw [if_pos hca, hca, Nat.sub_self] at hrd3
      go_wp2
      go_ret
      exact ⟨A, 0, by rw [hln.out]; rfl, by rw [hln.out]; exact hrd3.out, hx.out⟩
    · rw [if_neg hca] at hrd3
      go_wp2
      go_ret
      exact ⟨_, _, by rw [hln.out]; rfl, by rw [hln.out]; exact hrd3.out, hx.out⟩
theorem Count_any (t : Nat) (L : List Te) (h p : Nat) (T : BT) (fT : Nat → Nat) (lo hi : ByteArray) (w : World) (H : TreeAt 0 w t L h p T fT) (l : List Te) (hl : Hid (l = betwT L lo hi)) : Calls Tryz.prog 36 #[.pointer (some ⟨t, 0, none⟩), .string lo, .string hi] w (Give (.int .i64 l.length) w) := by
  have hB := hid (between_any t L h p T fT lo hi w H l hl)
  clear H
  go_enter Tryz.func36, Tryz.ntmps36
  go_wp2_with fail
  refine hB.out.mono ?_
  rintro e w2 ⟨A, c, rfl, hrd, hx⟩
  have hmx := Rd.max hrd
  clear hrd
  go_wp2
  go_ret
  exact ⟨rfl, hx⟩
end Go.Proofs.YtpijfiaecicpfaaGreat
