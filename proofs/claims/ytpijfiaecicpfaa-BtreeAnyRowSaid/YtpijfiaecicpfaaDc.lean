/-
  slices.Delete of one entry, of one kid.
-/
import Derived.Test.YtpijfiaecicpfaaB5
import Derived.Test.YtpijfiaecicpfaaBg
namespace Go.Proofs.Ytpijfiaecicpfaa
open Go.RowKit Go.Shelf
set_option linter.unusedVariables false
set_option linter.unusedSimpArgs false
set_option maxRecDepth 100000 in
set_option maxHeartbeats 4000000 in
theorem delA_N (g n c i j : Nat) (cur : List Value) (w : World) (hij : Hid (j = i + 1)) (hlt : i < j) (hj : j ≤ n) (hn : n ≤ c) (hnc : ¬ c = j) (hc : c ≤ 9223372036854775807) (hn2 : n ≤ 1000000) (hcur : cur.length = c * 2)
    (hg : Hid (w.heap[g]? = some (.cells cur.toArray 71 (0, 0)))) (ho : Hid (∀ v ∈ cur.take (n * 2), v.oneCell' = true)) :
    Calls Try.prog 97 #[.slice (some ⟨g, 0, none⟩) n c, .int .i64 i, .int .i64 j] w fun e w' => e = .returned (.slice (some ⟨g, 0, none⟩) (n - 1) c) ∧
      Hid (w'.heap[g]? = some (.cells (splice (splice cur (i * 2) ((cur.drop (j * 2)).take ((n - j) * 2))) ((n - 1) * 2) [.string ⟨#[]⟩, .int .i64 0]).toArray 71 (0, 0))) ∧ Hid (w.grownBy w' (some g)) := by
  have q1 : ((i : Int) == (j : Int)) = false := by rw [beq_eq_false_iff_ne]; omega
  have qa : ¬ j < i := by omega
  have qb : j ≤ n := by omega
  have qc : i ≤ j := by omega
  have qd : i ≤ n := by omega
  have qe : i ≤ c := by omega
  have qg : j ≤ c := by omega
  have qs : i + (n - j) = n - 1 := by have := hij.out; omega
  have qt : n - 1 ≤ n := by omega
  have qu : n - 1 ≤ c := by omega
  have qv : ¬ c = n - 1 := by omega
  have qw : n - (n - 1) = 1 := by omega
  have qx : ¬ c = i := by omega
  go_enter Try.func97, Try.ntmps97
  go_upto_region 5 with fail
  have hg1 : Hid (w.drew.heap[g]? = some (.cells cur.toArray 71 (0, 0))) := hg.out
  have hcl : ((cur.drop (j * 2)).take ((n - j) * 2)).length = (n - j) * 2 := by rw [List.length_take, List.length_drop, hcur]; apply Nat.min_eq_left; omega
  have hsrc : ∀ k v, ((cur.drop (j * 2)).take ((n - j) * 2))[k]? = some v → w.drew.cell? ((⟨g, j * 2, none⟩ : Addr).add k) = some v := fun k v h => by
    refine row_cell hg1.out _ _ ?_
    rw [List.getElem?_take] at h
    split at h
    · rw [List.getElem?_drop] at h; exact h
    · cases h
  have hone : ∀ v ∈ ((cur.drop (j * 2)).take ((n - j) * 2)), v.oneCell' = true := fun v hv => ho.out v (mem_seg (by omega) hv)
  obtain ⟨w2, hap, hg2, hr2⟩ := ex_append_row (P := Try.prog) w.drew 92 92 71 2 Try.underlying92 (by kernel_rfl) g i c cur hg1 ⟨g, j * 2, none⟩ (n - j) (c - j) ((cur.drop (j * 2)).take ((n - j) * 2)) hcl hsrc hone (by omega) (by rw [hcl, hcur]; omega)
  clear hsrc hone
  rw [qs] at hap
  have hl2 : (splice cur (i * 2) ((cur.drop (j * 2)).take ((n - j) * 2))).length = c * 2 := by rw [length_splice _ _ _ (by rw [hcl, hcur]; omega)]; exact hcur
  obtain ⟨w3, hcr, hg3, hr3⟩ := ex_clear_1 (P := Try.prog) w2 92 0 71 g ((n - 1) * 2) (c - (n - 1)) _ _ _ [.string ⟨#[]⟩, .int .i64 0] Try.underlying92 Try.zeroValue71 rfl hg2 (by rw [hl2]; simp; omega) (by simp [Value.oneCell'])
  have hr : Hid (w.grownBy w3 (some g)) := (show w.grownBy w.drew (some g) from ⟨rfl, rfl, rfl, Nat.le_refl _, fun _ _ _ => rfl⟩).trans (hr2.out.trans hr3.out)
  skip
  clear hg1 hg2 hr2 hr3 hl2 hcl
  refine region_J (fun _ => True) 7 (by kernel_rfl) ?_
  refine J_take 0 (v := ?van0) rfl (by kernel_rfl) (by kernel_rfl) (by kernel_rfl) (by kernel_rfl) (fun _ _ _ h => h) (Or.inl ⟨by rfl, ?yan0⟩) trivial ?ran0
  case yan0 => (intro w hSw; obtain _ := hSw; (go_simp; with_reducible rfl))
  simp only [Act.put, List.getElem_toArray, List.getElem_cons_zero, List.getElem_cons_succ, List.setIfInBounds_toArray, List.set_cons_zero, List.set_cons_succ]
  refine J_take 1 (v := ?van1) rfl (by kernel_rfl) (by kernel_rfl) (by kernel_rfl) (by kernel_rfl) (fun _ _ _ h => h) (Or.inl ⟨by rfl, ?yan1⟩) trivial ?ran1
  case yan1 => (intro w hSw; obtain _ := hSw; (go_simp; with_reducible rfl))
  simp only [Act.put, List.getElem_toArray, List.getElem_cons_zero, List.getElem_cons_succ, List.setIfInBounds_toArray, List.set_cons_zero, List.set_cons_succ]
  refine J_take 2 (v := ?van2) rfl (by kernel_rfl) (by kernel_rfl) (by kernel_rfl) (by kernel_rfl) (fun _ _ _ h => h) (Or.inl ⟨by rfl, ?yan2⟩) trivial ?ran2
  case yan2 => (intro w hSw; obtain _ := hSw; (go_simp; with_reducible rfl))
  simp only [Act.put, List.getElem_toArray, List.getElem_cons_zero, List.getElem_cons_succ, List.setIfInBounds_toArray, List.set_cons_zero, List.set_cons_succ]
  refine J_take 3 (v := ?van3) rfl (by kernel_rfl) (by kernel_rfl) (by kernel_rfl) (by kernel_rfl) (fun _ _ _ h => h) (Or.inl ⟨by rfl, ?yan3⟩) trivial ?ran3
  case yan3 => (intro w hSw; obtain _ := hSw; (go_simp; with_reducible rfl))
  simp only [Act.put, List.getElem_toArray, List.getElem_cons_zero, List.getElem_cons_succ, List.setIfInBounds_toArray, List.set_cons_zero, List.set_cons_succ]
  refine J_take 4 (v := ?van4) rfl (by kernel_rfl) (by kernel_rfl) (by kernel_rfl) (by kernel_rfl) (fun _ _ _ h => h) (Or.inl ⟨by rfl, ?yan4⟩) trivial ?ran4
  case yan4 => (intro w hSw; obtain _ := hSw; (go_simp; with_reducible rfl))
  simp only [Act.put, List.getElem_toArray, List.getElem_cons_zero, List.getElem_cons_succ, List.setIfInBounds_toArray, List.set_cons_zero, List.set_cons_succ]
  refine J_take 5 (v := ?van5) rfl (by kernel_rfl) (by kernel_rfl) (by kernel_rfl) (by kernel_rfl) (fun _ _ _ h => h) (Or.inl ⟨by rfl, ?yan5⟩) trivial ?ran5
  case yan5 => (intro w hSw; obtain _ := hSw; (go_simp; with_reducible rfl))
  simp only [Act.put, List.getElem_toArray, List.getElem_cons_zero, List.getElem_cons_succ, List.setIfInBounds_toArray, List.set_cons_zero, List.set_cons_succ]
  refine J_one 6 rfl (by kernel_rfl) (fun K hK => ?_)
  refine step_run rfl _ (ex_append _ _ _ _ rfl _ _ rfl rfl _ hap) ?_
  refine hK _ _ ⟨fun _ => trivial, ?_⟩
  clear hK K hap
  simp only [Act.put, List.getElem_toArray, List.getElem_cons_zero, List.getElem_cons_succ, List.setIfInBounds_toArray, List.set_cons_zero, List.set_cons_succ]
  refine J_one 7 rfl (by kernel_rfl) (fun K hK => ?_)
  go_simp
  refine hK _ _ ⟨fun h => absurd rfl h, ?_⟩
  clear hK K
  refine J_done (by kernel_rfl) (OnlyOn.normal ?_)
  go_wp2
  go_ret
  exact ⟨rfl, hg3, hr⟩
set_option maxRecDepth 100000 in
set_option maxHeartbeats 4000000 in
theorem delB_N (g n i j : Nat) (cur : List Value) (w : World) (hij : Hid (j = i + 1)) (hlt : i < j) (hj : j = n) (hc : n ≤ 9223372036854775807) (hn2 : n ≤ 1000000) (hcur : cur.length = n * 2)
    (hg : Hid (w.heap[g]? = some (.cells cur.toArray 71 (0, 0)))) (ho : Hid (∀ v ∈ cur.take (n * 2), v.oneCell' = true)) :
    Calls Try.prog 97 #[.slice (some ⟨g, 0, none⟩) n n, .int .i64 i, .int .i64 j] w fun e w' => e = .returned (.slice (some ⟨g, 0, none⟩) (n - 1) n) ∧
      Hid (w'.heap[g]? = some (.cells (splice (splice cur (i * 2) ((cur.drop (j * 2)).take ((n - j) * 2))) ((n - 1) * 2) [.string ⟨#[]⟩, .int .i64 0]).toArray 71 (0, 0))) ∧ Hid (w.grownBy w' (some g)) := by
  obtain rfl := hj
  have q1 : ((i : Int) == (j : Int)) = false := by rw [beq_eq_false_iff_ne]; omega
  have qa : ¬ j < i := by omega
  have qb : j ≤ j := by omega
  have qc : i ≤ j := by omega
  have qd : i ≤ j := by omega
  have qe : i ≤ j := by omega
  have qg : j ≤ j := by omega
  have qs : i + (j - j) = j - 1 := by have := hij.out; omega
  have qt : j - 1 ≤ j := by omega
  have qu : j - 1 ≤ j := by omega
  have qv : ¬ j = j - 1 := by omega
  have qw : j - (j - 1) = 1 := by omega
  have qx : ¬ j = i := by omega
  go_enter Try.func97, Try.ntmps97
  go_upto_region 5 with fail
  have hg1 : Hid (w.drew.heap[g]? = some (.cells cur.toArray 71 (0, 0))) := hg.out
  have hcl : ((cur.drop (j * 2)).take ((j - j) * 2)).length = (j - j) * 2 := by rw [List.length_take, List.length_drop, hcur]; apply Nat.min_eq_left; omega
  have hnil : (cur.drop (j * 2)).take ((j - j) * 2) = [] := by rw [Nat.sub_self, Nat.zero_mul, List.take_zero]
  obtain ⟨w2, hap, hg2, hr2⟩ := ex_append_row (P := Try.prog) w.drew 92 92 71 2 Try.underlying92 (by kernel_rfl) g i j cur hg1 ⟨g, 0, none⟩ (j - j) (j - j) ((cur.drop (j * 2)).take ((j - j) * 2)) hcl (fun k v h => by rw [hnil] at h; simp at h) (fun v h => by rw [hnil] at h; cases h) (by omega) (by rw [hcl, hcur]; omega)
  rw [qs] at hap
  rw [Nat.sub_self] at hap
  have hl2 : (splice cur (i * 2) ((cur.drop (j * 2)).take ((j - j) * 2))).length = j * 2 := by rw [length_splice _ _ _ (by rw [hcl, hcur]; omega)]; exact hcur
  obtain ⟨w3, hcr, hg3, hr3⟩ := ex_clear_1 (P := Try.prog) w2 92 0 71 g ((j - 1) * 2) (j - (j - 1)) _ _ _ [.string ⟨#[]⟩, .int .i64 0] Try.underlying92 Try.zeroValue71 rfl hg2 (by rw [hl2]; simp; omega) (by simp [Value.oneCell'])
  have hr : Hid (w.grownBy w3 (some g)) := (show w.grownBy w.drew (some g) from ⟨rfl, rfl, rfl, Nat.le_refl _, fun _ _ _ => rfl⟩).trans (hr2.out.trans hr3.out)
  rw [qw] at hcr
  clear hg1 hg2 hr2 hr3 hl2 hcl
  refine region_J (fun _ => True) 7 (by kernel_rfl) ?_
  refine J_take 0 (v := ?van0) rfl (by kernel_rfl) (by kernel_rfl) (by kernel_rfl) (by kernel_rfl) (fun _ _ _ h => h) (Or.inl ⟨by rfl, ?yan0⟩) trivial ?ran0
  case yan0 => (intro w hSw; obtain _ := hSw; (go_simp; with_reducible rfl))
  simp only [Act.put, List.getElem_toArray, List.getElem_cons_zero, List.getElem_cons_succ, List.setIfInBounds_toArray, List.set_cons_zero, List.set_cons_succ]
  refine J_take 1 (v := ?van1) rfl (by kernel_rfl) (by kernel_rfl) (by kernel_rfl) (by kernel_rfl) (fun _ _ _ h => h) (Or.inl ⟨by rfl, ?yan1⟩) trivial ?ran1
  case yan1 => (intro w hSw; obtain _ := hSw; (go_simp; with_reducible rfl))
  simp only [Act.put, List.getElem_toArray, List.getElem_cons_zero, List.getElem_cons_succ, List.setIfInBounds_toArray, List.set_cons_zero, List.set_cons_succ]
  refine J_take 2 (v := ?van2) rfl (by kernel_rfl) (by kernel_rfl) (by kernel_rfl) (by kernel_rfl) (fun _ _ _ h => h) (Or.inl ⟨by rfl, ?yan2⟩) trivial ?ran2
  case yan2 => (intro w hSw; obtain _ := hSw; (go_simp; with_reducible rfl))
  simp only [Act.put, List.getElem_toArray, List.getElem_cons_zero, List.getElem_cons_succ, List.setIfInBounds_toArray, List.set_cons_zero, List.set_cons_succ]
  refine J_take 3 (v := ?van3) rfl (by kernel_rfl) (by kernel_rfl) (by kernel_rfl) (by kernel_rfl) (fun _ _ _ h => h) (Or.inl ⟨by rfl, ?yan3⟩) trivial ?ran3
  case yan3 => (intro w hSw; obtain _ := hSw; (go_simp; with_reducible rfl))
  simp only [Act.put, List.getElem_toArray, List.getElem_cons_zero, List.getElem_cons_succ, List.setIfInBounds_toArray, List.set_cons_zero, List.set_cons_succ]
  refine J_take 4 (v := ?van4) rfl (by kernel_rfl) (by kernel_rfl) (by kernel_rfl) (by kernel_rfl) (fun _ _ _ h => h) (Or.inl ⟨by rfl, ?yan4⟩) trivial ?ran4
  case yan4 => (intro w hSw; obtain _ := hSw; (go_simp; with_reducible rfl))
  simp only [Act.put, List.getElem_toArray, List.getElem_cons_zero, List.getElem_cons_succ, List.setIfInBounds_toArray, List.set_cons_zero, List.set_cons_succ]
  refine J_take 5 (v := ?van5) rfl (by kernel_rfl) (by kernel_rfl) (by kernel_rfl) (by kernel_rfl) (fun _ _ _ h => h) (Or.inl ⟨by rfl, ?yan5⟩) trivial ?ran5
  case yan5 => (intro w hSw; obtain _ := hSw; (go_simp; with_reducible rfl))
  simp only [Act.put, List.getElem_toArray, List.getElem_cons_zero, List.getElem_cons_succ, List.setIfInBounds_toArray, List.set_cons_zero, List.set_cons_succ]
  refine J_one 6 rfl (by kernel_rfl) (fun K hK => ?_)
  refine step_run rfl _ (ex_append _ _ _ _ rfl _ _ rfl rfl _ hap) ?_
  refine hK _ _ ⟨fun _ => trivial, ?_⟩
  clear hK K hap
  simp only [Act.put, List.getElem_toArray, List.getElem_cons_zero, List.getElem_cons_succ, List.setIfInBounds_toArray, List.set_cons_zero, List.set_cons_succ]
  refine J_one 7 rfl (by kernel_rfl) (fun K hK => ?_)
  go_simp
  refine hK _ _ ⟨fun h => absurd rfl h, ?_⟩
  clear hK K
  refine J_done (by kernel_rfl) (OnlyOn.normal ?_)
  go_wp2
  go_ret
  exact ⟨rfl, hg3, hr⟩
set_option maxRecDepth 100000 in
set_option maxHeartbeats 4000000 in
theorem delA_K (g n c i j : Nat) (cur : List Value) (w : World) (hij : Hid (j = i + 1)) (hlt : i < j) (hj : j ≤ n) (hn : n ≤ c) (hnc : ¬ c = j) (hc : c ≤ 9223372036854775807) (hn2 : n ≤ 1000000) (hcur : cur.length = c * 1)
    (hg : Hid (w.heap[g]? = some (.cells cur.toArray 81 (0, 0)))) (ho : Hid (∀ v ∈ cur.take (n * 1), v.oneCell' = true)) :
    Calls Try.prog 134 #[.slice (some ⟨g, 0, none⟩) n c, .int .i64 i, .int .i64 j] w fun e w' => e = .returned (.slice (some ⟨g, 0, none⟩) (n - 1) c) ∧
      Hid (w'.heap[g]? = some (.cells (splice (splice cur (i * 1) ((cur.drop (j * 1)).take ((n - j) * 1))) ((n - 1) * 1) [.pointer none]).toArray 81 (0, 0))) ∧ Hid (w.grownBy w' (some g)) := by
  have q1 : ((i : Int) == (j : Int)) = false := by rw [beq_eq_false_iff_ne]; omega
  have qa : ¬ j < i := by omega
  have qb : j ≤ n := by omega
  have qc : i ≤ j := by omega
  have qd : i ≤ n := by omega
  have qe : i ≤ c := by omega
  have qg : j ≤ c := by omega
  have qs : i + (n - j) = n - 1 := by have := hij.out; omega
  have qt : n - 1 ≤ n := by omega
  have qu : n - 1 ≤ c := by omega
  have qv : ¬ c = n - 1 := by omega
  have qw : n - (n - 1) = 1 := by omega
  have qx : ¬ c = i := by omega
  go_enter Try.func134, Try.ntmps134
  go_upto_region 5 with fail
  have hg1 : Hid (w.drew.heap[g]? = some (.cells cur.toArray 81 (0, 0))) := hg.out
  have hcl : ((cur.drop (j * 1)).take ((n - j) * 1)).length = (n - j) * 1 := by rw [List.length_take, List.length_drop, hcur]; apply Nat.min_eq_left; omega
  have hsrc : ∀ k v, ((cur.drop (j * 1)).take ((n - j) * 1))[k]? = some v → w.drew.cell? ((⟨g, j * 1, none⟩ : Addr).add k) = some v := fun k v h => by
    refine row_cell hg1.out _ _ ?_
    rw [List.getElem?_take] at h
    split at h
    · rw [List.getElem?_drop] at h; exact h
    · cases h
  have hone : ∀ v ∈ ((cur.drop (j * 1)).take ((n - j) * 1)), v.oneCell' = true := fun v hv => ho.out v (mem_seg (by omega) hv)
  obtain ⟨w2, hap, hg2, hr2⟩ := ex_append_row (P := Try.prog) w.drew 103 103 81 1 Try.underlying103 (by kernel_rfl) g i c cur hg1 ⟨g, j * 1, none⟩ (n - j) (c - j) ((cur.drop (j * 1)).take ((n - j) * 1)) hcl hsrc hone (by omega) (by rw [hcl, hcur]; omega)
  clear hsrc hone
  rw [qs] at hap
  have hl2 : (splice cur (i * 1) ((cur.drop (j * 1)).take ((n - j) * 1))).length = c * 1 := by rw [length_splice _ _ _ (by rw [hcl, hcur]; omega)]; exact hcur
  obtain ⟨w3, hcr, hg3, hr3⟩ := ex_clear_1 (P := Try.prog) w2 103 0 81 g ((n - 1) * 1) (c - (n - 1)) _ _ _ [.pointer none] Try.underlying103 Try.zeroValue81 rfl hg2 (by rw [hl2]; simp; omega) (by simp [Value.oneCell'])
  have hr : Hid (w.grownBy w3 (some g)) := (show w.grownBy w.drew (some g) from ⟨rfl, rfl, rfl, Nat.le_refl _, fun _ _ _ => rfl⟩).trans (hr2.out.trans hr3.out)
  skip
  clear hg1 hg2 hr2 hr3 hl2 hcl
  try simp only [Nat.mul_one] at hap hcr
  refine region_J (fun _ => True) 7 (by kernel_rfl) ?_
  refine J_take 0 (v := ?vak0) rfl (by kernel_rfl) (by kernel_rfl) (by kernel_rfl) (by kernel_rfl) (fun _ _ _ h => h) (Or.inl ⟨by rfl, ?yak0⟩) trivial ?rak0
  case yak0 => (intro w hSw; obtain _ := hSw; (go_simp; with_reducible rfl))
  simp only [Act.put, List.getElem_toArray, List.getElem_cons_zero, List.getElem_cons_succ, List.setIfInBounds_toArray, List.set_cons_zero, List.set_cons_succ]
  refine J_take 1 (v := ?vak1) rfl (by kernel_rfl) (by kernel_rfl) (by kernel_rfl) (by kernel_rfl) (fun _ _ _ h => h) (Or.inl ⟨by rfl, ?yak1⟩) trivial ?rak1
  case yak1 => (intro w hSw; obtain _ := hSw; (go_simp; with_reducible rfl))
  simp only [Act.put, List.getElem_toArray, List.getElem_cons_zero, List.getElem_cons_succ, List.setIfInBounds_toArray, List.set_cons_zero, List.set_cons_succ]
  refine J_take 2 (v := ?vak2) rfl (by kernel_rfl) (by kernel_rfl) (by kernel_rfl) (by kernel_rfl) (fun _ _ _ h => h) (Or.inl ⟨by rfl, ?yak2⟩) trivial ?rak2
  case yak2 => (intro w hSw; obtain _ := hSw; (go_simp; with_reducible rfl))
  simp only [Act.put, List.getElem_toArray, List.getElem_cons_zero, List.getElem_cons_succ, List.setIfInBounds_toArray, List.set_cons_zero, List.set_cons_succ]
  refine J_take 3 (v := ?vak3) rfl (by kernel_rfl) (by kernel_rfl) (by kernel_rfl) (by kernel_rfl) (fun _ _ _ h => h) (Or.inl ⟨by rfl, ?yak3⟩) trivial ?rak3
  case yak3 => (intro w hSw; obtain _ := hSw; (go_simp; with_reducible rfl))
  simp only [Act.put, List.getElem_toArray, List.getElem_cons_zero, List.getElem_cons_succ, List.setIfInBounds_toArray, List.set_cons_zero, List.set_cons_succ]
  refine J_take 4 (v := ?vak4) rfl (by kernel_rfl) (by kernel_rfl) (by kernel_rfl) (by kernel_rfl) (fun _ _ _ h => h) (Or.inl ⟨by rfl, ?yak4⟩) trivial ?rak4
  case yak4 => (intro w hSw; obtain _ := hSw; (go_simp; with_reducible rfl))
  simp only [Act.put, List.getElem_toArray, List.getElem_cons_zero, List.getElem_cons_succ, List.setIfInBounds_toArray, List.set_cons_zero, List.set_cons_succ]
  refine J_take 5 (v := ?vak5) rfl (by kernel_rfl) (by kernel_rfl) (by kernel_rfl) (by kernel_rfl) (fun _ _ _ h => h) (Or.inl ⟨by rfl, ?yak5⟩) trivial ?rak5
  case yak5 => (intro w hSw; obtain _ := hSw; (go_simp; with_reducible rfl))
  simp only [Act.put, List.getElem_toArray, List.getElem_cons_zero, List.getElem_cons_succ, List.setIfInBounds_toArray, List.set_cons_zero, List.set_cons_succ]
  refine J_one 6 rfl (by kernel_rfl) (fun K hK => ?_)
  refine step_run rfl _ (ex_append _ _ _ _ rfl _ _ rfl rfl _ hap) ?_
  refine hK _ _ ⟨fun _ => trivial, ?_⟩
  clear hK K hap
  simp only [Act.put, List.getElem_toArray, List.getElem_cons_zero, List.getElem_cons_succ, List.setIfInBounds_toArray, List.set_cons_zero, List.set_cons_succ]
  refine J_one 7 rfl (by kernel_rfl) (fun K hK => ?_)
  go_simp
  refine hK _ _ ⟨fun h => absurd rfl h, ?_⟩
  clear hK K
  refine J_done (by kernel_rfl) (OnlyOn.normal ?_)
  go_wp2
  go_ret
  exact ⟨rfl, hg3, hr⟩
set_option maxRecDepth 100000 in
set_option maxHeartbeats 4000000 in
theorem delB_K (g n i j : Nat) (cur : List Value) (w : World) (hij : Hid (j = i + 1)) (hlt : i < j) (hj : j = n) (hc : n ≤ 9223372036854775807) (hn2 : n ≤ 1000000) (hcur : cur.length = n * 1)
    (hg : Hid (w.heap[g]? = some (.cells cur.toArray 81 (0, 0)))) (ho : Hid (∀ v ∈ cur.take (n * 1), v.oneCell' = true)) :
    Calls Try.prog 134 #[.slice (some ⟨g, 0, none⟩) n n, .int .i64 i, .int .i64 j] w fun e w' => e = .returned (.slice (some ⟨g, 0, none⟩) (n - 1) n) ∧
      Hid (w'.heap[g]? = some (.cells (splice (splice cur (i * 1) ((cur.drop (j * 1)).take ((n - j) * 1))) ((n - 1) * 1) [.pointer none]).toArray 81 (0, 0))) ∧ Hid (w.grownBy w' (some g)) := by
  obtain rfl := hj
  have q1 : ((i : Int) == (j : Int)) = false := by rw [beq_eq_false_iff_ne]; omega
  have qa : ¬ j < i := by omega
  have qb : j ≤ j := by omega
  have qc : i ≤ j := by omega
  have qd : i ≤ j := by omega
  have qe : i ≤ j := by omega
  have qg : j ≤ j := by omega
  have qs : i + (j - j) = j - 1 := by have := hij.out; omega
  have qt : j - 1 ≤ j := by omega
  have qu : j - 1 ≤ j := by omega
  have qv : ¬ j = j - 1 := by omega
  have qw : j - (j - 1) = 1 := by omega
  have qx : ¬ j = i := by omega
  go_enter Try.func134, Try.ntmps134
  go_upto_region 5 with fail
  have hg1 : Hid (w.drew.heap[g]? = some (.cells cur.toArray 81 (0, 0))) := hg.out
  have hcl : ((cur.drop (j * 1)).take ((j - j) * 1)).length = (j - j) * 1 := by rw [List.length_take, List.length_drop, hcur]; apply Nat.min_eq_left; omega
  have hnil : (cur.drop (j * 1)).take ((j - j) * 1) = [] := by rw [Nat.sub_self, Nat.zero_mul, List.take_zero]
  obtain ⟨w2, hap, hg2, hr2⟩ := ex_append_row (P := Try.prog) w.drew 103 103 81 1 Try.underlying103 (by kernel_rfl) g i j cur hg1 ⟨g, 0, none⟩ (j - j) (j - j) ((cur.drop (j * 1)).take ((j - j) * 1)) hcl (fun k v h => by rw [hnil] at h; simp at h) (fun v h => by rw [hnil] at h; cases h) (by omega) (by rw [hcl, hcur]; omega)
  rw [qs] at hap
  rw [Nat.sub_self] at hap
  have hl2 : (splice cur (i * 1) ((cur.drop (j * 1)).take ((j - j) * 1))).length = j * 1 := by rw [length_splice _ _ _ (by rw [hcl, hcur]; omega)]; exact hcur
  obtain ⟨w3, hcr, hg3, hr3⟩ := ex_clear_1 (P := Try.prog) w2 103 0 81 g ((j - 1) * 1) (j - (j - 1)) _ _ _ [.pointer none] Try.underlying103 Try.zeroValue81 rfl hg2 (by rw [hl2]; simp; omega) (by simp [Value.oneCell'])
  have hr : Hid (w.grownBy w3 (some g)) := (show w.grownBy w.drew (some g) from ⟨rfl, rfl, rfl, Nat.le_refl _, fun _ _ _ => rfl⟩).trans (hr2.out.trans hr3.out)
  rw [qw] at hcr
  clear hg1 hg2 hr2 hr3 hl2 hcl
  try simp only [Nat.mul_one] at hap hcr
  refine region_J (fun _ => True) 7 (by kernel_rfl) ?_
  refine J_take 0 (v := ?vak0) rfl (by kernel_rfl) (by kernel_rfl) (by kernel_rfl) (by kernel_rfl) (fun _ _ _ h => h) (Or.inl ⟨by rfl, ?yak0⟩) trivial ?rak0
  case yak0 => (intro w hSw; obtain _ := hSw; (go_simp; with_reducible rfl))
  simp only [Act.put, List.getElem_toArray, List.getElem_cons_zero, List.getElem_cons_succ, List.setIfInBounds_toArray, List.set_cons_zero, List.set_cons_succ]
  refine J_take 1 (v := ?vak1) rfl (by kernel_rfl) (by kernel_rfl) (by kernel_rfl) (by kernel_rfl) (fun _ _ _ h => h) (Or.inl ⟨by rfl, ?yak1⟩) trivial ?rak1
  case yak1 => (intro w hSw; obtain _ := hSw; (go_simp; with_reducible rfl))
  simp only [Act.put, List.getElem_toArray, List.getElem_cons_zero, List.getElem_cons_succ, List.setIfInBounds_toArray, List.set_cons_zero, List.set_cons_succ]
  refine J_take 2 (v := ?vak2) rfl (by kernel_rfl) (by kernel_rfl) (by kernel_rfl) (by kernel_rfl) (fun _ _ _ h => h) (Or.inl ⟨by rfl, ?yak2⟩) trivial ?rak2
  case yak2 => (intro w hSw; obtain _ := hSw; (go_simp; with_reducible rfl))
  simp only [Act.put, List.getElem_toArray, List.getElem_cons_zero, List.getElem_cons_succ, List.setIfInBounds_toArray, List.set_cons_zero, List.set_cons_succ]
  refine J_take 3 (v := ?vak3) rfl (by kernel_rfl) (by kernel_rfl) (by kernel_rfl) (by kernel_rfl) (fun _ _ _ h => h) (Or.inl ⟨by rfl, ?yak3⟩) trivial ?rak3
  case yak3 => (intro w hSw; obtain _ := hSw; (go_simp; with_reducible rfl))
  simp only [Act.put, List.getElem_toArray, List.getElem_cons_zero, List.getElem_cons_succ, List.setIfInBounds_toArray, List.set_cons_zero, List.set_cons_succ]
  refine J_take 4 (v := ?vak4) rfl (by kernel_rfl) (by kernel_rfl) (by kernel_rfl) (by kernel_rfl) (fun _ _ _ h => h) (Or.inl ⟨by rfl, ?yak4⟩) trivial ?rak4
  case yak4 => (intro w hSw; obtain _ := hSw; (go_simp; with_reducible rfl))
  simp only [Act.put, List.getElem_toArray, List.getElem_cons_zero, List.getElem_cons_succ, List.setIfInBounds_toArray, List.set_cons_zero, List.set_cons_succ]
  refine J_take 5 (v := ?vak5) rfl (by kernel_rfl) (by kernel_rfl) (by kernel_rfl) (by kernel_rfl) (fun _ _ _ h => h) (Or.inl ⟨by rfl, ?yak5⟩) trivial ?rak5
  case yak5 => (intro w hSw; obtain _ := hSw; (go_simp; with_reducible rfl))
  simp only [Act.put, List.getElem_toArray, List.getElem_cons_zero, List.getElem_cons_succ, List.setIfInBounds_toArray, List.set_cons_zero, List.set_cons_succ]
  refine J_one 6 rfl (by kernel_rfl) (fun K hK => ?_)
  refine step_run rfl _ (ex_append _ _ _ _ rfl _ _ rfl rfl _ hap) ?_
  refine hK _ _ ⟨fun _ => trivial, ?_⟩
  clear hK K hap
  simp only [Act.put, List.getElem_toArray, List.getElem_cons_zero, List.getElem_cons_succ, List.setIfInBounds_toArray, List.set_cons_zero, List.set_cons_succ]
  refine J_one 7 rfl (by kernel_rfl) (fun K hK => ?_)
  go_simp
  refine hK _ _ ⟨fun h => absurd rfl h, ?_⟩
  clear hK K
  refine J_done (by kernel_rfl) (OnlyOn.normal ?_)
  go_wp2
  go_ret
  exact ⟨rfl, hg3, hr⟩
end Go.Proofs.Ytpijfiaecicpfaa
