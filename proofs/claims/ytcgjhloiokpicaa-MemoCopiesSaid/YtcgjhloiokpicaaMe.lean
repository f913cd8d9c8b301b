/-
  slices.Delete of one entry, slices.Clone.
-/
import Derived.Test.YtcgjhloiokpicaaMa
namespace Go.Proofs.Ytcgjhloiokpicaa
open Go.RowKit
set_option linter.unusedVariables false
set_option linter.unusedSimpArgs false
/-- An operation whose run is known. -/
theorem step_run {P : Program} {ops : Array Oper} {o : Oper} {a : Act} {w w' : World} {K : Act → World → Prop} {Q : Exit → Act → World → Prop} {E : Prop} (hgd : o.guard = none) (v : Value)
    (hr : ((execOp a.eval o).run P w) = .ok (.value v) w') (h : K (a.put o.dst v) w') : if Region.wanted o (yielded ops a.tmps) = true then Oper.wp P o a w K Q else E := by
  have hw : Region.wanted o (yielded ops a.tmps) = true := by simp [Region.wanted, hgd]
  rw [if_pos hw]
  unfold Oper.wp
  rw [hr]
  exact h
theorem ex_append {P : Program} {o : Oper} {a : Act} {w w' : World} (s x : Operand) (t tn : TypeId) (ho : o.op = .call { callee := .builtin .append, args := #[s, x], argTypes := #[t, tn] }) (vs vx : Value) (hs : a.eval s = vs) (hx : a.eval x = vx)
    (v' : Value) (hr : (Builtin.append_ #[t, tn] o.type #[vs, vx]).run P w = .ok v' w') : (execOp a.eval o).run P w = .ok (.value v') w' := by
  unfold execOp
  simp only [ho, resolve, invoke, builtin, Sem.run_bind, Sem.run_pure, Result.andThen_ok, List.map_toArray, List.map_cons, List.map_nil, hs, hx, hr]
theorem zero_cells_1 (z : Array Value) : (Builtin.zeroCells z 1).toList = z.toList := by
  apply List.ext_getElem
  · simp [Builtin.zeroCells]
  · intro i h1 h2
    simp at h2
    simp [Builtin.zeroCells, Nat.mod_eq_of_lt h2, h2]
/-- clear of one element of k cells, as an equation for the walk. -/
theorem ex_clear_1 {P : Program} (w : World) (t ty elem : TypeId) (g o c : Nat) (cur : List Value) (T : TypeId) (z : Value) (zs : List Value) (hu : P.underlying t = some (.slice elem)) (hz : ∀ w, (zeroValue elem).run P w = .ok z w) (hzs : z.cells.toList = zs)
    (hg : Hid (w.heap[g]? = some (.cells cur.toArray T (0, 0)))) (hfit : o + zs.length ≤ cur.length) (h1 : ∀ v ∈ zs, v.oneCell' = true) :
    ∃ w', (Builtin.clear_ #[t] ty #[.slice (some ⟨g, o, none⟩) 1 c]).run P w = .ok (.tuple #[]) w' ∧ Hid (w'.heap[g]? = some (.cells (splice cur o zs).toArray T (0, 0))) ∧ Hid (w.grownBy w' (some g)) := by
  refine ⟨w.setRow g (splice cur o zs).toArray, ?_, setRow_heap w g _ _ T _ hg.out, grown_setRow0 w g _⟩
  have hst := run_storeCells_at P g o T zs 0 cur.toArray w hg.out (by simpa using hfit) h1
  simp [Builtin.clear_, run_underlying hu, hz, zero_cells_1, hzs, hst, splice]
def zEn : En := ⟨0, 0, 0, ⟨#[]⟩⟩
/-- What a deletion leaves in the row. -/
theorem del_row {cur : List Value} {l : List En} {i c : Nat} (hl : cur.length = c * 4) (hn : l.length ≤ c) (hi : i < l.length) (ht : cur.take (l.length * 4) = ents l) :
    (cur.take (i * 4) ++ (cur.drop ((i + 1) * 4)).take ((l.length - (i + 1)) * 4) ++ cur.drop (i * 4 + (l.length - (i + 1)) * 4)).take ((l.length - 1) * 4) = ents (l.eraseIdx i) := by
  have h1 := seg_take ht (i := i) (by omega)
  have h2 := seg_drop ht (j := i + 1) (by omega)
  have hc1 : (cur.take (i * 4)).length = i * 4 := by rw [List.length_take]; omega
  have hc2 : ((cur.drop ((i + 1) * 4)).take ((l.length - (i + 1)) * 4)).length = (l.length - (i + 1)) * 4 := by rw [List.length_take, List.length_drop]; omega
  rw [List.take_append_of_le_length (by rw [List.length_append, hc1, hc2]; omega), List.take_of_length_le (by rw [List.length_append, hc1, hc2]; omega), h1, h2, List.eraseIdx_eq_take_drop_succ, ents_append]
theorem ex_append_row {P : Program} (w : World) (t ty e : TypeId) (k : Nat) (hu : P.underlying t = some (.slice e)) (hs : (P.info? e).map (·.size) = some k) (g n cap : Nat) (cur : List Value) (hg : Hid (w.heap[g]? = some (.cells cur.toArray e (0, 0))))
    (a : Addr) (m c : Nat) (news : List Value) (hl : news.length = m * k) (hnews : ∀ j u, news[j]? = some u → w.cell? (a.add j) = some u) (h1 : ∀ u ∈ news, u.oneCell' = true) (hroom : n + m ≤ cap) (hfit : n * k + news.length ≤ cur.length) :
    ∃ w', (Builtin.append_ #[t, t] ty #[.slice (some ⟨g, 0, none⟩) n cap, .slice (some a) m c]).run P w = .ok (.slice (some ⟨g, 0, none⟩) (n + m) cap) w' ∧ Hid (w'.heap[g]? = some (.cells (splice cur (n * k) news).toArray e (0, 0))) ∧ Hid (w.grownBy w' (some g)) := by
  cases hq : P.info? e with
  | none => simp [hq] at hs
  | some i =>
    have hi : i.size = k := by simpa [hq] using hs
    subst hi
    refine ⟨w.setRow g (splice cur (n * i.size) news).toArray, ?_, setRow_heap w g _ _ e _ hg.out, grown_setRow0 w g _⟩
    rw [run_append_room w t ty e i hu hq g n cap cur.toArray hg.out a m c news hl hnews h1 hroom (by simpa using hfit)]
    simp [splice, List.append_assoc]
set_option maxRecDepth 100000 in
set_option maxHeartbeats 4000000 in
theorem delA_any (g n c i j : Nat) (cur : List Value) (w : World) (hij : Hid (j = i + 1)) (hlt : i < j) (hj : j ≤ n) (hn : n ≤ c) (hnc : ¬ c = j) (hc : c ≤ 9223372036854775807) (hn2 : n ≤ 1000000) (hcur : cur.length = c * 4)
    (hg : Hid (w.heap[g]? = some (.cells cur.toArray 78 (0, 0)))) (ho : Hid (∀ v ∈ cur.take (n * 4), v.oneCell' = true)) :
    Calls Try.prog 70 #[.slice (some ⟨g, 0, none⟩) n c, .int .i64 i, .int .i64 j] w fun e w' => e = .returned (.slice (some ⟨g, 0, none⟩) (n - 1) c) ∧
      Hid (w'.heap[g]? = some (.cells (splice (splice cur (i * 4) ((cur.drop (j * 4)).take ((n - j) * 4))) ((n - 1) * 4) zEn.cells).toArray 78 (0, 0))) ∧ Hid (w.grownBy w' (some g)) := by
  have q1 : ((i : Int) == (j : Int)) = false := by rw [beq_eq_false_iff_ne]; omega
  have qa : ¬ j < i := by omega
  have qb : j ≤ n := by omega
  have qc : i ≤ j := by omega
  have qd : i ≤ n := by omega
  have qe : i ≤ c := by omega
  have qg : j ≤ c := by omega
  have qs : i + (n - j) = n - 1 := by have := hij.out; omega
  have qt : n - 1 ≤ n := by omega
  have qu : n - 1 ≤ c := by omega
  have qv : ¬ c = n - 1 := by omega
  have qw : n - (n - 1) = 1 := by omega
  have qx : ¬ c = i := by omega
  go_enter Try.func70, Try.ntmps70
  go_upto_region 5 with fail
  have hg1 : Hid (w.drew.heap[g]? = some (.cells cur.toArray 78 (0, 0))) := hg.out
  have hcl : ((cur.drop (j * 4)).take ((n - j) * 4)).length = (n - j) * 4 := by rw [List.length_take, List.length_drop, hcur]; apply Nat.min_eq_left; omega
  have hsrc : ∀ k v, ((cur.drop (j * 4)).take ((n - j) * 4))[k]? = some v → w.drew.cell? ((⟨g, j * 4, none⟩ : Addr).add k) = some v := fun k v h => by
    refine row_cell hg1.out _ _ ?_
    rw [List.getElem?_take] at h
    split at h
    · rw [List.getElem?_drop] at h; exact h
    · cases h
  have hone : ∀ v ∈ ((cur.drop (j * 4)).take ((n - j) * 4)), v.oneCell' = true := fun v hv => ho.out v (mem_seg (by omega) hv)
  obtain ⟨w2, hap, hg2, hr2⟩ := ex_append_row (P := Try.prog) w.drew 74 74 78 4 Try.underlying74 (by kernel_rfl) g i c cur hg1 ⟨g, j * 4, none⟩ (n - j) (c - j) ((cur.drop (j * 4)).take ((n - j) * 4)) hcl hsrc hone (by omega) (by rw [hcl, hcur]; omega)
  clear hsrc hone
  rw [qs] at hap
  have hl2 : (splice cur (i * 4) ((cur.drop (j * 4)).take ((n - j) * 4))).length = c * 4 := by rw [length_splice _ _ _ (by rw [hcl, hcur]; omega)]; exact hcur
  obtain ⟨w3, hcr, hg3, hr3⟩ := ex_clear_1 (P := Try.prog) w2 74 0 78 g ((n - 1) * 4) (c - (n - 1)) _ _ _ zEn.cells Try.underlying74 Try.zeroValue78 rfl hg2 (by rw [hl2]; simp [En.cells]; omega) (by simp [zEn, En.cells, Value.oneCell'])
  have hr : Hid (w.grownBy w3 (some g)) := (show w.grownBy w.drew (some g) from ⟨rfl, rfl, rfl, Nat.le_refl _, fun _ _ _ => rfl⟩).trans (hr2.out.trans hr3.out)
  skip
  clear hg1 hg2 hr2 hr3 hl2 hcl
  refine region_J (fun _ => True) 7 (by kernel_rfl) ?_
  refine J_take 0 (v := ?va0) rfl (by kernel_rfl) (by kernel_rfl) (by kernel_rfl) (by kernel_rfl) (fun _ _ _ h => h) (Or.inl ⟨by rfl, ?ya0⟩) trivial ?ra0
  case ya0 => (intro w hSw; obtain _ := hSw; (go_simp; with_reducible rfl))
  simp only [Act.put, List.getElem_toArray, List.getElem_cons_zero, List.getElem_cons_succ, List.setIfInBounds_toArray, List.set_cons_zero, List.set_cons_succ]
  refine J_take 1 (v := ?va1) rfl (by kernel_rfl) (by kernel_rfl) (by kernel_rfl) (by kernel_rfl) (fun _ _ _ h => h) (Or.inl ⟨by rfl, ?ya1⟩) trivial ?ra1
  case ya1 => (intro w hSw; obtain _ := hSw; (go_simp; with_reducible rfl))
  simp only [Act.put, List.getElem_toArray, List.getElem_cons_zero, List.getElem_cons_succ, List.setIfInBounds_toArray, List.set_cons_zero, List.set_cons_succ]
  refine J_take 2 (v := ?va2) rfl (by kernel_rfl) (by kernel_rfl) (by kernel_rfl) (by kernel_rfl) (fun _ _ _ h => h) (Or.inl ⟨by rfl, ?ya2⟩) trivial ?ra2
  case ya2 => (intro w hSw; obtain _ := hSw; (go_simp; with_reducible rfl))
  simp only [Act.put, List.getElem_toArray, List.getElem_cons_zero, List.getElem_cons_succ, List.setIfInBounds_toArray, List.set_cons_zero, List.set_cons_succ]
  refine J_take 3 (v := ?va3) rfl (by kernel_rfl) (by kernel_rfl) (by kernel_rfl) (by kernel_rfl) (fun _ _ _ h => h) (Or.inl ⟨by rfl, ?ya3⟩) trivial ?ra3
  case ya3 => (intro w hSw; obtain _ := hSw; (go_simp; with_reducible rfl))
  simp only [Act.put, List.getElem_toArray, List.getElem_cons_zero, List.getElem_cons_succ, List.setIfInBounds_toArray, List.set_cons_zero, List.set_cons_succ]
  refine J_take 4 (v := ?va4) rfl (by kernel_rfl) (by kernel_rfl) (by kernel_rfl) (by kernel_rfl) (fun _ _ _ h => h) (Or.inl ⟨by rfl, ?ya4⟩) trivial ?ra4
  case ya4 => (intro w hSw; obtain _ := hSw; (go_simp; with_reducible rfl))
  simp only [Act.put, List.getElem_toArray, List.getElem_cons_zero, List.getElem_cons_succ, List.setIfInBounds_toArray, List.set_cons_zero, List.set_cons_succ]
  refine J_take 5 (v := ?va5) rfl (by kernel_rfl) (by kernel_rfl) (by kernel_rfl) (by kernel_rfl) (fun _ _ _ h => h) (Or.inl ⟨by rfl, ?ya5⟩) trivial ?ra5
  case ya5 => (intro w hSw; obtain _ := hSw; (go_simp; with_reducible rfl))
  simp only [Act.put, List.getElem_toArray, List.getElem_cons_zero, List.getElem_cons_succ, List.setIfInBounds_toArray, List.set_cons_zero, List.set_cons_succ]
  refine J_one 6 rfl (by kernel_rfl) (fun K hK => ?_)
  refine step_run rfl _ (ex_append _ _ _ _ rfl _ _ rfl rfl _ hap) ?_
  refine hK _ _ ⟨fun _ => trivial, ?_⟩
  clear hK K hap
  simp only [Act.put, List.getElem_toArray, List.getElem_cons_zero, List.getElem_cons_succ, List.setIfInBounds_toArray, List.set_cons_zero, List.set_cons_succ]
  refine J_one 7 rfl (by kernel_rfl) (fun K hK => ?_)
  go_simp
  refine hK _ _ ⟨fun h => absurd rfl h, ?_⟩
  clear hK K
  refine J_done (by kernel_rfl) (OnlyOn.normal ?_)
  go_wp2
  go_ret
  exact ⟨rfl, hg3, hr⟩
set_option maxRecDepth 100000 in
set_option maxHeartbeats 4000000 in
theorem delB_any (g n i j : Nat) (cur : List Value) (w : World) (hij : Hid (j = i + 1)) (hlt : i < j) (hj : j = n) (hc : n ≤ 9223372036854775807) (hn2 : n ≤ 1000000) (hcur : cur.length = n * 4)
    (hg : Hid (w.heap[g]? = some (.cells cur.toArray 78 (0, 0)))) (ho : Hid (∀ v ∈ cur.take (n * 4), v.oneCell' = true)) :
    Calls Try.prog 70 #[.slice (some ⟨g, 0, none⟩) n n, .int .i64 i, .int .i64 j] w fun e w' => e = .returned (.slice (some ⟨g, 0, none⟩) (n - 1) n) ∧
      Hid (w'.heap[g]? = some (.cells (splice (splice cur (i * 4) ((cur.drop (j * 4)).take ((n - j) * 4))) ((n - 1) * 4) zEn.cells).toArray 78 (0, 0))) ∧ Hid (w.grownBy w' (some g)) := by
  obtain rfl := hj
  have q1 : ((i : Int) == (j : Int)) = false := by rw [beq_eq_false_iff_ne]; omega
  have qa : ¬ j < i := by omega
  have qb : j ≤ j := by omega
  have qc : i ≤ j := by omega
  have qd : i ≤ j := by omega
  have qe : i ≤ j := by omega
  have qg : j ≤ j := by omega
  have qs : i + (j - j) = j - 1 := by have := hij.out; omega
  have qt : j - 1 ≤ j := by omega
  have qu : j - 1 ≤ j := by omega
  have qv : ¬ j = j - 1 := by omega
  have qw : j - (j - 1) = 1 := by omega
  have qx : ¬ j = i := by omega
  go_enter Try.func70, Try.ntmps70
  go_upto_region 5 with fail
  have hg1 : Hid (w.drew.heap[g]? = some (.cells cur.toArray 78 (0, 0))) := hg.out
  have hcl : ((cur.drop (j * 4)).take ((j - j) * 4)).length = (j - j) * 4 := by rw [List.length_take, List.length_drop, hcur]; apply Nat.min_eq_left; omega
  have hnil : (cur.drop (j * 4)).take ((j - j) * 4) = [] := by rw [Nat.sub_self, Nat.zero_mul, List.take_zero]
  obtain ⟨w2, hap, hg2, hr2⟩ := ex_append_row (P := Try.prog) w.drew 74 74 78 4 Try.underlying74 (by kernel_rfl) g i j cur hg1 ⟨g, 0, none⟩ (j - j) (j - j) ((cur.drop (j * 4)).take ((j - j) * 4)) hcl (fun k v h => by rw [hnil] at h; simp at h) (fun v h => by rw [hnil] at h; cases h) (by omega) (by rw [hcl, hcur]; omega)
  rw [qs] at hap
  rw [Nat.sub_self] at hap
  have hl2 : (splice cur (i * 4) ((cur.drop (j * 4)).take ((j - j) * 4))).length = j * 4 := by rw [length_splice _ _ _ (by rw [hcl, hcur]; omega)]; exact hcur
  obtain ⟨w3, hcr, hg3, hr3⟩ := ex_clear_1 (P := Try.prog) w2 74 0 78 g ((j - 1) * 4) (j - (j - 1)) _ _ _ zEn.cells Try.underlying74 Try.zeroValue78 rfl hg2 (by rw [hl2]; simp [En.cells]; omega) (by simp [zEn, En.cells, Value.oneCell'])
  have hr : Hid (w.grownBy w3 (some g)) := (show w.grownBy w.drew (some g) from ⟨rfl, rfl, rfl, Nat.le_refl _, fun _ _ _ => rfl⟩).trans (hr2.out.trans hr3.out)
  rw [qw] at hcr
  clear hg1 hg2 hr2 hr3 hl2 hcl
  refine region_J (fun _ => True) 7 (by kernel_rfl) ?_
  refine J_take 0 (v := ?va0) rfl (by kernel_rfl) (by kernel_rfl) (by kernel_rfl) (by kernel_rfl) (fun _ _ _ h => h) (Or.inl ⟨by rfl, ?ya0⟩) trivial ?ra0
  case ya0 => (intro w hSw; obtain _ := hSw; (go_simp; with_reducible rfl))
  simp only [Act.put, List.getElem_toArray, List.getElem_cons_zero, List.getElem_cons_succ, List.setIfInBounds_toArray, List.set_cons_zero, List.set_cons_succ]
  refine J_take 1 (v := ?va1) rfl (by kernel_rfl) (by kernel_rfl) (by kernel_rfl) (by kernel_rfl) (fun _ _ _ h => h) (Or.inl ⟨by rfl, ?ya1⟩) trivial ?ra1
  case ya1 => (intro w hSw; obtain _ := hSw; (go_simp; with_reducible rfl))
  simp only [Act.put, List.getElem_toArray, List.getElem_cons_zero, List.getElem_cons_succ, List.setIfInBounds_toArray, List.set_cons_zero, List.set_cons_succ]
  refine J_take 2 (v := ?va2) rfl (by kernel_rfl) (by kernel_rfl) (by kernel_rfl) (by kernel_rfl) (fun _ _ _ h => h) (Or.inl ⟨by rfl, ?ya2⟩) trivial ?ra2
  case ya2 => (intro w hSw; obtain _ := hSw; (go_simp; with_reducible rfl))
  simp only [Act.put, List.getElem_toArray, List.getElem_cons_zero, List.getElem_cons_succ, List.setIfInBounds_toArray, List.set_cons_zero, List.set_cons_succ]
  refine J_take 3 (v := ?va3) rfl (by kernel_rfl) (by kernel_rfl) (by kernel_rfl) (by kernel_rfl) (fun _ _ _ h => h) (Or.inl ⟨by rfl, ?ya3⟩) trivial ?ra3
  case ya3 => (intro w hSw; obtain _ := hSw; (go_simp; with_reducible rfl))
  simp only [Act.put, List.getElem_toArray, List.getElem_cons_zero, List.getElem_cons_succ, List.setIfInBounds_toArray, List.set_cons_zero, List.set_cons_succ]
  refine J_take 4 (v := ?va4) rfl (by kernel_rfl) (by kernel_rfl) (by kernel_rfl) (by kernel_rfl) (fun _ _ _ h => h) (Or.inl ⟨by rfl, ?ya4⟩) trivial ?ra4
  case ya4 => (intro w hSw; obtain _ := hSw; (go_simp; with_reducible rfl))
  simp only [Act.put, List.getElem_toArray, List.getElem_cons_zero, List.getElem_cons_succ, List.setIfInBounds_toArray, List.set_cons_zero, List.set_cons_succ]
  refine J_take 5 (v := ?va5) rfl (by kernel_rfl) (by kernel_rfl) (by kernel_rfl) (by kernel_rfl) (fun _ _ _ h => h) (Or.inl ⟨by rfl, ?ya5⟩) trivial ?ra5
  case ya5 => (intro w hSw; obtain _ := hSw; (go_simp; with_reducible rfl))
  simp only [Act.put, List.getElem_toArray, List.getElem_cons_zero, List.getElem_cons_succ, List.setIfInBounds_toArray, List.set_cons_zero, List.set_cons_succ]
  refine J_one 6 rfl (by kernel_rfl) (fun K hK => ?_)
  refine step_run rfl _ (ex_append _ _ _ _ rfl _ _ rfl rfl _ hap) ?_
  refine hK _ _ ⟨fun _ => trivial, ?_⟩
  clear hK K hap
  simp only [Act.put, List.getElem_toArray, List.getElem_cons_zero, List.getElem_cons_succ, List.setIfInBounds_toArray, List.set_cons_zero, List.set_cons_succ]
  refine J_one 7 rfl (by kernel_rfl) (fun K hK => ?_)
  go_simp
  refine hK _ _ ⟨fun h => absurd rfl h, ?_⟩
  clear hK K
  refine J_done (by kernel_rfl) (OnlyOn.normal ?_)
  go_wp2
  go_ret
  exact ⟨rfl, hg3, hr⟩
theorem del_any (l : List En) (i : Nat) (v : Value) (w : World) (hi : i < l.length) (hn : l.length ≤ 1000000) (ho : w.ownsRow 0 78 4 v l.length (ents l)) :
    Calls Try.prog 70 #[v, .int .i64 i, .int .i64 ((i + 1 : Nat) : Int)] w fun e w' => ∃ v', e = .returned v' ∧ w'.ownsRow 0 78 4 v' (l.length - 1) (ents (l.eraseIdx i)) ∧ Rw v v' w w' := by
  obtain ⟨g, c, cur, rfl, hg, hnc, hc, hl, ht⟩ := own_open ho (by omega)
  have hon : ∀ v ∈ cur.take (l.length * 4), v.oneCell' = true := by rw [ht]; exact ents_one l
  have hcl : ((cur.drop ((i + 1) * 4)).take ((l.length - (i + 1)) * 4)).length = (l.length - (i + 1)) * 4 := by rw [List.length_take, List.length_drop, hl]; apply Nat.min_eq_left; omega
  have hl2 : (splice cur (i * 4) ((cur.drop ((i + 1) * 4)).take ((l.length - (i + 1)) * 4))).length = c * 4 := by rw [length_splice _ _ _ (by rw [hcl, hl]; omega)]; exact hl
  have hfin : ∀ (w' : World), w'.heap[g]? = some (.cells (splice (splice cur (i * 4) ((cur.drop ((i + 1) * 4)).take ((l.length - (i + 1)) * 4))) ((l.length - 1) * 4) zEn.cells).toArray 78 (0, 0)) → w'.ownsRow 0 78 4 (.slice (some ⟨g, 0, none⟩) (l.length - 1) c) (l.length - 1) (ents (l.eraseIdx i)) := by
    intro w' hg'
    refine own_shut hg' (by omega) hc (by rw [length_splice _ _ _ (by rw [hl2]; simp [zEn, En.cells]; omega)]; exact hl2) ?_
    have hr := del_row (i := i) hl hnc hi ht
    rw [List.append_assoc] at hr
    unfold splice at hl2 ⊢
    rw [hcl] at hl2 ⊢
    rw [List.take_append_of_le_length (by rw [List.length_take]; omega), List.take_take, Nat.min_self]
    exact hr
  by_cases hcj : c = i + 1
  · obtain rfl : c = l.length := by omega
    refine (delB_any g l.length i (i + 1) cur w rfl (by omega) hcj.symm hc hn hl hg hon).mono ?_
    rintro e w' ⟨rfl, h1, h2⟩
    exact ⟨_, rfl, hfin _ h1.out, h2.out, .inl rfl⟩
  · refine (delA_any g l.length c i (i + 1) cur w rfl (by omega) (by omega) hnc hcj hc hn hl hg hon).mono ?_
    rintro e w' ⟨rfl, h1, h2⟩
    exact ⟨_, rfl, hfin _ h1.out, h2.out, .inl rfl⟩
end Go.Proofs.Ytcgjhloiokpicaa
