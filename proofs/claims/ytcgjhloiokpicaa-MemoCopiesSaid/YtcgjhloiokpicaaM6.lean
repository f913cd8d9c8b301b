/-
  slices.Replace of one entry (not the last) by one or two.
-/
import Derived.Test.YtcgjhloiokpicaaMX
import Derived.Deep.RegionLaw
import Derived.Deep.Cut
import Derived.BigQuiet
namespace Go.Proofs.Ytcgjhloiokpicaa
open Go.RowKit
set_option linter.unusedVariables false
set_option linter.unusedSimpArgs false
theorem mem_seg {α : Type} {L : List α} {o m N : Nat} (h : o + m ≤ N) {v : α} (hv : v ∈ (L.drop o).take m) : v ∈ L.take N := by
  have e : (L.drop o).take m = (L.take (o + m)).drop o := by rw [List.drop_take]; congr 1; omega
  rw [e] at hv
  have h2 := List.mem_of_mem_drop hv
  have e2 : L.take (o + m) = (L.take N).take (o + m) := by rw [List.take_take, Nat.min_eq_left h]
  rw [e2] at h2
  exact List.mem_of_mem_take h2
theorem one_splice {cur cs : List Value} {o N : Nat} (hN : o + cs.length ≤ N) (hl : o ≤ cur.length) (h : ∀ v ∈ cur.take N, v.oneCell' = true) (h2 : ∀ v ∈ cs, v.oneCell' = true) : ∀ v ∈ (splice cur o cs).take N, v.oneCell' = true := by
  intro v hv
  unfold splice at hv
  rw [List.take_append, List.take_append, List.mem_append, List.mem_append] at hv
  rcases hv with hv | hv | hv
  · have := List.mem_of_mem_take hv
    exact h v (mem_seg (o := 0) (m := o) (by omega) (by rw [List.drop_zero]; exact this))
  · exact h2 v (List.mem_of_mem_take hv)
  · rw [List.length_take, Nat.min_eq_left hl] at hv
    exact h v (mem_seg (by omega) hv)
set_option maxRecDepth 100000 in
set_option maxHeartbeats 4000000 in
theorem replA_any (g : Nat) (n c i j nj : Nat) (cur : List Value) (x : En) (va : Nat) (w : World) (hij : Hid (j = i + 1)) (hjn : i < j) (hj : j < n) (hn : n ≤ c) (hnj : Hid (nj = n - j)) (hc : c ≤ 9223372036854775807) (hn2 : n ≤ 1000000) (hcur : cur.length = c * 4)
    (hg : Hid (w.heap[g]? = some (.cells cur.toArray 78 (0, 0)))) (hv : Hid (w.rangeAt va 0 x.cells)) (ho : Hid (∀ v ∈ cur.take (n * 4), v.oneCell' = true)) :
    Calls Try.prog 67 #[.slice (some ⟨g, 0, none⟩) n c, .int .i64 i, .int .i64 j, .slice (some ⟨va, 0, none⟩) 1 1] w fun e w' => e = .returned (.slice (some ⟨g, 0, none⟩) n c) ∧ Hid (w'.heap[g]? = some (.cells (splice cur (i * 4) x.cells).toArray 78 (0, 0))) ∧ Hid (w.grownBy w' (some g)) := by
  have q1 : ((i : Int) == (j : Int)) = false := by rw [beq_eq_false_iff_ne]; omega
  have q2 : ((j : Int) == (n : Int)) = false := by rw [beq_eq_false_iff_ne]; omega
  have q3 : IntKind.i64.wrap ((i : Int) + 1) = j := by rw [IntWalk.i64_in _ (by omega), hij.out]; omega
  have q4 : IntKind.i64.wrap ((j : Int) + ((n - j : Nat) : Int)) = n := by rw [IntWalk.i64_in _ (by omega)]; omega
  have hmn : Nat.min 1 (n - i) = 1 := Nat.min_eq_left (by omega)
  have hmn2 : Nat.min (n - j) (n - j) = n - j := Nat.min_eq_left (by omega)
  replace hmn := hid hmn
  replace hmn2 := hid hmn2
  go_enter Try.func67, Try.ntmps67
  go_upto_region 9 with fail
  go_quiet (fail)
  go_upto_region 17 with fail
  have hg1 : Hid ((w.drewN nq).heap[g]? = some (.cells cur.toArray 78 (0, 0))) := hg.out
  have hr1 : Hid (w.grownBy (w.drewN nq) (some g)) := ⟨rfl, rfl, rfl, Nat.le_refl _, fun _ _ _ => rfl⟩
  have dv : ∀ j v, x.cells[j]? = some v → (w.drewN nq).cell? ((⟨va, 0, none⟩ : Addr).add j) = some v := fun j v h => by
    have := hv.out j v h
    rw [Addr.add_mid]
    exact this
  replace dv := hid dv
  clear hg hv
  generalize w.drewN nq = w1 at *
  go_wp2_with fail
  rw [run_copy_k (P := Try.prog) w1 _ _ _ 78 4 g (i * 4) _ _ ⟨va, 0, none⟩ _ _ cur _ x.cells Try.underlying74 (by kernel_rfl) hg1.out (by rw [hmn.out]; rfl) dv.out (by simp [En.cells]; omega) (by simp [En.cells, Value.oneCell'])]
  have hg2 : Hid ((w1.setRow g (splice cur (i * 4) x.cells).toArray).heap[g]? = some (.cells (splice cur (i * 4) x.cells).toArray 78 (0, 0))) := setRow_heap w1 g _ _ _ _ hg1.out
  have hr2 : Hid (w1.grownBy (w1.setRow g (splice cur (i * 4) x.cells).toArray) (some g)) := grown_setRow w1 g _
  have hl2 : (splice cur (i * 4) x.cells).length = c * 4 := by rw [length_splice _ _ _ (by simp [En.cells]; omega)]; exact hcur
  have ho2 : Hid (∀ v ∈ (splice cur (i * 4) x.cells).take (n * 4), v.oneCell' = true) := one_splice (by simp [En.cells]; omega) (by omega) ho.out (by simp [En.cells, Value.oneCell'])
  generalize w1.setRow g (splice cur (i * 4) x.cells).toArray = w2 at *
  generalize hq : splice cur (i * 4) x.cells = cur2 at *
  replace hq := hid hq
  go_upto_region 18 with fail
  have hg2d : Hid (w2.drew.heap[g]? = some (.cells cur2.toArray 78 (0, 0))) := hg2.out
  have hr2d : Hid (w2.grownBy w2.drew (some g)) := ⟨rfl, rfl, rfl, Nat.le_refl _, fun _ _ _ => rfl⟩
  have hsrc : ∀ k v, ((cur2.drop (j * 4)).take ((n - j) * 4))[k]? = some v → w2.drew.cell? ((⟨g, j * 4, none⟩ : Addr).add k) = some v := fun k v h => by
    refine row_cell hg2d.out _ _ ?_
    rw [List.getElem?_take] at h
    split at h
    · rw [List.getElem?_drop] at h; exact h
    · cases h
  have hone : ∀ v ∈ ((cur2.drop (j * 4)).take ((n - j) * 4)), v.oneCell' = true := fun v hv => ho2.out v (mem_seg (by omega) hv)
  have hsp := splice_self cur2 (j * 4) ((n - j) * 4)
  have hcl : ((cur2.drop (j * 4)).take ((n - j) * 4)).length = (n - j) * 4 := by rw [List.length_take, List.length_drop, hl2]; apply Nat.min_eq_left; omega
  replace hsrc := hid hsrc
  replace hone := hid hone
  replace hsp := hid hsp
  replace hcl := hid hcl
  generalize (cur2.drop (j * 4)).take ((n - j) * 4) = cs at *
  have hcn : ¬ c = j := by omega
  have hjn2 : j ≤ n := by omega
  obtain ⟨w3, hcp, hg3, hr3⟩ := ex_copy_k (P := Try.prog) w2.drew 74 74 3 78 4 g (j * 4) (n - j) (c - j) ⟨g, j * 4, none⟩ (n - j) (c - j) cur2 _ cs Try.underlying74 (by kernel_rfl) hg2d (n - j) hmn2 hcl hsrc.out (by rw [hcl.out, hl2]; omega) hone.out
  rw [hsp.out] at hg3
  have hr : Hid (w.grownBy w3 (some g)) := hr1.out.trans (hr2.out.trans (hr2d.out.trans hr3.out))
  clear hr1 hr2 hr2d hr3 hg2d hsrc hone hg2
  go_region
  all_goals clear hcp
  all_goals have hc0 := fun a c w => ex_clear0 (P := Try.prog) w 74 0 78 a c Try.underlying74
  all_goals go_wp2_with fail
  all_goals go_ret
  all_goals exact ⟨by first | rfl | (rw [h]; rfl), by rw [hq.out]; exact hg3, hr⟩
end Go.Proofs.Ytcgjhloiokpicaa
