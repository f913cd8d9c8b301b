/-
  A slice of ints that is cut at its ends and appended to: a queue, a stack. A row of bools, told by a function.
-/
import Derived.Test.YtpijfiaecicpfaaBm
import Derived.Deep.AppendSrc
import Derived.Laws.IdiomCopy
import Derived.Deep.Upon
namespace Go.Proofs.Ytpijfiaecicpfaa
open Go.RowKit Go.Shelf
set_option linter.unusedVariables false
set_option linter.unusedSimpArgs false
/-- A slice of ints in a block of which p holds: all its cells are there, and may be written. -/
structure QueX (w : World) (p : Nat → Prop) (ao : Option Addr) (b off cap : Nat) (l : List Int) : Prop where
  le : l.length ≤ cap
  max : cap ≤ maxLen
  addr : 0 < cap → ao = some ⟨b, off, none⟩
  lt : 0 < cap → b < w.heap.size
  own : 0 < cap → p b
  holds : ∀ j u, (ints l)[j]? = some u → w.cell? ⟨b, off + j, none⟩ = some u
  there : ∀ j, j < cap → (w.cell? ⟨b, off + j, none⟩).isSome = true ∧ w.frozen? ⟨b, off + j, none⟩ = false
def Que (w : World) (p : Nat → Prop) (v : Value) (l : List Int) : Prop := ∃ ao b off cap, v = .slice ao l.length cap ∧ QueX w p ao b off cap l
theorem setCells_same (b : Nat) : ∀ (vs : List Value) (o : Nat) (w : World), (w.setCells b o vs).heap.size = w.heap.size ∧ (w.setCells b o vs).tape = w.tape
  | [], _, _ => ⟨rfl, rfl⟩
  | v :: vs, o, w => by
    have h := setCells_same b vs (o + 1) (w.setCell ⟨b, o, none⟩ v)
    exact ⟨h.1.trans (by simp), h.2⟩
theorem ints_len (l : List Int) : (ints l).length = l.length := by simp [ints]
section
variable {w w' : World} {p : Nat → Prop} {v : Value} {l : List Int}
theorem Que.keep (h : Que w p v l) (hb : ∀ k, k < w.heap.size → p k → w'.heap[k]? = w.heap[k]?) (hs : w.heap.size ≤ w'.heap.size) : Que w' p v l := by
  obtain ⟨ao, b, off, cap, rfl, h⟩ := h
  refine ⟨ao, b, off, cap, rfl, h.le, h.max, h.addr, fun hc => Nat.lt_of_lt_of_le (h.lt hc) hs, h.own, fun j u hu => ?_, fun j hj => ?_⟩
  · have hc : 0 < cap := by have := (List.getElem?_eq_some_iff.1 hu).1; rw [ints_len] at this; have := h.le; omega
    exact (World.cell?_of_block (a := ⟨b, off + j, none⟩) (hb b (h.lt hc) (h.own hc))).trans (h.holds j u hu)
  · have hc : 0 < cap := by omega
    rw [World.cell?_of_block (a := ⟨b, off + j, none⟩) (hb b (h.lt hc) (h.own hc)), World.frozen?_of_block (a := ⟨b, off + j, none⟩) (hb b (h.lt hc) (h.own hc))]
    exact h.there j hj
theorem Que.ext (h : Que w p v l) (hx : Ext w w') : Que w' p v l := h.keep (fun k hk _ => hx.block hk) hx.size
theorem Que.set (h : Que w p v l) {g j : Nat} {u : Value} (hg : ¬ p g) : Que (w.setCell ⟨g, j, none⟩ u) p v l := h.keep (fun k hk hp => by
  have hne : g ≠ k := fun e => hg (e ▸ hp)
  simp [World.setCell, Array.getElem?_modify, hne]) (by simp)
theorem Que.form (h : Que w p v l) : ∃ A c, v = .slice A l.length c ∧ l.length ≤ c ∧ c ≤ 9223372036854775807 := by
  obtain ⟨ao, b, off, cap, rfl, h⟩ := h
  exact ⟨ao, cap, rfl, h.le, h.max⟩
/-- The first one, and the rest. -/
theorem Que.head {A : Option Addr} {n c : Nat} {x : Int} (h : Que w p (.slice A n c) (x :: l)) : ∃ ad, A = some ad ∧ w.cell? (ad.add 0) = some (.int .i64 x) ∧ n = l.length + 1 ∧ 1 ≤ c ∧ c ≤ 9223372036854775807 ∧ Que w p (.slice (if c = 1 then A else A.map (·.add 1)) l.length (c - 1)) l := by
  obtain ⟨ao, b, off, cap, e, h⟩ := h
  injection e with e1 e2 e3
  subst e1 e3
  have hle := h.le
  rw [List.length_cons] at hle
  have ha := h.addr (by omega)
  refine ⟨⟨b, off, none⟩, ha, ?_, e2, by omega, h.max, _, b, off + 1, c - 1, rfl, by omega, by have := h.max; omega, fun hc => ?_, fun _ => h.lt (by omega), fun _ => h.own (by omega), fun j u hu => ?_, fun j hj => ?_⟩
  · rw [lit_add]
    exact h.holds 0 _ rfl
  · rw [if_neg (by omega), ha, Option.map_some, lit_add]
  · have := h.holds (j + 1) u hu
    rw [show off + 1 + j = off + (j + 1) by omega]
    exact this
  · rw [show off + 1 + j = off + (j + 1) by omega]
    exact h.there (j + 1) (by omega)
/-- The last one, and those ahead of it. -/
theorem Que.last {A : Option Addr} {n c : Nat} {x : Int} (h : Que w p (.slice A n c) (l ++ [x])) : ∃ ad, A = some ad ∧ w.cell? (ad.add l.length) = some (.int .i64 x) ∧ n = l.length + 1 ∧ n ≤ c ∧ c ≤ 9223372036854775807 ∧ Que w p (.slice A l.length c) l := by
  obtain ⟨ao, b, off, cap, e, h⟩ := h
  injection e with e1 e2 e3
  subst e1 e3
  have hle := h.le
  rw [List.length_append, List.length_cons, List.length_nil] at hle e2
  have ha := h.addr (by omega)
  refine ⟨⟨b, off, none⟩, ha, ?_, by omega, by omega, h.max, A, b, off, c, rfl, by omega, h.max, h.addr, h.lt, h.own, fun j u hu => ?_, h.there⟩
  · rw [lit_add]
    exact h.holds l.length _ (by rw [ints_append, List.getElem?_append_right (by rw [ints_len]; exact Nat.le_refl _), ints_len, Nat.sub_self]; rfl)
  · refine h.holds j u ?_
    rw [ints_append, List.getElem?_append_left (List.getElem?_eq_some_iff.1 hu).1]
    exact hu

set_option maxRecDepth 10000 in
theorem Que.append (h : Que w p v l) (hp : ∀ g, w.heap.size ≤ g → p g) {A : Option Addr} {m c : Nat} {news : List Int} (hr : RdI w A m c news) (hb : l.length + m ≤ 1000000) (ty : TypeId) :
    ∃ v' w', (Builtin.append_ #[23, 23] ty #[v, .slice A m c]).run Try.prog w = .ok v' w' ∧ Que w' p v' (l ++ news) ∧ w'.os = w.os ∧ w'.tape = w.tape ∧ w'.output = w.output ∧ w.heap.size ≤ w'.heap.size ∧ ∀ k, k < w.heap.size → ¬ p k → w'.heap[k]? = w.heap[k]? := by
  obtain ⟨i0, hi0, hz0, hz1, hz2⟩ := info_parts infoI
  obtain ⟨ao, b, off, cap, rfl, h⟩ := h
  have hm1 : news.length = m := by have := hr.1; rw [ints_len] at this; omega
  have hone : ∀ u ∈ ints news, u.oneCell' = true := fun u hu => by
    obtain ⟨x, _, rfl⟩ := List.mem_map.1 hu
    rfl
  have hs : Src Try.prog i0.size 23 (.slice A m c) m (ints news) w := by
    rw [hz1]
    rcases A with _ | ad
    · have hm0 : m = 0 := by
        rcases Nat.eq_zero_or_pos m with h0 | h0
        · exact h0
        · obtain ⟨ad, h9, _⟩ := hr.2.2.2 h0
          cases h9
      subst hm0
      have hn0 := List.eq_nil_of_length_eq_zero hm1
      subst hn0
      exact Src.ofNil w Try.underlying23 c
    · refine Src.ofSlice w Try.underlying23 ad m c (ints news) (by rw [ints_len, hm1]; omega) (fun j u hu => ?_) hone
      have hj := (List.getElem?_eq_some_iff.1 hu).1
      rw [ints_len] at hj
      obtain ⟨ad', h9, hc⟩ := hr.2.2.2 (by omega)
      injection h9 with h9
      subst h9
      exact hc j u hu
  have hll : (l ++ news).length = l.length + m := by rw [List.length_append, hm1]
  have hmaxl : maxLen = 9223372036854775807 := rfl
  have grow : cap < l.length + m → (Builtin.firstCells i0.size l.length (.slice ao l.length cap)).run Try.prog w.drew = .ok (ints l).toArray w.drew → ∃ v' w', (Builtin.append_ #[23, 23] ty #[.slice ao l.length cap, .slice A m c]).run Try.prog w = .ok v' w' ∧ Que w' p v' (l ++ news) ∧ w'.os = w.os ∧ w'.tape = w.tape ∧ w'.output = w.output ∧ w.heap.size ≤ w'.heap.size ∧ ∀ k, k < w.heap.size → ¬ p k → w'.heap[k]? = w.heap[k]? := fun hg hold => by
    have hrun := run_append_grow_src (P := Try.prog) w 23 23 ty 3 i0 _ Try.underlying23 hi0 hz0 ao l.length cap (ints l) hold _ m (ints news) hs hg (by omega) (growslice_fits hg (by rw [hz2]; omega))
    have hge := grownCap_ge w (l.length + m) cap 3
    have hcm := grownCap_le_maxLen w (l.length + m) cap 3 (by omega)
    have hsz : ((ints l ++ ints news).toArray ++ Builtin.zeroCells (Value.int .i64 0).cells (grownCap w (l.length + m) cap 3 - (l.length + m))).size = grownCap w (l.length + m) cap 3 := by
      rw [Array.size_append, List.size_toArray, List.length_append, ints_len, ints_len, hm1, size_zeroCells]
      show l.length + m + (_ - (l.length + m)) * 1 = _
      omega
    have e1 : ∀ j, (w.drew.alloc (.cells ((ints l ++ ints news).toArray ++ Builtin.zeroCells (Value.int .i64 0).cells (grownCap w (l.length + m) cap 3 - (l.length + m))) 3)).cell? ⟨w.heap.size, j, none⟩ = _ := fun j => World.cell?_alloc_new w.drew _ _ j
    refine ⟨_, _, hrun, ⟨some ⟨w.heap.size, 0, none⟩, w.heap.size, 0, _, by rw [hll], by rw [hll]; exact hge, hcm, fun _ => rfl, fun _ => by simp, fun _ => hp _ (Nat.le_refl _), fun j u hu => ?_, fun j hj => ?_⟩, rfl, rfl, rfl, by simp, fun k hk _ => Below.heap_alloc w.drew _ k hk⟩
    · rw [Nat.zero_add, e1 j]
      rw [ints_append] at hu
      have hj := (List.getElem?_eq_some_iff.1 hu).1
      rw [Array.getElem?_append_left (by simpa using hj), List.getElem?_toArray]
      exact hu
    · rw [Nat.zero_add, e1 j]
      refine ⟨?_, World.frozen?_alloc_new w.drew _ _ j⟩
      rw [Array.getElem?_eq_getElem (by rw [hsz]; exact hj)]
      rfl
  rcases Nat.eq_zero_or_pos cap with h0 | hcap
  · subst h0
    have hl0 : l = [] := List.eq_nil_of_length_eq_zero (by have := h.le; omega)
    subst hl0
    rcases Nat.eq_zero_or_pos m with hm0 | hm0
    · subst hm0
      have hn0 := List.eq_nil_of_length_eq_zero hm1
      subst hn0
      exact ⟨_, w, run_append_nothing (P := Try.prog) w 23 23 ty 3 i0 Try.underlying23 hi0 ao 0 0 (Nat.le_refl _) _ hs, ⟨ao, b, off, 0, rfl, h⟩, rfl, rfl, rfl, Nat.le_refl _, fun _ _ _ => rfl⟩
    · refine grow (by show 0 < 0 + m; omega) ?_
      cases ao with
      | none => exact run_firstCells_none w.drew i0.size 0 0 0
      | some a' => exact run_firstCells_some w.drew i0.size 0 a' 0 0 [] (by simp) (by intro _ _ h'; simp at h')
  · have hao := h.addr hcap
    subst hao
    by_cases hfit : l.length + m ≤ cap
    · have hsome : ∀ j, j < (ints news).length → (w.cell? ⟨b, off + l.length * i0.size + j, none⟩).isSome = true := fun j hj => by
        rw [ints_len] at hj
        rw [hz1, Nat.mul_one, Nat.add_assoc]
        exact (h.there (l.length + j) (by omega)).1
      have hrun := run_append_room_src (P := Try.prog) w 23 23 ty 3 i0 Try.underlying23 hi0 b off l.length cap _ m (ints news) hs hfit hsome (fun j hj => by
        rw [ints_len] at hj
        rw [hz1, Nat.mul_one, Nat.add_assoc]
        exact (h.there (l.length + j) (by omega)).2)
      rw [hz1, Nat.mul_one] at hrun hsome
      have hbl := h.lt hcap
      have hszs : (w.setCells b (off + l.length) (ints news)).heap.size = w.heap.size := (setCells_same b (ints news) (off + l.length) w).1
      refine ⟨_, _, hrun, ⟨some ⟨b, off, none⟩, b, off, cap, by rw [hll], by rw [hll]; exact hfit, h.max, fun _ => rfl, fun _ => by rw [hszs]; exact hbl, h.own, fun j u hu => ?_, fun j hj => ?_⟩, World.os_setCells _ _ _ _, (setCells_same b (ints news) (off + l.length) w).2, World.output_setCells _ _ _ _, by rw [hszs]; exact Nat.le_refl _, fun k hk hpk => World.heap_setCells_other w b _ _ hk (fun e => hpk (e ▸ h.own hcap))⟩
      · rw [ints_append] at hu
        by_cases hj : j < l.length
        · rw [World.cell?_setCells_out b _ _ _ _ (fun _ _ => Or.inl (by show off + j < off + l.length; omega))]
          exact h.holds j u (by rw [List.getElem?_append_left (by rw [ints_len]; exact hj)] at hu; exact hu)
        · have hj2 := (List.getElem?_eq_some_iff.1 hu).1
          rw [List.length_append, ints_len, ints_len] at hj2
          have h7 := World.cell?_setCells_in b (ints news) (off + l.length) w hsome (j - l.length) (by rw [ints_len]; omega)
          rw [show off + l.length + (j - l.length) = off + j by omega] at h7
          rw [h7]
          rw [List.getElem?_append_right (by rw [ints_len]; omega), ints_len] at hu
          rw [List.getElem?_eq_some_iff] at hu
          obtain ⟨_, hu⟩ := hu
          rw [hu]
      · refine ⟨?_, by rw [World.frozen?_setCells]; exact (h.there j hj).2⟩
        by_cases hin : l.length ≤ j ∧ j < l.length + m
        · have h7 := World.cell?_setCells_in b (ints news) (off + l.length) w hsome (j - l.length) (by rw [ints_len]; omega)
          rw [show off + l.length + (j - l.length) = off + j by omega] at h7
          rw [h7]
          rfl
        · rw [World.cell?_setCells_out b _ _ _ _ (fun _ _ => by show off + j < off + l.length ∨ off + l.length + (ints news).length ≤ off + j; rw [ints_len]; omega)]
          exact (h.there j hj).1
    · refine grow (by omega) ?_
      refine run_firstCells_some w.drew i0.size l.length ⟨b, off, none⟩ l.length cap (ints l) (by rw [hz1, ints_len]; omega) (fun j u hu => ?_)
      rw [lit_add]
      exact h.holds j u hu
end
/-! ### A row of bools -/
def rowF (n : Nat) (f : Nat → Bool) : List Value := (List.range n).map fun k => .bool (f k)
theorem rowF_len (n : Nat) (f : Nat → Bool) : (rowF n f).length = n := by simp [rowF]
theorem rowF_at {n k : Nat} (f : Nat → Bool) (h : k < n) : (rowF n f)[k]? = some (.bool (f k)) := by
  unfold rowF
  rw [List.getElem?_map, List.getElem?_range h]
  rfl
theorem rowF_cell {w : World} {g n k : Nat} {f : Nat → Bool} (h : w.heap[g]? = some (.cells (rowF n f).toArray 4 (0, 0))) (hk : k < n) : w.cell? ⟨g, k, none⟩ = some (.bool (f k)) := by
  rw [Lib.cell_of_heap h]
  simpa using rowF_at f hk
theorem rowF_set {w : World} {g n k : Nat} {f f' : Nat → Bool} (h : w.heap[g]? = some (.cells (rowF n f).toArray 4 (0, 0))) (hf : ∀ j, j < n → f' j = (f j || decide (j = k))) : (w.setCell ⟨g, k, none⟩ (.bool true)).heap[g]? = some (.cells (rowF n f').toArray 4 (0, 0)) := by
  have h1 : (rowF n f).toArray.setIfInBounds k (.bool true) = (rowF n f').toArray := by
    apply Array.ext_getElem?
    intro j
    rw [Array.getElem?_setIfInBounds, List.getElem?_toArray, List.getElem?_toArray, List.size_toArray, rowF_len]
    by_cases hj : j < n
    · rw [rowF_at f hj, rowF_at f' hj, hf j hj]
      by_cases e : k = j
      · subst e
        simp [hj]
      · rw [if_neg e]
        simp [show ¬ j = k from fun h => e h.symm]
    · rw [List.getElem?_eq_none (by rw [rowF_len]; omega), List.getElem?_eq_none (by rw [rowF_len]; omega)]
      by_cases e : k = j
      · subst e; simp [hj]
      · rw [if_neg e]
  simp [World.setCell, Array.getElem?_modify, h]
  simpa using h1
end Go.Proofs.Ytpijfiaecicpfaa
