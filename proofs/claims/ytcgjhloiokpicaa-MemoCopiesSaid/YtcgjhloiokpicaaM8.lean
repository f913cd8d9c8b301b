/-
  slices.Replace on an owned row of entries; the iterator as a contract.
-/
import Derived.Test.YtcgjhloiokpicaaM7
import Derived.Test.YtcgjhloiokpicaaM5
namespace Go.Proofs.Ytcgjhloiokpicaa
open Go.RowKit Go.Shelf
set_option linter.unusedVariables false
set_option linter.unusedSimpArgs false
theorem ents_take : ∀ (l : List En) (k : Nat), (ents l).take (k * 4) = ents (l.take k)
  | [], k => by simp [ents]
  | x :: l, 0 => by simp [ents]
  | x :: l, k + 1 => by
    have hx : x.cells.length = 4 := rfl
    rw [ents, List.take_succ_cons, ents, List.take_append, hx, show (k + 1) * 4 - 4 = k * 4 by omega, ents_take l k, List.take_of_length_le (by rw [hx]; omega)]
theorem ents_drop : ∀ (l : List En) (k : Nat), (ents l).drop (k * 4) = ents (l.drop k)
  | [], k => by simp [ents]
  | x :: l, 0 => by simp [ents]
  | x :: l, k + 1 => by
    have hx : x.cells.length = 4 := rfl
    rw [ents, List.drop_succ_cons, List.drop_append, hx, show (k + 1) * 4 - 4 = k * 4 by omega, ents_drop l k, List.drop_of_length_le (by rw [hx]; omega), List.nil_append]
theorem seg_take {cur : List Value} {l : List En} (ht : cur.take (l.length * 4) = ents l) {i : Nat} (hi : i ≤ l.length) : cur.take (i * 4) = ents (l.take i) := by
  rw [← ents_take, ← ht, List.take_take, Nat.min_eq_left (by omega)]
theorem seg_drop {cur : List Value} {l : List En} (ht : cur.take (l.length * 4) = ents l) {j : Nat} (hj : j ≤ l.length) : (cur.drop (j * 4)).take ((l.length - j) * 4) = ents (l.drop j) := by
  rw [← ents_drop, ← ht, List.drop_take]
  congr 1
  omega
theorem splice_one {cur : List Value} {l : List En} {i : Nat} (x : En) (ht : cur.take (l.length * 4) = ents l) (hl : l.length * 4 ≤ cur.length) (hi : i + 1 ≤ l.length) :
    (splice cur (i * 4) x.cells).take (l.length * 4) = ents (l.take i ++ (x :: l.drop (i + 1))) := by
  have hx : x.cells.length = 4 := rfl
  have h1 := seg_take ht (i := i) (by omega)
  have h2 := seg_drop ht (j := i + 1) (by omega)
  have e1 : (cur.take (i * 4)).length = i * 4 := by rw [List.length_take]; omega
  unfold splice
  rw [List.take_append, List.take_append, e1, hx, List.take_of_length_le (l := cur.take (i * 4)) (by rw [e1]; omega), List.take_of_length_le (l := x.cells) (by rw [hx]; omega), h1, show i * 4 + 4 = (i + 1) * 4 by omega,
    show l.length * 4 - i * 4 - 4 = (l.length - (i + 1)) * 4 by omega, h2, ents_append, ents]
theorem splice_in {α : Type} {cur ns cs : List α} {i jj t m : Nat} (hn : ns.length = 2 * 4) (hm : cs.length = m * 4) (hr : jj * 4 + m * 4 ≤ cur.length) (hij : jj = i + 2) (ht : t = jj + m) :
    (splice (splice cur (jj * 4) cs) (i * 4) ns).take (t * 4) = cur.take (i * 4) ++ (ns ++ cs) := by
  subst hij ht
  have hl : (cur.take (i * 4)).length = i * 4 := by rw [List.length_take]; omega
  have hl2 : (cur.take ((i + 2) * 4)).length = (i + 2) * 4 := by rw [List.length_take]; omega
  have e1 : (splice cur ((i + 2) * 4) cs).take (i * 4) = cur.take (i * 4) := by
    unfold splice
    rw [List.take_append, hl2, List.take_take, Nat.min_eq_left (by omega), show i * 4 - (i + 2) * 4 = 0 by omega, List.take_zero, List.append_nil]
  have e2 : (splice cur ((i + 2) * 4) cs).drop (i * 4 + ns.length) = cs ++ cur.drop ((i + 2) * 4 + cs.length) := by
    unfold splice
    rw [hn, show i * 4 + 2 * 4 = (i + 2) * 4 by omega]
    exact List.drop_left' hl2
  rw [show splice (splice cur ((i + 2) * 4) cs) (i * 4) ns = (splice cur ((i + 2) * 4) cs).take (i * 4) ++ (ns ++ (splice cur ((i + 2) * 4) cs).drop (i * 4 + ns.length)) from rfl, e1, e2,
    show cur.take (i * 4) ++ (ns ++ (cs ++ cur.drop ((i + 2) * 4 + cs.length))) = (cur.take (i * 4) ++ (ns ++ cs)) ++ cur.drop ((i + 2) * 4 + cs.length) by simp [List.append_assoc]]
  exact List.take_left' (by rw [List.length_append, List.length_append, hl, hn, hm]; omega)
/-- The row a memo file owns, opened. -/
theorem own_open {w : World} {v : Value} {l : List En} (h : w.ownsRow 0 78 4 v l.length (ents l)) (hl : 0 < l.length) :
    ∃ (g c : Nat) (cur : List Value), v = .slice (some ⟨g, 0, none⟩) l.length c ∧ w.heap[g]? = some (.cells cur.toArray 78 (0, 0)) ∧ l.length ≤ c ∧ c ≤ 9223372036854775807 ∧ cur.length = c * 4 ∧ cur.take (l.length * 4) = ents l := by
  rcases h.2 with ⟨_, h0⟩ | ⟨g, c, cur, rfl, _, hg, hn, hc, hs, ht⟩
  · omega
  · exact ⟨g, c, cur.toList, rfl, by simpa using hg, hn, hc, by simpa using hs, ht⟩
theorem own_shut {w : World} {g n c : Nat} {cur xs : List Value} (hg : w.heap[g]? = some (.cells cur.toArray 78 (0, 0))) (hn : n ≤ c) (hc : c ≤ 9223372036854775807) (hl : cur.length = c * 4) (ht : cur.take (n * 4) = xs) :
    w.ownsRow 0 78 4 (.slice (some ⟨g, 0, none⟩) n c) n xs := by
  refine ⟨?_, .inr ⟨g, c, cur.toArray, rfl, Nat.zero_le _, hg, hn, hc, by simpa using hl, by simpa using ht⟩⟩
  rw [← ht, List.length_take, hl]
  omega
/-- What has turned where a row is rewritten: its block alone; or nothing, and it lies in new memory. -/
def Rw (v v' : Value) (w w' : World) : Prop := w.grownBy w' v.ownBlock ∧ (v'.ownBlock = v.ownBlock ∨ ∀ k, v'.ownBlock = some k → w.heap.size ≤ k)
theorem Ext.grown {w w' : World} (h : Ext w w') (row : Option Nat) : w.grownBy w' row := ⟨h.os, h.tape, h.output, h.size, fun k hk _ => h.block hk⟩
theorem MT.rw {g : Nat} {v v' v2 : Value} {w w' w2 : World} (h : MT g v v' w w') (k : Rw v' v2 w' w2) : MT g v v2 w w2 :=
  h.trans ⟨k.1.os.symm, k.1.tape.symm, k.1.output.symm, k.1.size, fun i hi hg hv => k.1.block i hi (fun e => hv e.symm), k.2⟩
set_option maxHeartbeats 1000000 in
theorem repl1_any (l : List En) (i : Nat) (x : En) (v : Value) (va : Nat) (w : World) (hi : i + 1 < l.length) (hn : l.length ≤ 1000000)
    (ho : w.ownsRow 0 78 4 v l.length (ents l)) (hv : w.heap[va]? = some (.cells x.cells.toArray 78 (0, 0))) :
    Calls Try.prog 67 #[v, .int .i64 i, .int .i64 ((i + 1 : Nat) : Int), .slice (some ⟨va, 0, none⟩) 1 1] w fun e w' => ∃ v', e = .returned v' ∧ w'.ownsRow 0 78 4 v' l.length (ents (l.take i ++ (x :: l.drop (i + 1)))) ∧ Rw v v' w w' := by
  obtain ⟨g, c, cur, rfl, hg, hnc, hc, hl, ht⟩ := own_open ho (by omega)
  refine (replA_any g l.length c i (i + 1) (l.length - (i + 1)) cur x va w rfl (by omega) (by omega) hnc rfl hc hn hl hg (fun j u h => ?_) ?_).mono ?_
  · exact (cell_of_row w va (0 + j) x.cells.toArray _ (0, 0) hv).trans (by simpa using h)
  · rw [ht]; exact ents_one l
  · rintro e w' ⟨rfl, h1, h2⟩
    refine ⟨_, rfl, own_shut h1.out hnc hc (by rw [length_splice _ _ _ (by simp [En.cells]; omega)]; exact hl) ?_, h2.out, .inl rfl⟩
    exact splice_one x ht (by rw [hl]; omega) (by omega)
set_option maxHeartbeats 1000000 in
theorem repl2_any (l : List En) (i : Nat) (x y : En) (v : Value) (va cv : Nat) (w : World) (hi : i + 1 < l.length) (hn : l.length ≤ 999999)
    (ho : w.ownsRow 0 78 4 v l.length (ents l)) (hv : w.ownsRow 0 78 4 (.slice (some ⟨va, 0, none⟩) 2 cv) 2 (x.cells ++ y.cells)) (hne : v.ownBlock ≠ some va) :
    Calls Try.prog 67 #[v, .int .i64 i, .int .i64 ((i + 1 : Nat) : Int), .slice (some ⟨va, 0, none⟩) 2 cv] w fun e w' => ∃ v', e = .returned v' ∧ w'.ownsRow 0 78 4 v' (l.length + 1) (ents (l.take i ++ (x :: y :: l.drop (i + 1)))) ∧ Rw v v' w w' := by
  obtain ⟨g, c, cur, rfl, hg, hnc, hc, hl, ht⟩ := own_open ho (by omega)
  have hgv : g ≠ va := fun e => hne (by rw [e]; rfl)
  obtain ⟨curv, hcv, hlv, htv, hv⟩ : ∃ curv : List Value, 2 ≤ cv ∧ curv.length = cv * 4 ∧ Hid (curv.take (2 * 4) = x.cells ++ y.cells) ∧ w.heap[va]? = some (.cells curv.toArray 78 (0, 0)) := by
    rcases hv.2 with ⟨e, _⟩ | ⟨g', c', cur', e, _, hb', hn', hc', hs', ht'⟩
    · cases e
    · injection e with e1 _ e3
      injection e1 with e1
      injection e1 with e1
      subst e1 e3
      exact ⟨cur'.toList, hn', by simpa using hs', ht', by simpa using hb'⟩
  have hon : ∀ v ∈ cur.take (l.length * 4), v.oneCell' = true := by rw [ht]; exact ents_one l
  have h1 := seg_take ht (i := i) (by omega)
  have h2 := seg_drop ht (j := i + 1) (by omega)
  have hcs : ((cur.drop ((i + 1) * 4)).take ((l.length - (i + 1)) * 4)).length = (l.length - (i + 1)) * 4 := by rw [List.length_take, List.length_drop]; omega
  have hen : ents (l.take i ++ (x :: y :: l.drop (i + 1))) = cur.take (i * 4) ++ ((x.cells ++ y.cells) ++ (cur.drop ((i + 1) * 4)).take ((l.length - (i + 1)) * 4)) := by
    rw [h1, h2, ents_append, ents, ents, List.append_assoc]
  by_cases hroom : l.length + 1 ≤ c
  · refine (replB_any g l.length c i (i + 1) (i + 2) (l.length + 1) cur x y va cv curv hcv hlv htv w rfl rfl rfl (by omega) (by omega) (by omega) (by omega) (by omega) hroom hc (by omega) hl hgv hg hv hon).mono ?_
    rintro e w' ⟨rfl, k1, k2⟩
    refine ⟨_, rfl, own_shut k1.out hroom hc ?_ ?_, k2.out, .inl rfl⟩
    · rw [length_splice, length_splice]
      · exact hl
      · rw [hcs, hl]; omega
      · rw [length_splice _ _ _ (by rw [hcs, hl]; omega), hl]; simp [En.cells]; omega
    · rw [hen]
      exact splice_in (m := l.length - (i + 1)) (by simp [En.cells]) hcs (by rw [hl]; omega) rfl (by omega)
  · obtain rfl : c = l.length := by omega
    refine (replC_any g l.length i (i + 1) (i + 2) (l.length + 1) cur x y va cv curv hcv hlv htv w rfl rfl rfl (by omega) (by omega) (by omega) (by omega) (by omega) (by omega) hl hg hv hon).mono ?_
    rintro e w' ⟨c', r, rfl, k1, k2, k3, k4, k5, k6⟩
    refine ⟨_, rfl, own_shut k5 k1 k2 k3 ?_, Ext.grown k6 _, .inr ?_⟩
    · rw [k4, hen]
    · intro k hk
      simp [Value.ownBlock] at hk
      omega
end Go.Proofs.Ytcgjhloiokpicaa
