/-
  slices.Clone; drop.
-/
import Derived.Test.YtcgjhloiokpicaaMe
import Derived.Lib.SliceRun
import Derived.Deep.DeepCutAuto
namespace Go.Proofs.Ytcgjhloiokpicaa
open Go.RowKit
set_option linter.unusedVariables false
set_option linter.unusedSimpArgs false
theorem run_append_nilsrc {P : Program} (w : World) (base : Nat) (t ty e : TypeId) (i : TypeInfo) (size : Nat) (ht : P.underlying t = some (.slice e)) (hi : P.info? e = some i)
    (v : Value) (n : Nat) (xs : List Value) (hown : w.ownsRow base e size v n xs) (c : Nat) : (Builtin.append_ #[t, t] ty #[v, .slice none 0 c]).run P w = .ok v w := by
  rcases hown.2 with ⟨rfl, rfl⟩ | ⟨g, cap, cur, rfl, _, _, hnc, _⟩
  · simp [Builtin.append_, run_underlying ht, sizeOf, typeInfo, hi, Builtin.lenOf, Builtin.firstCells]
  · simp [Builtin.append_, run_underlying ht, sizeOf, typeInfo, hi, Builtin.lenOf, Builtin.firstCells, hnc, storeCells]
/-- 'out = append(out, xs...)', xs whatever slice. -/
theorem wpList_appendAny {P : Program} (w : World) {ops : Array Oper} {rest : List Oper} {o : Oper} {a : Act} {Q : Exit → Act → World → Prop} (hgd : o.guard = none) (s x : Operand) (t : TypeId)
    (ho : o.op = .call { callee := .builtin .append, args := #[s, x], argTypes := #[t, t] })
    (base : Nat) (e : TypeId) (i : TypeInfo) (z : Value) (size bytes : Nat) (ht : P.underlying t = some (.slice e)) (hi : P.info? e = some i) (hz : i.zero = some z)
    (hsize : i.size = size) (hby : i.bytes = bytes) (hzs : z.cells.size = size) (hsz : 0 < size)
    (v : Value) (n : Nat) (xs : List Value) (hs : a.eval s = v) (hown : w.ownsRow base e size v n xs)
    (A : Option Addr) (m c : Nat) (es : List Value) (hx : a.eval x = .slice A m c) (hr : Rd w size A m c es) (h1 : ∀ u ∈ es, u.oneCell' = true)
    (h63 : n + m ≤ maxLen) (hbytes : (n + m) * bytes ≤ 140737488355328) (hbase : base ≤ w.heap.size)
    (h : ∀ v' w', w'.ownsRow base e size v' (n + m) (xs ++ es) → w.grownBy w' v.ownBlock → wpList P ops Q rest (a.put o.dst v') w') : wpList P ops Q (o :: rest) a w := by
  rcases A with _ | ad
  · have hm : m = 0 := by
      rcases Nat.eq_zero_or_pos m with h0 | h0
      · exact h0
      · obtain ⟨ad, h, _⟩ := hr.2.2.2 h0
        cases h
    subst hm
    have hn : es = [] := List.eq_nil_of_length_eq_zero (by simpa using hr.1)
    subst hn
    refine wpList_plain hgd fun K hK => ?_
    have hrun := run_append_nilsrc (P := P) w base t o.type e i size ht hi v n xs hown c
    unfold Oper.wp
    simp [execOp, ho, resolve, invoke, builtin, hs, hx, hrun, Result.andThen]
    exact hK _ _ (h v w (by simpa using hown) (World.grownBy.refl w _))
  · refine wpList_append_own w hgd s x t ho base e i z size bytes ht hi hz hsize hby hzs hsz v n xs hs hown ad m c es hx hr.1 ?_ h1 h63 hbytes hbase fun v' w' h2 h3 _ => h v' w' h2 h3
    intro j u hu
    rcases Nat.eq_zero_or_pos m with h0 | h0
    · subst h0
      have hn : es = [] := List.eq_nil_of_length_eq_zero (by simpa using hr.1)
      subst hn
      simp at hu
    · obtain ⟨ad', e', hc⟩ := hr.2.2.2 h0
      injection e' with e'
      subst e'
      exact hc j u hu
theorem own_rd {w : World} {v : Value} {b n k : Nat} {t : TypeId} {xs : List Value} (h : w.ownsRow b t k v n xs) : ∃ A c, v = .slice A n c ∧ Rd w k A n c xs := by
  rcases h.2 with ⟨hv, h0⟩ | ⟨g', cap, cur, hv, _⟩
  · refine ⟨none, 0, by rw [hv, h0], ?_⟩
    have : v = .slice none n 0 := by rw [hv, h0]
    rw [this] at h
    exact Rd.of_own h
  · refine ⟨_, _, hv, ?_⟩
    rw [hv] at h
    exact Rd.of_own h
theorem own_none {w : World} {b n c k : Nat} {t : TypeId} {xs : List Value} (h : w.ownsRow b t k (.slice none n c) n xs) : n = 0 ∧ c = 0 ∧ xs = [] := by
  rcases h.2 with ⟨hv, h0⟩ | ⟨g', cap, cur, hv, _⟩
  · injection hv with _ e1 e2
    refine ⟨h0, e2, ?_⟩
    have := h.1
    rw [h0, Nat.zero_mul] at this
    exact List.eq_nil_of_length_eq_zero this
  · injection hv with e1
    cases e1
set_option maxRecDepth 100000 in
set_option maxHeartbeats 4000000 in
theorem clone_any (l : List En) (v : Value) (w : World) (hn : l.length ≤ 1000000) (ho : w.ownsRow 0 78 4 v l.length (ents l)) :
    Calls Try.prog 58 #[v] w fun e w' => ∃ v', e = .returned v' ∧ w'.ownsRow w.heap.size 78 4 v' l.length (ents l) ∧ Ext w w' := by
  obtain ⟨i0, hi, hz0, hz1, hz2⟩ := info_parts infoEn
  obtain ⟨A, c, rfl, hr⟩ := own_rd ho
  have hnil := fun w => Lib.run_eql_slice_nil (P := Try.prog) w 74 78 A l.length c 0 0 Try.underlying74
  rcases A with _ | ad
  · obtain ⟨h0, rfl, hx⟩ := own_none ho
    rw [h0] at hnil
    rw [h0, hx]
    clear ho hr hn h0 hx
    go_enter Try.func58, Try.ntmps58
    go_wp2
    go_ret
    exact ⟨_, rfl, World.ownsRow_nil _ _ _ _, Ext.refl _⟩
  · have Ho : Hid ((w.alloc (.cells #[] 78)).ownsRow w.heap.size 78 4 (.slice (some ⟨w.heap.size, 0, none⟩) 0 0) 0 []) := World.ownsRow_lit w #[] 0 (Nat.le_refl _) (by decide) rfl
    clear ho
    generalize hn2 : l.length = n at *
    go_enter Try.func58, Try.ntmps58
    go_wp2_with (at_builtin; refine wpList_appendAny _ rfl _ _ 74 rfl w.heap.size 78 i0 _ 4 40 Try.underlying74 hi hz0 hz1 hz2 rfl (by decide) _ _ _ rfl Ho.out _ _ _ _ rfl (hr.alloc _) (ents_one _) (by unfold maxLen; omega) (by omega) (by simp) ?_)
    intro v' w1 own1 hg1
    have hb1 : Hid (Ext w w1) := Below.grown ((Below.refl _ _).alloc (Nat.le_refl _) _) hg1 (by simp) (fun k hk => by simp [Value.ownBlock] at hk; omega)
    clear hg1
    try simp only [List.nil_append, Nat.zero_add] at own1
    replace own1 := hid own1
    go_wp2
    go_ret
    exact ⟨_, rfl, own1.out, hb1.out⟩
/-! ### drop -/
def fre (x : En) : En := ⟨x.block, x.blocks, 0, ⟨#[]⟩⟩
def grow (x : En) (n : Int) : En := ⟨x.block, x.blocks + n, x.kind, x.s⟩
def dr1 (l : List En) (i : Nat) : List En := l.set i (fre (eth l i))
def dr2 (l : List En) (i : Nat) : List En := if i + 1 < l.length ∧ (eth l (i + 1)).kind = 0 then (l.set i (grow (eth l i) (eth l (i + 1)).blocks)).eraseIdx (i + 1) else l
def dr3 (l : List En) (i : Nat) : List En := if 0 < i ∧ (eth l (i - 1)).kind = 0 then (l.set (i - 1) (grow (eth l (i - 1)) (eth l i).blocks)).eraseIdx i else l
def dr4 (l : List En) : List En := if (eth l (l.length - 1)).kind = 0 then l.take (l.length - 1) else l
def dropL (l : List En) (i : Nat) : List En := dr4 (dr3 (dr2 (dr1 l i) i) i)
theorem ents_set : ∀ (l : List En) (k j : Nat) (u : Value), k < l.length → j < 4 → ∀ x, (∀ i, i < 4 → (x : En).cells[i]? = if i = j then some u else (eth l k).cells[i]?) → (ents l).set (k * 4 + j) u = ents (l.set k x)
  | y :: l, 0, j, u, _, hj, x, hx => by
    have h0 := hx 0 (by decide)
    have h1 := hx 1 (by decide)
    have h2 := hx 2 (by decide)
    have h3 := hx 3 (by decide)
    rw [ents, List.set_cons_zero, ents, Nat.zero_mul, Nat.zero_add, List.set_append_left _ _ (by simp [En.cells]; omega)]
    congr 1
    have e : eth (y :: l) 0 = y := rfl
    rw [e] at h0 h1 h2 h3
    apply List.ext_getElem?
    intro i
    rcases Nat.lt_or_ge i 4 with hi | hi
    · rw [hx i hi, e, List.getElem?_set]
      by_cases he : j = i
      · subst he
        rw [if_pos rfl, if_pos rfl, if_pos (by simp [En.cells]; omega)]
      · rw [if_neg he, if_neg (by omega)]
    · rw [List.getElem?_eq_none (by simp [En.cells]; omega), List.getElem?_eq_none (by simp [En.cells]; omega)]
  | y :: l, k + 1, j, u, hk, hj, x, hx => by
    rw [ents, List.set_cons_succ, ents, List.set_append_right _ _ (by simp [En.cells]; omega)]
    congr 1
    rw [← ents_set l k j u (by simpa using hk) hj x (by simpa [eth] using hx)]
    congr 1
    simp [En.cells]
    omega
/-- A cell of a row turns. -/
theorem own_setE {w : World} {g n c o : Nat} {u : Value} {xs : List Value} (h : w.ownsRow 0 78 4 (.slice (some ⟨g, 0, none⟩) n c) n xs) (ho : o < n * 4) : (w.setCell ⟨g, o, none⟩ u).ownsRow 0 78 4 (.slice (some ⟨g, 0, none⟩) n c) n (xs.set o u) := by
  have hl := h.1
  rcases h.2 with ⟨hv, _⟩ | ⟨g', cap, cur, hv, _, hg, hn, hc, hs, ht⟩
  · cases hv
  · injection hv with e1 _ e3
    injection e1 with e1
    injection e1 with e1
    subst e1 e3
    refine ⟨by rw [List.length_set]; exact hl, .inr ⟨g, c, cur.setIfInBounds o u, rfl, Nat.zero_le _, ?_, hn, hc, by simpa using hs, ?_⟩⟩
    · simp [World.setCell, Array.getElem?_modify, hg]
    · rw [Array.toList_setIfInBounds, List.take_set, ht]
/-- A row that is cut short. -/
theorem own_takeE {w : World} {g n m c : Nat} {l : List En} (h : w.ownsRow 0 78 4 (.slice (some ⟨g, 0, none⟩) n c) n (ents l)) (hm : m ≤ n) : w.ownsRow 0 78 4 (.slice (some ⟨g, 0, none⟩) m c) m (ents (l.take m)) := by
  have hl := h.1
  rcases h.2 with ⟨hv, _⟩ | ⟨g', cap, cur, hv, _, hg, hn, hc, hs, ht⟩
  · cases hv
  · injection hv with e1 _ e3
    injection e1 with e1
    injection e1 with e1
    subst e1 e3
    refine ⟨by rw [← ents_take, List.length_take, hl]; apply Nat.min_eq_left; exact Nat.mul_le_mul_right _ hm, .inr ⟨g, c, cur, rfl, Nat.zero_le _, hg, by omega, hc, hs, ?_⟩⟩
    rw [← ents_take, ← ht, List.take_take, Nat.min_eq_left (Nat.mul_le_mul_right _ hm)]
end Go.Proofs.Ytcgjhloiokpicaa
