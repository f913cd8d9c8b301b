/-
  Rows of one's own: cut short, one element turned, appended to.
-/
import Derived.Test.YtpijfiaecicpfaaDd
import Derived.Test.YtpijfiaecicpfaaBa
import Derived.Maps.AppendAt
import Derived.Deep.AppendLies
namespace Go.Proofs.Ytpijfiaecicpfaa
open Go.RowKit Go.Shelf
set_option linter.unusedVariables false
set_option linter.unusedSimpArgs false
/-- A row that is cut short. -/
theorem own_cut {w : World} {b n m sz c : Nat} {A : Option Addr} {e : TypeId} {xs : List Value} (h : w.ownsRow b e sz (.slice A n c) n xs) (hm : m ≤ n) : w.ownsRow b e sz (.slice A m c) m (xs.take (m * sz)) := by
  have hl := h.1
  have hle : m * sz ≤ n * sz := Nat.mul_le_mul_right _ hm
  refine ⟨by rw [List.length_take, hl]; omega, ?_⟩
  rcases h.2 with ⟨hv, h0⟩ | ⟨g, cap, cur, hv, e2, e3, e4, e5, e6, e7⟩
  · injection hv with h1 _ h3
    refine .inl ⟨?_, by omega⟩
    rw [h1, h3, show m = 0 by omega]
  · injection hv with h1 _ h3
    refine .inr ⟨g, cap, cur, by rw [h1, h3], e2, e3, by omega, e5, e6, ?_⟩
    rw [← e7, List.take_take, Nat.min_eq_left hle]
theorem tents_set (x : Te) : ∀ (l : List Te) (k : Nat), k < l.length → ((tents l).set (k * 2) (.string x.key)).set (k * 2 + 1) (.int .i64 x.no) = tents (l.set k x)
  | [], k, h => by simp at h
  | y :: l, 0, _ => by simp [tents, tcells]
  | y :: l, k + 1, h => by
    have ih := tents_set x l k (by simpa using h)
    rw [show (k + 1) * 2 = k * 2 + 1 + 1 by omega]
    simp [tents, tcells, ih]
/-- One entry of a row that is turned. -/
theorem own_turn {w : World} {g n c k : Nat} {l : List Te} {x : Te} (h : w.ownsRow 0 71 2 (.slice (some ⟨g, 0, none⟩) n c) n (tents l)) (hk : k < l.length) :
    ((w.setCell ⟨g, k * 2, none⟩ (.string x.key)).setCell ⟨g, k * 2 + 1, none⟩ (.int .i64 x.no)).ownsRow 0 71 2 (.slice (some ⟨g, 0, none⟩) n c) n (tents (l.set k x)) := by
  rw [← tents_set x l k hk]
  exact own_setK (own_setK h)
theorem turn_rw (w : World) (g n c i j : Nat) (u v : Value) : Rw (.slice (some ⟨g, 0, none⟩) n c) (.slice (some ⟨g, 0, none⟩) n c) w ((w.setCell ⟨g, i, none⟩ u).setCell ⟨g, j, none⟩ v) :=
  ⟨⟨rfl, rfl, rfl, by simp [World.setCell], fun k _ hk => by
    have hne : g ≠ k := fun e => hk (by rw [e]; rfl)
    simp [World.setCell, Array.getElem?_modify, hne]⟩, .inl rfl⟩
/-- 'append(s, xs...)', xs whatever slice: an equation for a step. -/
theorem app_rw {P : Program} (w : World) (t ty e : TypeId) (i : TypeInfo) (z : Value) (size bytes : Nat) (ht : P.underlying t = some (.slice e)) (hi : P.info? e = some i) (hz : i.zero = some z)
    (hsize : i.size = size) (hby : i.bytes = bytes) (hzs : z.cells.size = size) (hsz : 0 < size) (v : Value) (n : Nat) (xs : List Value) (hown : w.ownsRow 0 e size v n xs)
    (A : Option Addr) (m c : Nat) (es : List Value) (hr : Rd w size A m c es) (h1 : ∀ u ∈ es, u.oneCell' = true) (h63 : n + m ≤ maxLen) (hbytes : (n + m) * bytes ≤ 140737488355328) :
    ∃ v' w', (Builtin.append_ #[t, t] ty #[v, .slice A m c]).run P w = .ok v' w' ∧ w'.ownsRow 0 e size v' (n + m) (xs ++ es) ∧ Rw v v' w w' := by
  rcases A with _ | ad
  · have hm : m = 0 := by
      rcases Nat.eq_zero_or_pos m with h0 | h0
      · exact h0
      · obtain ⟨ad, h, _⟩ := hr.2.2.2 h0
        cases h
    subst hm
    have hn : es = [] := List.eq_nil_of_length_eq_zero (by simpa using hr.1)
    subst hn
    exact ⟨v, w, run_append_nilsrc (P := P) w 0 t ty e i size ht hi v n xs hown c, by simpa using hown, World.grownBy.refl w _, .inl rfl⟩
  · have hcells : ∀ j u, es[j]? = some u → w.cell? (ad.add j) = some u := fun j u hu => by
      rcases Nat.eq_zero_or_pos m with h0 | h0
      · subst h0
        have hn : es = [] := List.eq_nil_of_length_eq_zero (by simpa using hr.1)
        subst hn
        simp at hu
      · obtain ⟨ad', e', hc⟩ := hr.2.2.2 h0
        injection e' with e'
        subst e'
        exact hc j u hu
    obtain ⟨v', w', hr', h2, h3, _, h5⟩ := run_append_own_at (P := P) w 0 t ty e i z size bytes ht hi hz hsize hby hzs hsz v n xs hown ad m c es hr.1 hcells h1 h63 hbytes (Nat.zero_le _)
    refine ⟨v', w', hr', h2, h3, ?_⟩
    rcases h5 with h5 | h5
    · exact .inl h5
    · exact .inr (fun k hk => by rw [h5] at hk; injection hk with hk; omega)
theorem appN (w : World) (ty : TypeId) (v : Value) (n : Nat) (xs : List Value) (hown : w.ownsRow 0 71 2 v n xs) (A : Option Addr) (m c : Nat) (es : List Value) (hr : Rd w 2 A m c es) (h1 : ∀ u ∈ es, u.oneCell' = true) (hn : n + m ≤ 1000000) :
    ∃ v' w', (Builtin.append_ #[92, 92] ty #[v, .slice A m c]).run Try.prog w = .ok v' w' ∧ w'.ownsRow 0 71 2 v' (n + m) (xs ++ es) ∧ Rw v v' w w' := by
  obtain ⟨i0, hi0, hz0, hz1, hz2⟩ := info_parts infoN
  exact app_rw w _ ty _ i0 _ 2 24 Try.underlying92 hi0 hz0 hz1 hz2 rfl (by decide) v n xs hown A m c es hr h1 (by unfold maxLen; omega) (by omega)
theorem appK (w : World) (ty : TypeId) (v : Value) (n : Nat) (xs : List Value) (hown : w.ownsRow 0 81 1 v n xs) (A : Option Addr) (m c : Nat) (es : List Value) (hr : Rd w 1 A m c es) (h1 : ∀ u ∈ es, u.oneCell' = true) (hn : n + m ≤ 1000000) :
    ∃ v' w', (Builtin.append_ #[103, 103] ty #[v, .slice A m c]).run Try.prog w = .ok v' w' ∧ w'.ownsRow 0 81 1 v' (n + m) (xs ++ es) ∧ Rw v v' w w' := by
  obtain ⟨i0, hi0, hz0, hz1, hz2⟩ := info_parts infoK
  exact app_rw w _ ty _ i0 _ 1 8 Try.underlying103 hi0 hz0 hz1 hz2 rfl (by decide) v n xs hown A m c es hr h1 (by unfold maxLen; omega) (by omega)
theorem fr_grow {f : Nat → Nat} {w W W' : World} {row : Option Nat} (h : FR f w W) (hg : W.grownBy W' row) (hrow : ∀ k, row = some k → k < w.heap.size → f k ≠ 0) : FR f w W' := by
  obtain ⟨a1, a2, a3, a4, a5⟩ := h
  refine ⟨a1.trans hg.os.symm, a2.trans hg.tape.symm, a3.trans hg.output.symm, by have := hg.size; omega, fun k hk h0 => ?_⟩
  rw [hg.block k (by omega) (fun e => hrow k e.symm hk h0)]
  exact a5 k hk h0
section
variable {f : Nat → Nat} {w W W' : World} {p q r : Nat} {lv kv lq kq lr kr v' : Value} {nl nk ml mk tl tk n' : Nat} {xl xk yl yk zl zk xs' : List Value}
/-- A row that turns where it lies. -/
theorem Tri.row0 (h : Tri f w W p q r lv kv lq kq lr kr nl nk ml mk tl tk xl xk yl yk zl zk) (hg : W.grownBy W' lv.ownBlock) (ho : W'.ownsRow 0 71 2 lv n' xs') :
    Tri f w W' p q r lv kv lq kq lr kr n' nk ml mk tl tk xs' xk yl yk zl zk := by
  have bl : ∀ a o, W.heap[a]? = some o → ob lv a = 0 → W'.heap[a]? = some o := fun a o h1 h0 => (hg.block a (Array.getElem?_eq_some_iff.1 h1).1 (fun e => ob_zero h0 e.symm)).trans h1
  have on : ∀ {b s n : Nat} {t : TypeId} {v : Value} {xs : List Value}, W.ownsRow b t s v n xs → (∀ a, ob v a + ob lv a ≤ 1) → W'.ownsRow b t s v n xs := fun h1 h0 => own_ne h1 hg (fun k e e2 => by have := h0 k; rw [ob_some e, ob_some e2] at this; omega)
  refine ⟨bl p _ h.hp (by have := h.nd p; rw [one_self] at this; omega), bl q _ h.hq (by have := h.nd q; rw [one_self] at this; omega), bl r _ h.hr (by have := h.nd r; rw [one_self] at this; omega), ho, on h.o2 (fun a => by have := h.nd a; omega), on h.o3 (fun a => by have := h.nd a; omega), on h.o4 (fun a => by have := h.nd a; omega), on h.o5 (fun a => by have := h.nd a; omega), on h.o6 (fun a => by have := h.nd a; omega), h.nd, ?_, h.le⟩
  exact fr_grow h.fr hg (fun k e hk h0 => by have := h.le k hk; rw [ob_some e] at this; omega)
/-- The first row's value turns, the block where it lies does not. -/
theorem Tri.put0 (h : Tri f w W p q r lv kv lq kq lr kr nl nk ml mk tl tk xl xk yl yk zl zk) (ho : W.ownsRow 0 71 2 v' n' xs') (hv : v'.ownBlock = lv.ownBlock) : Tri f w (W.setCell ⟨p, 0, none⟩ v') p q r v' kv lq kq lr kr n' nk ml mk tl tk xs' xk yl yk zl zk :=
  h.rep0 (World.grownBy.refl W _) ho (.inl hv)
theorem Tri.put1 (h : Tri f w W p q r lv kv lq kq lr kr nl nk ml mk tl tk xl xk yl yk zl zk) (ho : W.ownsRow 0 81 1 v' n' xs') (hv : v'.ownBlock = kv.ownBlock) : Tri f w (W.setCell ⟨p, 1, none⟩ v') p q r lv v' lq kq lr kr nl n' ml mk tl tk xl xs' yl yk zl zk :=
  h.rep1 (World.grownBy.refl W _) ho (.inl hv)
end
theorem ptrs_take (l : List Nat) (k : Nat) : (ptrs l).take k = ptrs (l.take k) := by unfold ptrs; rw [List.map_take]
theorem ptrs_drop (l : List Nat) (k : Nat) : (ptrs l).drop k = ptrs (l.drop k) := by unfold ptrs; rw [List.map_drop]
theorem own_same {v : Value} {A : Option Addr} {n m c : Nat} (h : v = .slice A n c) : (Value.slice A m c).ownBlock = v.ownBlock := by rw [h]; cases A <;> rfl
/-- The cells of an entry in a row of one's own. -/
theorem own_entry {W : World} {g c n k : Nat} {l : List Te} (h : W.ownsRow 0 71 2 (.slice (some ⟨g, 0, none⟩) n c) n (tents l)) (hk : k < l.length) : W.cell? ⟨g, k * 2, none⟩ = some (.string (tth l k).key) ∧ W.cell? ⟨g, k * 2 + 1, none⟩ = some (.int .i64 (tth l k).no) := by
  have hc := h.cells (g := g) rfl
  have e1 := hc (k * 2 + 0) _ (by rw [tents_at l k hk 0 (by decide)]; rfl)
  have e2 := hc (k * 2 + 1) _ (by rw [tents_at l k hk 1 (by decide)]; rfl)
  rw [lit_add] at e1 e2
  rw [tth_get hk]
  rw [Nat.zero_add, Nat.add_zero] at e1
  rw [Nat.zero_add] at e2
  exact ⟨e1, e2⟩
theorem own_ptr {W : World} {g c n k q : Nat} {l : List Nat} (h : W.ownsRow 0 81 1 (.slice (some ⟨g, 0, none⟩) n c) n (ptrs l)) (hk : l[k]? = some q) : W.cell? ⟨g, k, none⟩ = some (.pointer (some ⟨q, 0, none⟩)) := by
  have hc := h.cells (g := g) rfl
  have e1 := hc k _ (show (ptrs l)[k]? = some (.pointer (some ⟨q, 0, none⟩)) by unfold ptrs; rw [List.getElem?_map, hk]; rfl)
  rw [lit_add, Nat.zero_add] at e1
  exact e1
/-- The same at an address that is a letter. -/
theorem own_lit {W : World} {b s n m c : Nat} {t : TypeId} {ad : Addr} {xs : List Value} (h : W.ownsRow b t s (.slice (some ad) m c) n xs) : ad = ⟨ad.block, 0, none⟩ := by
  rcases h.2 with ⟨hv, _⟩ | ⟨g, cap, cur, hv, _⟩
  · cases hv
  · injection hv with e1
    injection e1 with e1
    rw [e1]
theorem own_entryA {W : World} {ad : Addr} {c n k : Nat} {l : List Te} (h : W.ownsRow 0 71 2 (.slice (some ad) n c) n (tents l)) (hk : k < l.length) : W.cell? (ad.add (k * 2)) = some (.string (tth l k).key) ∧ W.cell? ⟨(ad.add (k * 2)).block, (ad.add (k * 2)).off + 1, none⟩ = some (.int .i64 (tth l k).no) := by
  have e := own_lit h
  rw [e] at h
  have := own_entry h hk
  rw [e, lit_add, Nat.zero_add]
  exact this
theorem own_ptrA {W : World} {ad : Addr} {c n k q : Nat} {l : List Nat} (h : W.ownsRow 0 81 1 (.slice (some ad) n c) n (ptrs l)) (hk : l[k]? = some q) : W.cell? (ad.add k) = some (.pointer (some ⟨q, 0, none⟩)) := by
  have e := own_lit h
  rw [e] at h
  have := own_ptr h hk
  rw [e, lit_add, Nat.zero_add]
  exact this
theorem own_freeA {W : World} {b s n m c : Nat} {t : TypeId} {ad : Addr} {xs : List Value} (h : W.ownsRow b t s (.slice (some ad) m c) n xs) (k : Nat) : W.frozen? (ad.add k) = false ∧ W.frozen? ⟨(ad.add k).block, (ad.add k).off + 1, none⟩ = false := by
  rcases h.2 with ⟨hv, _⟩ | ⟨g, cap, cur, hv, _, hg, _⟩
  · cases hv
  · injection hv with e1
    injection e1 with e1
    rw [e1, lit_add, Nat.zero_add]
    exact ⟨Lib.frozen_of_heap hg k, Lib.frozen_of_heap hg (k + 1)⟩
theorem own_turnA {w : World} {ad : Addr} {n c k : Nat} {l : List Te} {x : Te} (h : w.ownsRow 0 71 2 (.slice (some ad) n c) n (tents l)) (hk : k < l.length) :
    ((w.setCell (ad.add (k * 2)) (.string x.key)).setCell ⟨(ad.add (k * 2)).block, (ad.add (k * 2)).off + 1, none⟩ (.int .i64 x.no)).ownsRow 0 71 2 (.slice (some ad) n c) n (tents (l.set k x)) ∧
    w.grownBy ((w.setCell (ad.add (k * 2)) (.string x.key)).setCell ⟨(ad.add (k * 2)).block, (ad.add (k * 2)).off + 1, none⟩ (.int .i64 x.no)) (Value.slice (some ad) n c).ownBlock := by
  have e := own_lit h
  rw [e] at h
  have h1 := own_turn (x := x) h hk
  have h2 := turn_rw w ad.block n c (k * 2) (k * 2 + 1) (.string x.key) (.int .i64 x.no)
  rw [e, lit_add, Nat.zero_add]
  exact ⟨h1, h2.1⟩
theorem own_midA {W : World} {ad : Addr} {c n k : Nat} {l : List Te} (h : W.ownsRow 0 71 2 (.slice (some ad) n c) n (tents l)) (hk : k < l.length) (u : Value) :
    (W.setCell (ad.add (k * 2)) u).cell? ⟨(ad.add (k * 2)).block, (ad.add (k * 2)).off + 1, none⟩ = some (.int .i64 (tth l k).no) ∧ (W.setCell (ad.add (k * 2)) u).frozen? ⟨(ad.add (k * 2)).block, (ad.add (k * 2)).off + 1, none⟩ = false := by
  have e := own_lit h
  rw [e] at h
  have h1 := own_entry h hk
  have h2 := own_freeA (own_setK (o := k * 2) (u := u) h) (k * 2)
  rw [lit_add, Nat.zero_add] at h2
  rw [e, lit_add, Nat.zero_add]
  exact ⟨set_keep h1.2 (off_ne (i := k * 2) (j := k * 2 + 1) (by omega)), h2.2⟩
/-- One element in a block of its own, as a slice. -/
theorem rd_new {w : World} {k b : Nat} {cs : List Value} {t : TypeId} {fr : Nat × Nat} (h : w.heap[b]? = some (.cells cs.toArray t fr)) (hl : cs.length = 1 * k := by first | rfl | simp) : Rd w k (some ⟨b, 0, none⟩) 1 1 cs :=
  ⟨hl, Nat.le_refl _, by unfold maxLen; omega, fun _ => ⟨_, rfl, fun j v hv => by
    have := World.news_of_block h j v (by simpa using hv)
    exact this⟩⟩
theorem own_entry0 {W : World} {ad : Addr} {c n : Nat} {l : List Te} (h : W.ownsRow 0 71 2 (.slice (some ad) n c) n (tents l)) (hk : 0 < l.length) : W.cell? ad = some (.string (tth l 0).key) ∧ W.cell? ⟨ad.block, ad.off + 1, none⟩ = some (.int .i64 (tth l 0).no) := by
  have e := own_lit h
  rw [e] at h
  have := own_entry h hk
  rw [e]
  exact this
theorem own_ptr0 {W : World} {ad : Addr} {c n q : Nat} {l : List Nat} (h : W.ownsRow 0 81 1 (.slice (some ad) n c) n (ptrs l)) (hk : l[0]? = some q) : W.cell? ad = some (.pointer (some ⟨q, 0, none⟩)) := by
  have e := own_lit h
  rw [e] at h
  have := own_ptr h hk
  rw [e]
  exact this
end Go.Proofs.Ytpijfiaecicpfaa
