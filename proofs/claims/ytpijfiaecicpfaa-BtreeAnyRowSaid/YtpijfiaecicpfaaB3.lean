/-
  Nodes in memory; where an entry stands in a node; whether it is in a tree.
-/
import Derived.Test.YtpijfiaecicpfaaB2
namespace Go.Proofs.Ytpijfiaecicpfaa
open Go.RowKit Go.Shelf
set_option linter.unusedVariables false
set_option linter.unusedSimpArgs false
/-- How often a block belongs to something. -/
def one1 (b a : Nat) : Nat := if a = b then 1 else 0
def ob (v : Value) (a : Nat) : Nat := if v.ownBlock = some a then 1 else 0
def ptrs (ps : List Nat) : List Value := ps.map (fun p => .pointer (some ⟨p, 0, none⟩))
theorem ptrs_len (ps : List Nat) : (ptrs ps).length = ps.length := by simp [ptrs]
theorem ptrs_append (a b : List Nat) : ptrs (a ++ b) = ptrs a ++ ptrs b := by simp [ptrs]
theorem ptrs_one (ps : List Nat) : ∀ u ∈ ptrs ps, u.oneCell' = true := by
  intro u h
  obtain ⟨p, _, rfl⟩ := List.mem_map.1 h
  rfl
/-- Kids, each with the blocks that are its own. -/
def Ks (R : Nat → BT → (Nat → Nat) → Prop) : List Nat → List BT → (Nat → Nat) → Prop
  | [], [], f => ∀ a, f a = 0
  | p :: ps, T :: ks, f => ∃ f1 f2, R p T f1 ∧ Ks R ps ks f2 ∧ ∀ a, f a = f1 a + f2 a
  | _, _, _ => False
/-- A tree of a height in memory: its node's block, the tree, and the blocks that are its own. -/
def TN (w : World) : Nat → Nat → BT → (Nat → Nat) → Prop
  | 0, p, .nd l ks, f => ks = [] ∧ ∃ lv kv, w.heap[p]? = some (.cells #[lv, kv] 105 (0, 0)) ∧ w.ownsRow 0 71 2 lv l.length (tents l) ∧ w.ownsRow 0 81 1 kv 0 (ptrs []) ∧ ∀ a, f a = one1 p a + ob lv a + ob kv a
  | h + 1, p, .nd l ks, f => ∃ lv kv ps g, w.heap[p]? = some (.cells #[lv, kv] 105 (0, 0)) ∧ w.ownsRow 0 71 2 lv l.length (tents l) ∧ w.ownsRow 0 81 1 kv ps.length (ptrs ps) ∧ Ks (TN w h) ps ks g ∧ ∀ a, f a = one1 p a + ob lv a + ob kv a + g a
/-- What a call may turn: the blocks of f, and new ones. -/
def FR (f : Nat → Nat) (w w' : World) : Prop := w.os = w'.os ∧ w.tape = w'.tape ∧ w.output = w'.output ∧ w.heap.size ≤ w'.heap.size ∧ ∀ k, k < w.heap.size → f k = 0 → w'.heap[k]? = w.heap[k]?
theorem FR.of_ext {f : Nat → Nat} {w w' : World} (h : Ext w w') : FR f w w' := ⟨h.os.symm, h.tape.symm, h.output.symm, h.size, fun k hk _ => h.block hk⟩
theorem FR.trans {f f' : Nat → Nat} {w w' w2 : World} (h : FR f w w') (h2 : FR f' w' w2) (hs : ∀ k, k < w.heap.size → f k = 0 → f' k = 0) : FR f w w2 :=
  ⟨h.1.trans h2.1, h.2.1.trans h2.2.1, h.2.2.1.trans h2.2.2.1, Nat.le_trans h.2.2.2.1 h2.2.2.2.1, fun k hk h0 => (h2.2.2.2.2 k (Nat.lt_of_lt_of_le hk h.2.2.2.1) (hs k hk h0)).trans (h.2.2.2.2 k hk h0)⟩
theorem FR.mono {f f' : Nat → Nat} {w w' : World} (h : FR f w w') (hs : ∀ k, k < w.heap.size → f' k = 0 → f k = 0) : FR f' w w' := ⟨h.1, h.2.1, h.2.2.1, h.2.2.2.1, fun k hk h0 => h.2.2.2.2 k hk (hs k hk h0)⟩
theorem FR.own {f : Nat → Nat} {w w' : World} {b sz n : Nat} {t : TypeId} {v : Value} {xs : List Value} (h : FR f w w') (ho : w.ownsRow b t sz v n xs) (hv : ∀ k, v.ownBlock = some k → f k = 0) : w'.ownsRow b t sz v n xs := by
  refine ⟨ho.1, ?_⟩
  rcases ho.2 with h2 | ⟨g', cap, cur, rfl, e2, e3, e4⟩
  · exact .inl h2
  · exact .inr ⟨g', cap, cur, rfl, e2, (h.2.2.2.2 g' (Array.getElem?_eq_some_iff.1 e3).1 (hv g' rfl)).trans e3, e4⟩
theorem ob_some {v : Value} {k : Nat} (h : v.ownBlock = some k) : ob v k = 1 := if_pos h
theorem one_self (p : Nat) : one1 p p = 1 := if_pos rfl
theorem ob_zero {v : Value} {k : Nat} (h : ob v k = 0) : v.ownBlock ≠ some k := fun e => by rw [ob_some e] at h; cases h
theorem Ks.frame {R R' : Nat → BT → (Nat → Nat) → Prop} {f : Nat → Nat} (hR : ∀ p T g, R p T g → (∀ a, 0 < g a → f a = 0) → R' p T g) : ∀ {ps : List Nat} {ks : List BT} {g : Nat → Nat}, Ks R ps ks g → (∀ a, 0 < g a → f a = 0) → Ks R' ps ks g
  | [], [], g, h, _ => h
  | p :: ps, T :: ks, g, ⟨f1, f2, h1, h2, h3⟩, hg => ⟨f1, f2, hR _ _ _ h1 (fun a ha => hg a (by rw [h3 a]; omega)), Ks.frame hR h2 (fun a ha => hg a (by rw [h3 a]; omega)), h3⟩
  | [], _ :: _, g, h, _ => h.elim
  | _ :: _, [], g, h, _ => h.elim
theorem TN.frame {w w' : World} {f : Nat → Nat} (hF : FR f w w') : ∀ {h : Nat} {p : Nat} {T : BT} {g : Nat → Nat}, TN w h p T g → (∀ a, 0 < g a → f a = 0) → TN w' h p T g
  | 0, p, .nd l ks, g, ⟨hk, lv, kv, e1, e2, e3, e4⟩, hg => ⟨hk, lv, kv, (hF.2.2.2.2 p (Array.getElem?_eq_some_iff.1 e1).1 (hg p (by rw [e4 p, one_self]; omega))).trans e1,
      hF.own e2 (fun k e => hg k (by rw [e4 k, ob_some e]; omega)), hF.own e3 (fun k e => hg k (by rw [e4 k, ob_some e]; omega)), e4⟩
  | h + 1, p, .nd l ks, g, ⟨lv, kv, ps, g1, e1, e2, e3, e5, e4⟩, hg => ⟨lv, kv, ps, g1, (hF.2.2.2.2 p (Array.getElem?_eq_some_iff.1 e1).1 (hg p (by rw [e4 p, one_self]; omega))).trans e1,
      hF.own e2 (fun k e => hg k (by rw [e4 k, ob_some e]; omega)), hF.own e3 (fun k e => hg k (by rw [e4 k, ob_some e]; omega)), Ks.frame (fun p T g h1 h2 => TN.frame hF h1 h2) e5 (fun a ha => hg a (by rw [e4 a]; omega)), e4⟩
theorem TN.ext {w w' : World} {h p : Nat} {T : BT} {g : Nat → Nat} (h1 : TN w h p T g) (hx : Ext w w') : TN w' h p T g := h1.frame (f := fun _ => 0) (FR.of_ext hx) (fun _ _ => rfl)
theorem Ks.len {R : Nat → BT → (Nat → Nat) → Prop} : ∀ {ps : List Nat} {ks : List BT} {g : Nat → Nat}, Ks R ps ks g → ps.length = ks.length
  | [], [], _, _ => rfl
  | _ :: ps, _ :: ks, g, ⟨_, _, _, h, _⟩ => by simp [h.len]
  | [], _ :: _, _, h => h.elim
  | _ :: _, [], _, h => h.elim
/-- Kids at a place. -/
theorem Ks.cut {R : Nat → BT → (Nat → Nat) → Prop} : ∀ {i : Nat} {ps : List Nat} {ks : List BT} {g : Nat → Nat} {K : BT}, Ks R ps ks g → ks[i]? = some K → ∃ q g0 g1 g2, ps[i]? = some q ∧ R q K g1 ∧ Ks R (ps.take i) (ks.take i) g0 ∧ Ks R (ps.drop (i + 1)) (ks.drop (i + 1)) g2 ∧ ∀ a, g a = g0 a + g1 a + g2 a
  | 0, p :: ps, T :: ks, g, K, ⟨f1, f2, h1, h2, h3⟩, hK => by
    obtain rfl := Option.some.inj hK
    exact ⟨p, fun _ => 0, f1, f2, rfl, h1, fun _ => rfl, h2, fun a => by show g a = 0 + f1 a + f2 a; rw [h3 a]; omega⟩
  | i + 1, p :: ps, T :: ks, g, K, ⟨f1, f2, h1, h2, h3⟩, hK => by
    obtain ⟨q, g0, g1, g2, e1, e2, e3, e4, e5⟩ := Ks.cut h2 (i := i) (K := K) hK
    exact ⟨q, fun a => f1 a + g0 a, g1, g2, e1, e2, ⟨f1, g0, h1, e3, fun _ => rfl⟩, e4, fun a => by show g a = (f1 a + g0 a) + g1 a + g2 a; rw [h3 a, e5 a]; omega⟩
  | _, [], [], _, _, _, hK => by cases hK
  | _, [], _ :: _, _, _, h, _ => h.elim
  | _, _ :: _, [], _, _, h, _ => h.elim
theorem Ks.app {R : Nat → BT → (Nat → Nat) → Prop} : ∀ {ps qs : List Nat} {ks ms : List BT} {f g : Nat → Nat}, Ks R ps ks f → Ks R qs ms g → Ks R (ps ++ qs) (ks ++ ms) (fun a => f a + g a)
  | [], qs, [], ms, f, g, h, h2 => by
    have : (fun a => f a + g a) = g := by funext a; rw [h a]; omega
    rw [this]
    exact h2
  | p :: ps, qs, T :: ks, ms, f, g, ⟨f1, f2, h1, h3, h4⟩, h2 => ⟨f1, _, h1, h3.app h2, fun a => by show f a + g a = f1 a + (f2 a + g a); rw [h4 a]; omega⟩
  | [], _, _ :: _, _, _, _, h, _ => h.elim
  | _ :: _, _, [], _, _, _, h, _ => h.elim
theorem Ks.same {R : Nat → BT → (Nat → Nat) → Prop} {ps : List Nat} {ks : List BT} {f g : Nat → Nat} (h : Ks R ps ks f) (e : ∀ a, g a = f a) : Ks R ps ks g := by
  have : g = f := funext e
  rw [this]
  exact h
/-- What a node's block holds. -/
theorem TN.cells {w : World} {h p : Nat} {l : List Te} {ks : List BT} {f : Nat → Nat} (hT : TN w h p (.nd l ks) f) : ∃ A c kA kn kc, w.cell? ⟨p, 0, none⟩ = some (.slice A l.length c) ∧ w.cell? ⟨p, 1, none⟩ = some (.slice kA kn kc) ∧ RdN w A l.length c l ∧ (h = 0 → kn = 0) := by
  cases h with
  | zero =>
    obtain ⟨hk, lv, kv, e1, e2, e3, e4⟩ := hT
    obtain ⟨A, c, rfl, hr⟩ := own_rd e2
    obtain ⟨kA, kc, rfl, _⟩ := own_rd e3
    exact ⟨A, c, kA, 0, kc, by rw [Lib.cell_of_heap e1]; rfl, by rw [Lib.cell_of_heap e1]; rfl, hr, fun _ => rfl⟩
  | succ h =>
    obtain ⟨lv, kv, ps, g, e1, e2, e3, e5, e4⟩ := hT
    obtain ⟨A, c, rfl, hr⟩ := own_rd e2
    obtain ⟨kA, kc, rfl, _⟩ := own_rd e3
    exact ⟨A, c, kA, ps.length, kc, by rw [Lib.cell_of_heap e1]; rfl, by rw [Lib.cell_of_heap e1]; rfl, hr, fun h => by cases h⟩
set_option maxRecDepth 100000 in
set_option maxHeartbeats 4000000 in
theorem place_any (p : Nat) (A : Option Addr) (n c : Nat) (l : List Te) (e : Te) (w : World) (hp : w.cell? ⟨p, 0, none⟩ = some (.slice A n c)) (hl : RdN w A n c l) (hS : Srt l) (hn : n ≤ 1000000) : Calls Try.prog 96 #[.pointer (some ⟨p, 0, none⟩), .agg #[.string e.key, .int .i64 e.no]] w (Give (.tuple #[.int .i64 (rankT l e), .bool (memT l e)]) w) := by
  have ha := heap_alloc_new w (.cells #[.string e.key, .int .i64 e.no] 71)
  have hx1 := hid ((Ext.refl w).alloc_right (.cells #[.string e.key, .int .i64 e.no] 71))
  have z0 : (w.alloc (.cells #[.string e.key, .int .i64 e.no] 71)).cell? ⟨w.heap.size, 0, none⟩ = some (.string e.key) := by rw [Lib.cell_of_heap ha]; rfl
  have z1 : (w.alloc (.cells #[.string e.key, .int .i64 e.no] 71)).cell? ⟨w.heap.size, 1, none⟩ = some (.int .i64 e.no) := by rw [Lib.cell_of_heap ha]; rfl
  have zp := hx1.out.cell hp
  have lp := World.block_lt_of_cell? _ _ zp
  dsimp only at lp
  replace hl := hid hl
  replace hS := hid hS
  clear ha hp
  generalize hRk : rankT l e = rk at *
  generalize hMm : memT l e = mm at *
  replace hRk := hid hRk
  replace hMm := hid hMm
  go_enter Try.func96, Try.ntmps96
  go_upto_region 1 with fail
  generalize w.alloc (.cells #[.string e.key, .int .i64 e.no] 71) = w1 at *
  generalize w.heap.size = b at *
  have I0 : (fun w' : World => w'.cell? ⟨p, 0, none⟩ = some (.slice A n c) ∧ w'.cell? ⟨b, 0, none⟩ = some (.string e.key) ∧ w'.cell? ⟨b, 1, none⟩ = some (.int .i64 e.no)) w1.drew := ⟨zp, z0, z1⟩
  replace hx1 := hid (hx1.out.drew_right)
  refine region_J (fun w' : World => w'.cell? ⟨p, 0, none⟩ = some (.slice A n c) ∧ w'.cell? ⟨b, 0, none⟩ = some (.string e.key) ∧ w'.cell? ⟨b, 1, none⟩ = some (.int .i64 e.no)) 10 (by kernel_rfl) ?_
  clear zp z0 z1
  generalize w1.drew = w2 at *
  refine J_takeO 0 (v := ?vc0) rfl (by kernel_rfl) (by kernel_rfl) (by kernel_rfl) (by kernel_rfl) (fun _ _ _ h => h) (Or.inl ⟨by rfl, ?yc0⟩) I0 ?rc0
  case yc0 => (intro w hSw; obtain ⟨_, _, _⟩ := hSw; (go_simp; with_reducible rfl))
  simp only [Act.put, List.getElem_toArray, List.getElem_cons_zero, List.getElem_cons_succ, List.setIfInBounds_toArray, List.set_cons_zero, List.set_cons_succ]
  refine J_takeO 1 (v := ?vc1) rfl (by kernel_rfl) (by kernel_rfl) (by kernel_rfl) (by kernel_rfl) (fun _ _ _ h => h) (Or.inl ⟨by rfl, ?yc1⟩) I0 ?rc1
  case yc1 => (intro w hSw; obtain ⟨_, _, _⟩ := hSw; (go_simp; with_reducible rfl))
  simp only [Act.put, List.getElem_toArray, List.getElem_cons_zero, List.getElem_cons_succ, List.setIfInBounds_toArray, List.set_cons_zero, List.set_cons_succ]
  refine J_takeO 2 (v := ?vc2) rfl (by kernel_rfl) (by kernel_rfl) (by kernel_rfl) (by kernel_rfl) (fun _ _ _ h => h) (Or.inl ⟨by rfl, ?yc2⟩) I0 ?rc2
  case yc2 => (intro w hSw; obtain ⟨_, _, _⟩ := hSw; (go_simp; with_reducible rfl))
  simp only [Act.put, List.getElem_toArray, List.getElem_cons_zero, List.getElem_cons_succ, List.setIfInBounds_toArray, List.set_cons_zero, List.set_cons_succ]
  refine J_takeO 3 (v := ?vc3) rfl (by kernel_rfl) (by kernel_rfl) (by kernel_rfl) (by kernel_rfl) (fun _ _ _ h => h) (Or.inl ⟨by rfl, ?yc3⟩) I0 ?rc3
  case yc3 => (intro w hSw; obtain ⟨_, _, _⟩ := hSw; (go_simp; with_reducible rfl))
  simp only [Act.put, List.getElem_toArray, List.getElem_cons_zero, List.getElem_cons_succ, List.setIfInBounds_toArray, List.set_cons_zero, List.set_cons_succ]
  refine J_takeO 4 (v := ?vc4) rfl (by kernel_rfl) (by kernel_rfl) (by kernel_rfl) (by kernel_rfl) (fun _ _ _ h => h) (Or.inl ⟨by rfl, ?yc4⟩) I0 ?rc4
  case yc4 => (intro w hSw; obtain ⟨_, _, _⟩ := hSw; (go_simp; with_reducible rfl))
  simp only [Act.put, List.getElem_toArray, List.getElem_cons_zero, List.getElem_cons_succ, List.setIfInBounds_toArray, List.set_cons_zero, List.set_cons_succ]
  refine J_one 5 rfl (by kernel_rfl) (fun K hK => ?_)
  go_simp
  refine (bsearch_any A n c l e _ (hl.out.ext hx1.out) hS.out hn).mono ?_
  rintro e' w5 ⟨rfl, hx5⟩
  have I5 : (fun w' : World => w'.cell? ⟨p, 0, none⟩ = some (.slice A n c) ∧ w'.cell? ⟨b, 0, none⟩ = some (.string e.key) ∧ w'.cell? ⟨b, 1, none⟩ = some (.int .i64 e.no)) w5 := ⟨hx5.cell I0.1, hx5.cell I0.2.1, hx5.cell I0.2.2⟩
  have hx6 := hid (hx1.out.trans hx5)
  clear hx5
  refine hK _ _ ⟨fun _ => I5, ?_⟩
  clear hK K
  try simp only [Act.put, List.getElem_toArray, List.getElem_cons_zero, List.getElem_cons_succ, List.setIfInBounds_toArray, List.set_cons_zero, List.set_cons_succ]
  refine J_takeO 6 (v := ?vd6) rfl (by kernel_rfl) (by kernel_rfl) (by kernel_rfl) (by kernel_rfl) (fun _ _ _ h => h) (Or.inl ⟨by rfl, ?yd6⟩) I5 ?rd6
  case yd6 => (intro w hSw; obtain ⟨_, _, _⟩ := hSw; (go_simp; with_reducible rfl))
  simp only [Act.put, List.getElem_toArray, List.getElem_cons_zero, List.getElem_cons_succ, List.setIfInBounds_toArray, List.set_cons_zero, List.set_cons_succ]
  refine J_takeO 7 (v := ?vd7) rfl (by kernel_rfl) (by kernel_rfl) (by kernel_rfl) (by kernel_rfl) (fun _ _ _ h => h) (Or.inl ⟨by rfl, ?yd7⟩) I5 ?rd7
  case yd7 => (intro w hSw; obtain ⟨_, _, _⟩ := hSw; (go_simp; with_reducible rfl))
  simp only [Act.put, List.getElem_toArray, List.getElem_cons_zero, List.getElem_cons_succ, List.setIfInBounds_toArray, List.set_cons_zero, List.set_cons_succ]
  refine J_takeO 8 (v := ?vd8) rfl (by kernel_rfl) (by kernel_rfl) (by kernel_rfl) (by kernel_rfl) (fun _ _ _ h => h) (Or.inl ⟨by rfl, ?yd8⟩) I5 ?rd8
  case yd8 => (intro w hSw; obtain ⟨_, _, _⟩ := hSw; (go_simp; with_reducible rfl))
  simp only [Act.put, List.getElem_toArray, List.getElem_cons_zero, List.getElem_cons_succ, List.setIfInBounds_toArray, List.set_cons_zero, List.set_cons_succ]
  refine J_one 9 rfl (by kernel_rfl) (fun K hK => ?_)
  go_simp
  refine hK _ _ ⟨fun _ => I5, ?_⟩
  clear hK K
  try simp only [Act.put, List.setIfInBounds_toArray, List.set_cons_zero, List.set_cons_succ]
  refine J_done (by kernel_rfl) (OnlyOn.normal ?_)
  go_wp2
  go_ret2
  exact ⟨by rw [hRk.out, hMm.out]; rfl, hx6.out⟩
set_option maxRecDepth 100000 in
set_option maxHeartbeats 4000000 in
theorem has_any : ∀ (h p : Nat) (T : BT) (f : Nat → Nat) (w : World) (e : Te), TN w h p T f → Shp h T → Srt (flat h T) → T.l.length ≤ 5 → Calls Try.prog 61 #[.pointer (some ⟨p, 0, none⟩), .agg #[.string e.key, .int .i64 e.no]] w (Give (.bool (memT (flat h T) e)) w) := by
  intro h
  induction h with
  | zero =>
    intro p T f w e hT hs hS hl
    obtain ⟨l, ks⟩ := T
    obtain ⟨A, c, kA, kn, kc, cp0, cp1, hr, hk0⟩ := hT.cells
    obtain rfl := hk0 rfl
    have hl5 : l.length ≤ 5 := hl
    have hSl : Srt l := hS
    have hml := Rd.max hr
    show Calls Try.prog _ _ w (Give (.bool (memT l e)) w)
    have ha := heap_alloc_new w (.cells #[.string e.key, .int .i64 e.no] 71)
    have hx1 := hid ((Ext.refl w).alloc_right (.cells #[.string e.key, .int .i64 e.no] 71))
    have z0 : (w.alloc (.cells #[.string e.key, .int .i64 e.no] 71)).cell? ⟨w.heap.size, 0, none⟩ = some (.string e.key) := by rw [Lib.cell_of_heap ha]; rfl
    have z1 : (w.alloc (.cells #[.string e.key, .int .i64 e.no] 71)).cell? ⟨w.heap.size, 1, none⟩ = some (.int .i64 e.no) := by rw [Lib.cell_of_heap ha]; rfl
    have zp := hx1.out.cell cp0
    have zk := hx1.out.cell cp1
    have lp := World.block_lt_of_cell? _ _ zp
    dsimp only at lp
    have hP := hid (place_any p A l.length c l e _ zp (hr.ext hx1.out) hSl (by omega))
    clear ha cp0 cp1
    go_enter Try.func61, Try.ntmps61
    go_upto_region 1 with fail
    generalize w.alloc (.cells #[.string e.key, .int .i64 e.no] 71) = w1 at *
    generalize w.heap.size = b at *
    generalize rankT l e = i at *
    generalize memT l e = mm at *
    go_wp2_with fail
    refine hP.out.mono ?_
    rintro e' w2 ⟨rfl, hx2⟩
    replace zp := hx2.cell zp
    replace zk := hx2.cell zk
    replace z0 := hx2.cell z0
    replace z1 := hx2.cell z1
    replace hx1 := hid (hx1.out.trans hx2)
    clear hx2 hP
    have lp2 := World.block_lt_of_cell? _ _ zp
    dsimp only at lp2
    clear hT hs hS hl
    cases mm with
    | true =>
      go_upto_region 2 with fail
      go_quiet (fail)
      go_wp2
      go_ret
      exact ⟨rfl, hx1.out.drewN_right _⟩
    | false =>
      go_upto_region 2 with fail
      go_quiet (fail)
      go_wp2
      go_ret
      exact ⟨rfl, hx1.out.drewN_right _⟩
  | succ h ih =>
    intro p T f w e hT hs hS hl
    obtain ⟨l, ks⟩ := T
    obtain ⟨hSl, K, hKi, -, -, -, hSK⟩ := node_lt hs hS e
    obtain ⟨K', hKi', hmm⟩ := mem_node hs hS e
    obtain rfl := Option.some.inj (hKi.symm.trans hKi')
    have hmK : K ∈ ks := List.mem_of_getElem? hKi
    obtain ⟨k1, k2, k3⟩ := hs.2 K hmK
    obtain ⟨lv, kv, ps, g, e1, e2, e3, e5, e4⟩ := hT
    obtain ⟨A, c, rfl, hr⟩ := own_rd e2
    obtain ⟨kA, kc, rfl, hkr⟩ := own_rd e3
    have cp0 : w.cell? ⟨p, 0, none⟩ = some (.slice A l.length c) := by rw [Lib.cell_of_heap e1]; rfl
    have cp1 : w.cell? ⟨p, 1, none⟩ = some (.slice kA ps.length kc) := by rw [Lib.cell_of_heap e1]; rfl
    obtain ⟨q, g0, g1, g2, hpi, hKq, -, -, -⟩ := e5.cut hKi
    have hil : rankT l e < ps.length := (List.getElem?_eq_some_iff.1 hpi).1
    obtain ⟨ad, rfl, hcc⟩ := hkr.2.2.2 (by omega)
    have cq : w.cell? (ad.add (rankT l e)) = some (.pointer (some ⟨q, 0, none⟩)) := hcc _ _ (by unfold ptrs; rw [List.getElem?_map, hpi]; rfl)
    have hkm := Rd.max hkr
    have hl5 : l.length ≤ 5 := hl
    have hml := Rd.max hr
    rw [hmm]
    have hK := hid hKq
    have hsK := hid k3
    have hSK' := hid hSK
    have hlK : Hid (K.l.length ≤ 5) := by unfold Hid; omega
    have ih' := hid (fun w' (hx : Ext w w') => ih q K g1 w' e (hKq.ext hx) hsK.out hSK'.out hlK.out)
    generalize memT (flat h K) e = mk at *
    clear hmm hkr hcc hpi hKi hKi' hmK k1 k2 k3 hSK e1 e2 e3 e5 e4 hs hS hl hKq
    have ha := heap_alloc_new w (.cells #[.string e.key, .int .i64 e.no] 71)
    have hx1 := hid ((Ext.refl w).alloc_right (.cells #[.string e.key, .int .i64 e.no] 71))
    have z0 : (w.alloc (.cells #[.string e.key, .int .i64 e.no] 71)).cell? ⟨w.heap.size, 0, none⟩ = some (.string e.key) := by rw [Lib.cell_of_heap ha]; rfl
    have z1 : (w.alloc (.cells #[.string e.key, .int .i64 e.no] 71)).cell? ⟨w.heap.size, 1, none⟩ = some (.int .i64 e.no) := by rw [Lib.cell_of_heap ha]; rfl
    have zp := hx1.out.cell cp0
    have zk := hx1.out.cell cp1
    have lp := World.block_lt_of_cell? _ _ zp
    dsimp only at lp
    have hP := hid (place_any p A l.length c l e _ zp (hr.ext hx1.out) hSl (by omega))
    clear ha cp0 cp1
    go_enter Try.func61, Try.ntmps61
    go_upto_region 1 with fail
    generalize w.alloc (.cells #[.string e.key, .int .i64 e.no] 71) = w1 at *
    generalize w.heap.size = b at *
    generalize rankT l e = i at *
    generalize memT l e = mm at *
    go_wp2_with fail
    refine hP.out.mono ?_
    rintro e' w2 ⟨rfl, hx2⟩
    replace zp := hx2.cell zp
    replace zk := hx2.cell zk
    replace z0 := hx2.cell z0
    replace z1 := hx2.cell z1
    replace hx1 := hid (hx1.out.trans hx2)
    clear hx2 hP
    have lp2 := World.block_lt_of_cell? _ _ zp
    dsimp only at lp2
    replace cq := hx1.out.cell cq
    generalize ps.length = kn at *
    cases mm with
    | true =>
      go_upto_region 2 with fail
      go_quiet (fail)
      go_wp2
      go_ret
      exact ⟨rfl, hx1.out.drewN_right _⟩
    | false =>
      have hki : (i : Int) < (kn : Int) := by omega
      have hk0 : 0 < kn := by omega
      go_upto_region 2 with fail
      have I0 : (fun w' : World => w'.cell? ⟨p, 1, none⟩ = some (.slice (some ad) kn kc) ∧ w'.cell? (ad.add i) = some (.pointer (some ⟨q, 0, none⟩)) ∧ w'.cell? ⟨b, 0, none⟩ = some (.string e.key) ∧ w'.cell? ⟨b, 1, none⟩ = some (.int .i64 e.no)) w2.drew := ⟨zk, cq, z0, z1⟩
      have hx3 := hid (hx1.out.drew_right)
      refine region_J (fun w' : World => w'.cell? ⟨p, 1, none⟩ = some (.slice (some ad) kn kc) ∧ w'.cell? (ad.add i) = some (.pointer (some ⟨q, 0, none⟩)) ∧ w'.cell? ⟨b, 0, none⟩ = some (.string e.key) ∧ w'.cell? ⟨b, 1, none⟩ = some (.int .i64 e.no)) 21 (by kernel_rfl) ?_
      clear zp zk z0 z1 cq hx1
      generalize w2.drew = w3 at *
      refine J_takeO 0 (v := ?vc0) rfl (by kernel_rfl) (by kernel_rfl) (by kernel_rfl) (by kernel_rfl) (fun _ _ _ h => h) (Or.inl ⟨by rfl, ?yc0⟩) I0 ?rc0
      case yc0 => (intro w hSw; obtain ⟨_, _, _, _⟩ := hSw; (go_simp; with_reducible rfl))
      simp only [Act.put, List.getElem_toArray, List.getElem_cons_zero, List.getElem_cons_succ, List.setIfInBounds_toArray, List.set_cons_zero, List.set_cons_succ]
      refine J_takeO 1 (v := ?vc1) rfl (by kernel_rfl) (by kernel_rfl) (by kernel_rfl) (by kernel_rfl) (fun _ _ _ h => h) (Or.inl ⟨by rfl, ?yc1⟩) I0 ?rc1
      case yc1 => (intro w hSw; obtain ⟨_, _, _, _⟩ := hSw; (go_simp; with_reducible rfl))
      simp only [Act.put, List.getElem_toArray, List.getElem_cons_zero, List.getElem_cons_succ, List.setIfInBounds_toArray, List.set_cons_zero, List.set_cons_succ]
      refine J_takeO 2 (v := ?vc2) rfl (by kernel_rfl) (by kernel_rfl) (by kernel_rfl) (by kernel_rfl) (fun _ _ _ h => h) (Or.inl ⟨by rfl, ?yc2⟩) I0 ?rc2
      case yc2 => (intro w hSw; obtain ⟨_, _, _, _⟩ := hSw; (go_simp; with_reducible rfl))
      simp only [Act.put, List.getElem_toArray, List.getElem_cons_zero, List.getElem_cons_succ, List.setIfInBounds_toArray, List.set_cons_zero, List.set_cons_succ]
      refine J_takeO 3 (v := ?vc3) rfl (by kernel_rfl) (by kernel_rfl) (by kernel_rfl) (by kernel_rfl) (fun _ _ _ h => h) (Or.inl ⟨by rfl, ?yc3⟩) I0 ?rc3
      case yc3 => (intro w hSw; obtain ⟨_, _, _, _⟩ := hSw; (go_simp; with_reducible rfl))
      simp only [Act.put, List.getElem_toArray, List.getElem_cons_zero, List.getElem_cons_succ, List.setIfInBounds_toArray, List.set_cons_zero, List.set_cons_succ]
      refine J_takeO 4 (v := ?vc4) rfl (by kernel_rfl) (by kernel_rfl) (by kernel_rfl) (by kernel_rfl) (fun _ _ _ h => h) (Or.inl ⟨by rfl, ?yc4⟩) I0 ?rc4
      case yc4 => (intro w hSw; obtain ⟨_, _, _, _⟩ := hSw; (go_simp; with_reducible rfl))
      simp only [Act.put, List.getElem_toArray, List.getElem_cons_zero, List.getElem_cons_succ, List.setIfInBounds_toArray, List.set_cons_zero, List.set_cons_succ]
      refine J_takeO 5 (v := ?vc5) rfl (by kernel_rfl) (by kernel_rfl) (by kernel_rfl) (by kernel_rfl) (fun _ _ _ h => h) (Or.inl ⟨by rfl, ?yc5⟩) I0 ?rc5
      case yc5 => (intro w hSw; obtain ⟨_, _, _, _⟩ := hSw; (go_simp; with_reducible rfl))
      simp only [Act.put, List.getElem_toArray, List.getElem_cons_zero, List.getElem_cons_succ, List.setIfInBounds_toArray, List.set_cons_zero, List.set_cons_succ]
      refine J_takeO 6 (v := ?vc6) rfl (by kernel_rfl) (by kernel_rfl) (by kernel_rfl) (by kernel_rfl) (fun _ _ _ h => h) (Or.inl ⟨by rfl, ?yc6⟩) I0 ?rc6
      case yc6 => (intro w hSw; obtain ⟨_, _, _, _⟩ := hSw; (go_simp; with_reducible rfl))
      simp only [Act.put, List.getElem_toArray, List.getElem_cons_zero, List.getElem_cons_succ, List.setIfInBounds_toArray, List.set_cons_zero, List.set_cons_succ]
      refine J_takeO 7 (v := ?vc7) rfl (by kernel_rfl) (by kernel_rfl) (by kernel_rfl) (by kernel_rfl) (fun _ _ _ h => h) (Or.inl ⟨by rfl, ?yc7⟩) I0 ?rc7
      case yc7 => (intro w hSw; obtain ⟨_, _, _, _⟩ := hSw; (go_simp; with_reducible rfl))
      simp only [Act.put, List.getElem_toArray, List.getElem_cons_zero, List.getElem_cons_succ, List.setIfInBounds_toArray, List.set_cons_zero, List.set_cons_succ]
      refine J_takeO 8 (v := ?vc8) rfl (by kernel_rfl) (by kernel_rfl) (by kernel_rfl) (by kernel_rfl) (fun _ _ _ h => h) (Or.inl ⟨by rfl, ?yc8⟩) I0 ?rc8
      case yc8 => (intro w hSw; obtain ⟨_, _, _, _⟩ := hSw; (go_simp; with_reducible rfl))
      simp only [Act.put, List.getElem_toArray, List.getElem_cons_zero, List.getElem_cons_succ, List.setIfInBounds_toArray, List.set_cons_zero, List.set_cons_succ]
      refine J_takeO 9 (v := ?vc9) rfl (by kernel_rfl) (by kernel_rfl) (by kernel_rfl) (by kernel_rfl) (fun _ _ _ h => h) (Or.inl ⟨by rfl, ?yc9⟩) I0 ?rc9
      case yc9 => (intro w hSw; obtain ⟨_, _, _, _⟩ := hSw; (go_simp; with_reducible rfl))
      simp only [Act.put, List.getElem_toArray, List.getElem_cons_zero, List.getElem_cons_succ, List.setIfInBounds_toArray, List.set_cons_zero, List.set_cons_succ]
      refine J_takeO 10 (v := ?vc10) rfl (by kernel_rfl) (by kernel_rfl) (by kernel_rfl) (by kernel_rfl) (fun _ _ _ h => h) (Or.inl ⟨by rfl, ?yc10⟩) I0 ?rc10
      case yc10 => (intro w hSw; obtain ⟨_, _, _, _⟩ := hSw; (go_simp; with_reducible rfl))
      simp only [Act.put, List.getElem_toArray, List.getElem_cons_zero, List.getElem_cons_succ, List.setIfInBounds_toArray, List.set_cons_zero, List.set_cons_succ]
      refine J_takeO 11 (v := ?vc11) rfl (by kernel_rfl) (by kernel_rfl) (by kernel_rfl) (by kernel_rfl) (fun _ _ _ h => h) (Or.inl ⟨by rfl, ?yc11⟩) I0 ?rc11
      case yc11 => (intro w hSw; obtain ⟨_, _, _, _⟩ := hSw; (go_simp; with_reducible rfl))
      simp only [Act.put, List.getElem_toArray, List.getElem_cons_zero, List.getElem_cons_succ, List.setIfInBounds_toArray, List.set_cons_zero, List.set_cons_succ]
      refine J_takeO 12 (v := ?vc12) rfl (by kernel_rfl) (by kernel_rfl) (by kernel_rfl) (by kernel_rfl) (fun _ _ _ h => h) (Or.inl ⟨by rfl, ?yc12⟩) I0 ?rc12
      case yc12 => (intro w hSw; obtain ⟨_, _, _, _⟩ := hSw; (go_simp; with_reducible rfl))
      simp only [Act.put, List.getElem_toArray, List.getElem_cons_zero, List.getElem_cons_succ, List.setIfInBounds_toArray, List.set_cons_zero, List.set_cons_succ]
      refine J_takeO 13 (v := ?vc13) rfl (by kernel_rfl) (by kernel_rfl) (by kernel_rfl) (by kernel_rfl) (fun _ _ _ h => h) (Or.inl ⟨by rfl, ?yc13⟩) I0 ?rc13
      case yc13 => (intro w hSw; obtain ⟨_, _, _, _⟩ := hSw; (go_simp; with_reducible rfl))
      simp only [Act.put, List.getElem_toArray, List.getElem_cons_zero, List.getElem_cons_succ, List.setIfInBounds_toArray, List.set_cons_zero, List.set_cons_succ]
      refine J_takeO 14 (v := ?vc14) rfl (by kernel_rfl) (by kernel_rfl) (by kernel_rfl) (by kernel_rfl) (fun _ _ _ h => h) (Or.inl ⟨by rfl, ?yc14⟩) I0 ?rc14
      case yc14 => (intro w hSw; obtain ⟨_, _, _, _⟩ := hSw; (go_simp; with_reducible rfl))
      simp only [Act.put, List.getElem_toArray, List.getElem_cons_zero, List.getElem_cons_succ, List.setIfInBounds_toArray, List.set_cons_zero, List.set_cons_succ]
      refine J_takeO 15 (v := ?vc15) rfl (by kernel_rfl) (by kernel_rfl) (by kernel_rfl) (by kernel_rfl) (fun _ _ _ h => h) (Or.inl ⟨by rfl, ?yc15⟩) I0 ?rc15
      case yc15 => (intro w hSw; obtain ⟨_, _, _, _⟩ := hSw; (go_simp; with_reducible rfl))
      simp only [Act.put, List.getElem_toArray, List.getElem_cons_zero, List.getElem_cons_succ, List.setIfInBounds_toArray, List.set_cons_zero, List.set_cons_succ]
      refine J_takeO 16 (v := ?vc16) rfl (by kernel_rfl) (by kernel_rfl) (by kernel_rfl) (by kernel_rfl) (fun _ _ _ h => h) (Or.inl ⟨by rfl, ?yc16⟩) I0 ?rc16
      case yc16 => (intro w hSw; obtain ⟨_, _, _, _⟩ := hSw; (go_simp; with_reducible rfl))
      simp only [Act.put, List.getElem_toArray, List.getElem_cons_zero, List.getElem_cons_succ, List.setIfInBounds_toArray, List.set_cons_zero, List.set_cons_succ]
      refine J_one 17 rfl (by kernel_rfl) (fun K hK => ?_)
      go_simp
      refine (ih'.out _ hx3.out).mono ?_
      rintro e' w5 ⟨rfl, hx5⟩
      have I5 : (fun w' : World => w'.cell? ⟨p, 1, none⟩ = some (.slice (some ad) kn kc) ∧ w'.cell? (ad.add i) = some (.pointer (some ⟨q, 0, none⟩)) ∧ w'.cell? ⟨b, 0, none⟩ = some (.string e.key) ∧ w'.cell? ⟨b, 1, none⟩ = some (.int .i64 e.no)) w5 := ⟨hx5.cell I0.1, hx5.cell I0.2.1, hx5.cell I0.2.2.1, hx5.cell I0.2.2.2⟩
      have hx6 := hid (hx3.out.trans hx5)
      clear hx5
      refine hK _ _ ⟨fun _ => I5, ?_⟩
      clear hK K
      try simp only [Act.put, List.getElem_toArray, List.getElem_cons_zero, List.getElem_cons_succ, List.setIfInBounds_toArray, List.set_cons_zero, List.set_cons_succ]
      refine J_takeO 18 (v := ?vd18) rfl (by kernel_rfl) (by kernel_rfl) (by kernel_rfl) (by kernel_rfl) (fun _ _ _ h => h) (Or.inl ⟨by rfl, ?yd18⟩) I5 ?rd18
      case yd18 => (intro w hSw; obtain ⟨_, _, _, _⟩ := hSw; (go_simp; with_reducible rfl))
      simp only [Act.put, List.getElem_toArray, List.getElem_cons_zero, List.getElem_cons_succ, List.setIfInBounds_toArray, List.set_cons_zero, List.set_cons_succ]
      refine J_takeO 19 (v := ?vd19) rfl (by kernel_rfl) (by kernel_rfl) (by kernel_rfl) (by kernel_rfl) (fun _ _ _ h => h) (Or.inl ⟨by rfl, ?yd19⟩) I5 ?rd19
      case yd19 => (intro w hSw; obtain ⟨_, _, _, _⟩ := hSw; (go_simp; with_reducible rfl))
      simp only [Act.put, List.getElem_toArray, List.getElem_cons_zero, List.getElem_cons_succ, List.setIfInBounds_toArray, List.set_cons_zero, List.set_cons_succ]
      refine J_one 20 rfl (by kernel_rfl) (fun K hK => ?_)
      go_simp
      refine hK _ _ ⟨fun _ => I5, ?_⟩
      clear hK K
      try simp only [Act.put, List.setIfInBounds_toArray, List.set_cons_zero, List.set_cons_succ]
      refine J_done (by kernel_rfl) (OnlyOn.normal ?_)
      go_wp2
      go_ret
      exact ⟨rfl, hx6.out⟩
end Go.Proofs.Ytpijfiaecicpfaa
