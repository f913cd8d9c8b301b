/-
  Three nodes in memory: what is turned one after the other.
-/
import Derived.Test.YtpijfiaecicpfaaB6
namespace Go.Proofs.Ytpijfiaecicpfaa
open Go.RowKit Go.Shelf
set_option linter.unusedVariables false
set_option linter.unusedSimpArgs false
theorem tents_take : ∀ (l : List Te) (k : Nat), (tents l).take (k * 2) = tents (l.take k)
  | [], k => by simp [tents]
  | x :: l, 0 => by simp [tents]
  | x :: l, k + 1 => by
    rw [tents, List.take_succ_cons, tents, ← tents_take l k, List.take_append]
    rw [List.take_of_length_le (by simp [tcells]; omega)]
    congr 2
    simp [tcells]
    omega
theorem tents_drop : ∀ (l : List Te) (k : Nat), (tents l).drop (k * 2) = tents (l.drop k)
  | [], k => by simp [tents]
  | x :: l, 0 => by simp
  | x :: l, k + 1 => by
    rw [tents, List.drop_succ_cons, ← tents_drop l k, List.drop_append]
    rw [List.drop_of_length_le (by simp [tcells]; omega), List.nil_append]
    congr 1
    simp [tcells]
    omega
theorem lit_add (g o j : Nat) : (⟨g, o, none⟩ : Addr).add j = ⟨g, o + j, none⟩ := by unfold Addr.add; split <;> simp_all
/-- A part of a row. -/
theorem Rd.sub {w : World} {k n c a b g : Nat} {xs : List Value} (h : Rd w k (some ⟨g, 0, none⟩) n c xs) (hab : a ≤ b) (hb : b ≤ n) : Rd w k (some ⟨g, a * k, none⟩) (b - a) (c - a) ((xs.drop (a * k)).take ((b - a) * k)) := by
  have h1 := h.1
  have h2 := h.2.1
  have hbk : b * k ≤ n * k := Nat.mul_le_mul_right k hb
  have hak : a * k ≤ b * k := Nat.mul_le_mul_right k hab
  have hs : (b - a) * k = b * k - a * k := Nat.sub_mul b a k
  refine ⟨by rw [List.length_take, List.length_drop, h1, hs]; omega, by omega, by have := h.2.2.1; omega, fun h0 => ?_⟩
  obtain ⟨ad, e, hc⟩ := h.2.2.2 (by omega)
  obtain rfl := Option.some.inj e
  refine ⟨_, rfl, fun j u hu => ?_⟩
  rw [List.getElem?_take] at hu
  split at hu
  · rw [List.getElem?_drop] at hu
    have := hc _ _ hu
    rw [lit_add] at this ⊢
    rw [Nat.zero_add] at this
    exact this
  · cases hu
theorem Rd.takeK {w : World} {k n c m : Nat} {A : Option Addr} {xs : List Value} (h : Rd w k A n c xs) (hm : m ≤ n) : Rd w k A m c (xs.take (m * k)) :=
  ⟨by rw [List.length_take, h.1]; exact Nat.min_eq_left (Nat.mul_le_mul_right k hm), Nat.le_trans hm h.2.1, h.2.2.1, fun h0 => by
    obtain ⟨ad, e, hc⟩ := h.2.2.2 (by omega)
    exact ⟨ad, e, fun j u hu => hc j u (by rw [List.getElem?_take] at hu; split at hu; exact hu; cases hu)⟩⟩
theorem heap_set_other {w : World} {b p : Nat} {o : Option Obj} (h : w.heap[p]? = o) (hne : b ≠ p) (j : Nat) (u : Value) : (w.setCell ⟨b, j, none⟩ u).heap[p]? = o := by
  rw [← h]; simp [World.setCell, Array.getElem?_modify, hne]
theorem node_set0 {w : World} {p : Nat} {a b : Value} (h : w.heap[p]? = some (.cells #[a, b] 105 (0, 0))) (u : Value) : (w.setCell ⟨p, 0, none⟩ u).heap[p]? = some (.cells #[u, b] 105 (0, 0)) := by
  simp [World.setCell, Array.getElem?_modify, h]
theorem node_set1 {w : World} {p : Nat} {a b : Value} (h : w.heap[p]? = some (.cells #[a, b] 105 (0, 0))) (u : Value) : (w.setCell ⟨p, 1, none⟩ u).heap[p]? = some (.cells #[a, u] 105 (0, 0)) := by
  simp [World.setCell, Array.getElem?_modify, h]
theorem node_c0 {w : World} {p : Nat} {a b : Value} (h : w.heap[p]? = some (.cells #[a, b] 105 (0, 0))) : w.cell? ⟨p, 0, none⟩ = some a := by rw [Lib.cell_of_heap h]; rfl
theorem node_c1 {w : World} {p : Nat} {a b : Value} (h : w.heap[p]? = some (.cells #[a, b] 105 (0, 0))) : w.cell? ⟨p, 1, none⟩ = some b := by rw [Lib.cell_of_heap h]; rfl
/-- Three nodes in memory, with rows of their own that share nothing; what has turned since w is theirs (f), or new. -/
structure Tri (f : Nat → Nat) (w W : World) (p q r : Nat) (lv kv lq kq lr kr : Value) (nl nk ml mk tl tk : Nat) (xl xk yl yk zl zk : List Value) : Prop where
  hp : W.heap[p]? = some (.cells #[lv, kv] 105 (0, 0))
  hq : W.heap[q]? = some (.cells #[lq, kq] 105 (0, 0))
  hr : W.heap[r]? = some (.cells #[lr, kr] 105 (0, 0))
  o1 : W.ownsRow 0 71 2 lv nl xl
  o2 : W.ownsRow 0 81 1 kv nk xk
  o3 : W.ownsRow 0 71 2 lq ml yl
  o4 : W.ownsRow 0 81 1 kq mk yk
  o5 : W.ownsRow 0 71 2 lr tl zl
  o6 : W.ownsRow 0 81 1 kr tk zk
  nd : ∀ a, one1 p a + ob lv a + ob kv a + one1 q a + ob lq a + ob kq a + one1 r a + ob lr a + ob kr a ≤ 1
  fr : FR f w W
  le : ∀ a, a < w.heap.size → one1 p a + ob lv a + ob kv a + one1 q a + ob lq a + ob kq a + one1 r a + ob lr a + ob kr a ≤ f a
theorem own_ne {W W' : World} {b s n : Nat} {t : TypeId} {v : Value} {xs : List Value} {row : Option Nat} (h : W.ownsRow b t s v n xs) (hg : W.grownBy W' row) (hne : ∀ k, v.ownBlock = some k → row ≠ some k) : W'.ownsRow b t s v n xs := by
  refine ⟨h.1, ?_⟩
  rcases h.2 with h2 | ⟨g', cap, cur, rfl, f2, f3, f4⟩
  · exact .inl h2
  · exact .inr ⟨g', cap, cur, rfl, f2, (hg.block g' (Array.getElem?_eq_some_iff.1 f3).1 (fun e => hne g' rfl e.symm)).trans f3, f4⟩
section
variable {f : Nat → Nat} {w W W' : World} {p q r : Nat} {lv kv lq kq lr kr v' : Value} {nl nk ml mk tl tk n' : Nat} {xl xk yl yk zl zk xs' : List Value}
theorem Tri.rot (h : Tri f w W p q r lv kv lq kq lr kr nl nk ml mk tl tk xl xk yl yk zl zk) : Tri f w W q r p lq kq lr kr lv kv ml mk tl tk nl nk yl yk zl zk xl xk :=
  ⟨h.hq, h.hr, h.hp, h.o3, h.o4, h.o5, h.o6, h.o1, h.o2, fun a => by have := h.nd a; omega, h.fr, fun a ha => by have := h.le a ha; omega⟩
theorem Tri.ext (h : Tri f w W p q r lv kv lq kq lr kr nl nk ml mk tl tk xl xk yl yk zl zk) (hx : Ext W W') : Tri f w W' p q r lv kv lq kq lr kr nl nk ml mk tl tk xl xk yl yk zl zk :=
  ⟨(hx.block (Array.getElem?_eq_some_iff.1 h.hp).1).trans h.hp, (hx.block (Array.getElem?_eq_some_iff.1 h.hq).1).trans h.hq, (hx.block (Array.getElem?_eq_some_iff.1 h.hr).1).trans h.hr, hx.own h.o1, hx.own h.o2, hx.own h.o3, hx.own h.o4, hx.own h.o5, hx.own h.o6, h.nd, h.fr.trans (FR.of_ext (f := f) hx) (fun _ _ h => h), h.le⟩
theorem fr_step {f : Nat → Nat} {w W W' : World} {row : Option Nat} {p : Nat} (h : FR f w W) (hg : W.grownBy W' row) (hrow : ∀ k, row = some k → k < w.heap.size → f k ≠ 0) (hp : p < w.heap.size → f p ≠ 0) (j : Nat) (u : Value) : FR f w (W'.setCell ⟨p, j, none⟩ u) := by
  obtain ⟨a1, a2, a3, a4, a5⟩ := h
  refine ⟨a1.trans hg.os.symm, a2.trans hg.tape.symm, a3.trans hg.output.symm, by have := hg.size; simp; omega, fun k hk h0 => ?_⟩
  have hkp : p ≠ k := fun e => hp (e ▸ hk) (e ▸ h0)
  have e1 : (W'.setCell ⟨p, j, none⟩ u).heap[k]? = W'.heap[k]? := by simp [World.setCell, Array.getElem?_modify, hkp]
  rw [e1, hg.block k (by omega) (fun e => hrow k e.symm hk h0)]
  exact a5 k hk h0
theorem own_bound {W : World} {b s n : Nat} {t : TypeId} {v : Value} {xs : List Value} (h : W.ownsRow b t s v n xs) {a : Nat} (ha : W.heap.size ≤ a) : ob v a = 0 := if_neg (fun e => by have := (h.lt a e).2; omega)
theorem one_bound {W : World} {p : Nat} {o : Obj} (h : W.heap[p]? = some o) {a : Nat} (ha : W.heap.size ≤ a) : one1 p a = 0 := if_neg (fun e => by have := (Array.getElem?_eq_some_iff.1 h).1; omega)
theorem ob_same {u v : Value} (h : u.ownBlock = v.ownBlock) (a : Nat) : ob u a = ob v a := by unfold ob; rw [h]
theorem Tri.rep0 (h : Tri f w W p q r lv kv lq kq lr kr nl nk ml mk tl tk xl xk yl yk zl zk) (hg : W.grownBy W' lv.ownBlock) (ho : W'.ownsRow 0 71 2 v' n' xs') (hv : v'.ownBlock = lv.ownBlock ∨ ∀ k, v'.ownBlock = some k → W.heap.size ≤ k) :
    Tri f w (W'.setCell ⟨p, 0, none⟩ v') p q r v' kv lq kq lr kr n' nk ml mk tl tk xs' xk yl yk zl zk := by
  have hsz := h.fr.2.2.2.1
  have hv'p : v'.ownBlock ≠ some p := fun e => by
    rcases hv with h1 | h1
    · have := h.nd p; rw [ob_some (v := lv) (h1.symm.trans e), one_self] at this; omega
    · have := h1 p e; have := (Array.getElem?_eq_some_iff.1 h.hp).1; omega
  have bp := (hg.block p (Array.getElem?_eq_some_iff.1 h.hp).1 (fun e0 => by have := h.nd p; rw [ob_some e0.symm, one_self] at this; omega)).trans h.hp
  have bq := (hg.block q (Array.getElem?_eq_some_iff.1 h.hq).1 (fun e0 => by have := h.nd q; rw [ob_some e0.symm, one_self] at this; omega)).trans h.hq
  have br := (hg.block r (Array.getElem?_eq_some_iff.1 h.hr).1 (fun e0 => by have := h.nd r; rw [ob_some e0.symm, one_self] at this; omega)).trans h.hr
  have hpq : p ≠ q := fun e => by have := h.nd p; rw [one_self, show one1 q p = 1 from e ▸ one_self p] at this; omega
  have hpr : p ≠ r := fun e => by have := h.nd p; rw [one_self, show one1 r p = 1 from e ▸ one_self p] at this; omega
  refine ⟨node_set0 bp _, heap_set_other bq hpq 0 _, heap_set_other br hpr 0 _, own_set ho hv'p 0 _, own_set (own_ne h.o2 hg (fun k e e2 => by have := h.nd k; rw [ob_some e, ob_some e2] at this; omega)) (fun e => by have := h.nd p; rw [ob_some e, one_self] at this; omega) 0 _, own_set (own_ne h.o3 hg (fun k e e2 => by have := h.nd k; rw [ob_some e, ob_some e2] at this; omega)) (fun e => by have := h.nd p; rw [ob_some e, one_self] at this; omega) 0 _, own_set (own_ne h.o4 hg (fun k e e2 => by have := h.nd k; rw [ob_some e, ob_some e2] at this; omega)) (fun e => by have := h.nd p; rw [ob_some e, one_self] at this; omega) 0 _, own_set (own_ne h.o5 hg (fun k e e2 => by have := h.nd k; rw [ob_some e, ob_some e2] at this; omega)) (fun e => by have := h.nd p; rw [ob_some e, one_self] at this; omega) 0 _, own_set (own_ne h.o6 hg (fun k e e2 => by have := h.nd k; rw [ob_some e, ob_some e2] at this; omega)) (fun e => by have := h.nd p; rw [ob_some e, one_self] at this; omega) 0 _, fun a => ?_, ?_, fun a ha => ?_⟩
  · have hn := h.nd a
    rcases hv with h1 | h1
    · rw [ob_same h1]; exact hn
    · by_cases hs : a < W.heap.size
      · rw [show ob v' a = 0 from if_neg (fun e => by have := h1 a e; omega)]; omega
      · rw [one_bound h.hp (Nat.le_of_not_lt hs), one_bound h.hq (Nat.le_of_not_lt hs), one_bound h.hr (Nat.le_of_not_lt hs), own_bound h.o2 (Nat.le_of_not_lt hs), own_bound h.o3 (Nat.le_of_not_lt hs), own_bound h.o4 (Nat.le_of_not_lt hs), own_bound h.o5 (Nat.le_of_not_lt hs), own_bound h.o6 (Nat.le_of_not_lt hs)]
        have : ob v' a ≤ 1 := by unfold ob; split <;> omega
        omega
  · exact fr_step h.fr hg (fun k e hk h0 => by have := h.le k hk; rw [ob_some e] at this; omega) (fun hk h0 => by have := h.le p hk; rw [one_self] at this; omega) 0 _
  · have hn := h.le a ha
    rcases hv with h1 | h1
    · rw [ob_same h1]; exact hn
    · rw [show ob v' a = 0 from if_neg (fun e => by have := h1 a e; omega)]; omega
theorem Tri.rep1 (h : Tri f w W p q r lv kv lq kq lr kr nl nk ml mk tl tk xl xk yl yk zl zk) (hg : W.grownBy W' kv.ownBlock) (ho : W'.ownsRow 0 81 1 v' n' xs') (hv : v'.ownBlock = kv.ownBlock ∨ ∀ k, v'.ownBlock = some k → W.heap.size ≤ k) :
    Tri f w (W'.setCell ⟨p, 1, none⟩ v') p q r lv v' lq kq lr kr nl n' ml mk tl tk xl xs' yl yk zl zk := by
  have hsz := h.fr.2.2.2.1
  have hv'p : v'.ownBlock ≠ some p := fun e => by
    rcases hv with h1 | h1
    · have := h.nd p; rw [ob_some (v := kv) (h1.symm.trans e), one_self] at this; omega
    · have := h1 p e; have := (Array.getElem?_eq_some_iff.1 h.hp).1; omega
  have bp := (hg.block p (Array.getElem?_eq_some_iff.1 h.hp).1 (fun e0 => by have := h.nd p; rw [ob_some e0.symm, one_self] at this; omega)).trans h.hp
  have bq := (hg.block q (Array.getElem?_eq_some_iff.1 h.hq).1 (fun e0 => by have := h.nd q; rw [ob_some e0.symm, one_self] at this; omega)).trans h.hq
  have br := (hg.block r (Array.getElem?_eq_some_iff.1 h.hr).1 (fun e0 => by have := h.nd r; rw [ob_some e0.symm, one_self] at this; omega)).trans h.hr
  have hpq : p ≠ q := fun e => by have := h.nd p; rw [one_self, show one1 q p = 1 from e ▸ one_self p] at this; omega
  have hpr : p ≠ r := fun e => by have := h.nd p; rw [one_self, show one1 r p = 1 from e ▸ one_self p] at this; omega
  refine ⟨node_set1 bp _, heap_set_other bq hpq 1 _, heap_set_other br hpr 1 _, own_set (own_ne h.o1 hg (fun k e e2 => by have := h.nd k; rw [ob_some e, ob_some e2] at this; omega)) (fun e => by have := h.nd p; rw [ob_some e, one_self] at this; omega) 1 _, own_set ho hv'p 1 _, own_set (own_ne h.o3 hg (fun k e e2 => by have := h.nd k; rw [ob_some e, ob_some e2] at this; omega)) (fun e => by have := h.nd p; rw [ob_some e, one_self] at this; omega) 1 _, own_set (own_ne h.o4 hg (fun k e e2 => by have := h.nd k; rw [ob_some e, ob_some e2] at this; omega)) (fun e => by have := h.nd p; rw [ob_some e, one_self] at this; omega) 1 _, own_set (own_ne h.o5 hg (fun k e e2 => by have := h.nd k; rw [ob_some e, ob_some e2] at this; omega)) (fun e => by have := h.nd p; rw [ob_some e, one_self] at this; omega) 1 _, own_set (own_ne h.o6 hg (fun k e e2 => by have := h.nd k; rw [ob_some e, ob_some e2] at this; omega)) (fun e => by have := h.nd p; rw [ob_some e, one_self] at this; omega) 1 _, fun a => ?_, ?_, fun a ha => ?_⟩
  · have hn := h.nd a
    rcases hv with h1 | h1
    · rw [ob_same h1]; exact hn
    · by_cases hs : a < W.heap.size
      · rw [show ob v' a = 0 from if_neg (fun e => by have := h1 a e; omega)]; omega
      · rw [one_bound h.hp (Nat.le_of_not_lt hs), one_bound h.hq (Nat.le_of_not_lt hs), one_bound h.hr (Nat.le_of_not_lt hs), own_bound h.o1 (Nat.le_of_not_lt hs), own_bound h.o3 (Nat.le_of_not_lt hs), own_bound h.o4 (Nat.le_of_not_lt hs), own_bound h.o5 (Nat.le_of_not_lt hs), own_bound h.o6 (Nat.le_of_not_lt hs)]
        have : ob v' a ≤ 1 := by unfold ob; split <;> omega
        omega
  · exact fr_step h.fr hg (fun k e hk h0 => by have := h.le k hk; rw [ob_some e] at this; omega) (fun hk h0 => by have := h.le p hk; rw [one_self] at this; omega) 1 _
  · have hn := h.le a ha
    rcases hv with h1 | h1
    · rw [ob_same h1]; exact hn
    · rw [show ob v' a = 0 from if_neg (fun e => by have := h1 a e; omega)]; omega
end
end Go.Proofs.Ytpijfiaecicpfaa
