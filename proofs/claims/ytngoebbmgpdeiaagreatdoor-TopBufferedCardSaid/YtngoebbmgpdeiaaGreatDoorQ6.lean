/-
  The bag: a record of it; The bag: its lock, its table, a record by itself, what changed; The bag: its table; The bag: what is new, its lock, its table; The plain laws: what fits, holds; what is empty, holds; what an act does with a table. No function of the program in sight; The weight of tags: some number; Weights: some number, and nothing is turned; What a machine of one's own may turn: its own blocks, and new ones. No function of the program in sight.
-/
import Derived.Test.YtngoebbmgpdeiaaGreatDoorQ5
import Derived.Test.YtngoebbmgpdeiaaGreatDoorQ1
import Derived.Conc.MuLone
set_option maxRecDepth 100000
set_option maxHeartbeats 40000000
set_option linter.unusedVariables false
set_option linter.unusedSimpArgs false
namespace Go.Proofs.YtngoebbmgpdeiaaGreatDoor
open Go.RowKit Go.Shelf
def Mv (w w' : World) (F : Nat → Prop) : Prop := w'.os = w.os ∧ w'.tape = w.tape ∧ w'.output = w.output ∧ w.heap.size ≤ w'.heap.size ∧ ∀ k, k < w.heap.size → ¬ F k → w'.heap[k]? = w.heap[k]?
section
variable {w w1 w2 u : World} {F F' : Nat → Prop}
theorem Mv.of (hx : Ext w w1) : Mv w w1 F := ⟨hx.os, hx.tape, hx.output, hx.size, fun k hk _ => hx.block hk⟩
theorem Mv.refl : Mv w w F := Mv.of (Ext.refl w)
theorem Mv.size (h : Mv w w1 F) : w.heap.size ≤ w1.heap.size := h.2.2.2.1
theorem Mv.at (h : Mv w w1 F) {k : Nat} (hk : k < w.heap.size) (hF : ¬ F k) : w1.heap[k]? = w.heap[k]? := h.2.2.2.2 k hk hF
theorem Mv.trans (h : Mv w w1 F) (h2 : Mv w1 w2 F') (hF : ∀ k, F' k → F k ∨ w.heap.size ≤ k) : Mv w w2 F := by
  obtain ⟨a1, a2, a3, a4, a5⟩ := h
  obtain ⟨b1, b2, b3, b4, b5⟩ := h2
  refine ⟨b1.trans a1, b2.trans a2, b3.trans a3, by omega, fun k hk hn => (b5 k (by omega) (fun hf => ?_)).trans (a5 k hk hn)⟩
  rcases hF k hf with h | h
  · exact hn h
  · omega
theorem Mv.ext (h : Mv w w1 F) (hx : Ext w1 w2) : Mv w w2 F := h.trans (Mv.of (F := fun _ => False) hx) (fun k hk => hk.elim)
theorem Mv.set (h : Mv w w1 F) {g : Nat} (hg : F g ∨ w.heap.size ≤ g) (o : Nat) (v : Value) : Mv w (w1.setCell ⟨g, o, none⟩ v) F :=
  h.trans (F' := fun k => k = g) ⟨rfl, rfl, rfl, by rw [(setCell_at _ _ _ _).1]; exact Nat.le_refl _, fun k _ hn => (setCell_at _ _ _ _).2 k hn⟩ (fun k hk => by subst hk; exact hg)
theorem Mv.setC (h : Mv w w1 F) {g : Nat} (hg : F g ∨ w.heap.size ≤ g) (o : Nat) (vs : List Value) : Mv w (w1.setCells g o vs) F := by
  obtain ⟨a1, a2, a3, a4, a5⟩ := setCells_at vs w1 g o
  exact h.trans (F' := fun k => k = g) ⟨a2, a3, a4, by rw [a1]; exact Nat.le_refl _, fun k _ hn => a5 k hn⟩ (fun k hk => by subst hk; exact hg)
theorem Mv.grown (h : Mv w w1 F) {ob : Option Nat} (hg : w1.grownBy w2 ob) (hb : ∀ g, ob = some g → F g ∨ w.heap.size ≤ g) : Mv w w2 F :=
  h.trans (F' := fun k => ob = some k) ⟨hg.os, hg.tape, hg.output, hg.size, fun k hk hn => hg.block k hk (fun e => hn e.symm)⟩ (fun k hk => hb k hk)
theorem Mv.mono (h : Mv w w1 F) (hF : ∀ k, F k → F' k) : Mv w w1 F' := ⟨h.1, h.2.1, h.2.2.1, h.2.2.2.1, fun k hk hn => h.2.2.2.2 k hk (fun e => hn (hF k e))⟩
theorem Mv.block (h : Mv w w1 F) {g : Nat} (hg : F g ∨ w.heap.size ≤ g) (hk : ∀ k, k ≠ g → w2.heap[k]? = w1.heap[k]?) (hs : w2.heap.size = w1.heap.size) (ho : w2.os = w1.os ∧ w2.tape = w1.tape ∧ w2.output = w1.output) : Mv w w2 F :=
  h.trans (F' := fun k => k = g) ⟨ho.1, ho.2.1, ho.2.2, by omega, fun k _ hn => hk k hn⟩ (fun k hk => by subst hk; exact hg)
theorem Mv.base (h : Mv w w1 F) (hx : Ext u w) (hF : ∀ k, F k → u.heap.size ≤ k) : Ext u w1 :=
  ⟨h.1.trans hx.os, h.2.1.trans hx.tape, h.2.2.1.trans hx.output, Nat.le_trans hx.size h.size, fun k hk => (h.at (Nat.lt_of_lt_of_le hk hx.size) (fun hf => by have := hF k hf; omega)).trans (hx.block hk)⟩
end
def Bk (w : World) (b : Nat) (xs : List Value) (t : TypeId) : Prop := w.heap[b]? = some (.cells xs.toArray t (0, 0))
section
variable {w w' : World} {b : Nat} {xs : List Value} {t : TypeId}
theorem Bk.at (h : Bk w b xs t) {i : Nat} {v : Value} (e : xs[i]? = some v) : w.cell? ⟨b, i, none⟩ = some v := by
  rw [cell_of_row _ b i xs.toArray t (0, 0) h]
  simpa using e
theorem Bk.lt (h : Bk w b xs t) : b < w.heap.size := (Array.getElem?_eq_some_iff.1 h).1
theorem Bk.keep (h : Bk w b xs t) (hb : w'.heap[b]? = w.heap[b]?) : Bk w' b xs t := hb.trans h
theorem Bk.ext (h : Bk w b xs t) (hx : Ext w w') : Bk w' b xs t := h.keep (hx.block h.lt)
theorem Bk.free (h : Bk w b xs t) (o : Nat) : w.frozen? ⟨b, o, none⟩ = false := Lib.frozen_of_heap h o
theorem Bk.set (h : Bk w b xs t) (o : Nat) (u : Value) : Bk (w.setCell ⟨b, o, none⟩ u) b (xs.set o u) t := by
  unfold Bk at h ⊢
  simp [World.setCell, Array.getElem?_modify, h]
theorem Bk.hb (h : Bk w b xs t) : HB w b xs.length t := ⟨_, h, by simp⟩
theorem Bk.new (w : World) (xs : List Value) (t : TypeId) : Bk (w.alloc (.cells xs.toArray t)) w.heap.size xs t := heap_alloc_new w _
theorem Bk.other (h : Bk w b xs t) {g : Nat} (hg : b ≠ g) (o : Nat) (u : Value) : Bk (w.setCell ⟨g, o, none⟩ u) b xs t := h.keep ((setCell_at w g o u).2 b hg)
end
theorem newB (w : World) (xs : List Value) (t : TypeId) : ∃ w' b, Hid (w.alloc (.cells xs.toArray t) = w') ∧ Hid (w.heap.size = b) ∧ Hid (w'.heap.size = b + 1) ∧ Bk w' b xs t ∧ Ext w w' := ⟨_, _, rfl, rfl, (by simp [Hid]), Bk.new w xs t, Ext.new w _⟩
theorem Bk.c1 {w : World} {b : Nat} {t : TypeId} {v0 : Value} (h : Bk w b [v0] t) : w.cell? ⟨b, 0, none⟩ = some v0 := h.at rfl
theorem Bk.c2 {w : World} {b : Nat} {t : TypeId} {v0 v1 : Value} (h : Bk w b [v0, v1] t) : w.cell? ⟨b, 0, none⟩ = some v0 ∧ w.cell? ⟨b, 1, none⟩ = some v1 := ⟨h.at rfl, h.at rfl⟩
theorem Bk.c3 {w : World} {b : Nat} {t : TypeId} {v0 v1 v2 : Value} (h : Bk w b [v0, v1, v2] t) : w.cell? ⟨b, 0, none⟩ = some v0 ∧ w.cell? ⟨b, 1, none⟩ = some v1 ∧ w.cell? ⟨b, 2, none⟩ = some v2 := ⟨h.at rfl, h.at rfl, h.at rfl⟩
theorem Bk.c4 {w : World} {b : Nat} {t : TypeId} {v0 v1 v2 v3 : Value} (h : Bk w b [v0, v1, v2, v3] t) : w.cell? ⟨b, 0, none⟩ = some v0 ∧ w.cell? ⟨b, 1, none⟩ = some v1 ∧ w.cell? ⟨b, 2, none⟩ = some v2 ∧ w.cell? ⟨b, 3, none⟩ = some v3 := ⟨h.at rfl, h.at rfl, h.at rfl, h.at rfl⟩
theorem Bk.c5 {w : World} {b : Nat} {t : TypeId} {v0 v1 v2 v3 v4 : Value} (h : Bk w b [v0, v1, v2, v3, v4] t) : w.cell? ⟨b, 0, none⟩ = some v0 ∧ w.cell? ⟨b, 1, none⟩ = some v1 ∧ w.cell? ⟨b, 2, none⟩ = some v2 ∧ w.cell? ⟨b, 3, none⟩ = some v3 ∧ w.cell? ⟨b, 4, none⟩ = some v4 := ⟨h.at rfl, h.at rfl, h.at rfl, h.at rfl, h.at rfl⟩
theorem Bk.c6 {w : World} {b : Nat} {t : TypeId} {v0 v1 v2 v3 v4 v5 : Value} (h : Bk w b [v0, v1, v2, v3, v4, v5] t) : w.cell? ⟨b, 0, none⟩ = some v0 ∧ w.cell? ⟨b, 1, none⟩ = some v1 ∧ w.cell? ⟨b, 2, none⟩ = some v2 ∧ w.cell? ⟨b, 3, none⟩ = some v3 ∧ w.cell? ⟨b, 4, none⟩ = some v4 ∧ w.cell? ⟨b, 5, none⟩ = some v5 := ⟨h.at rfl, h.at rfl, h.at rfl, h.at rfl, h.at rfl, h.at rfl⟩
theorem Bk.set2 {w : World} {b : Nat} {t : TypeId} {v0 v1 : Value} (h : Bk w b [v0, v1] t) (u0 u1 : Value) : Bk ((w.setCell ⟨b, 0, none⟩ u0).setCell ⟨b, 1, none⟩ u1) b [u0, u1] t := ((h.set 0 u0).set 1 u1)
theorem ext_set2 {u w1 : World} {g : Nat} (h : Ext u w1) (hg : u.heap.size ≤ g) (u0 u1 : Value) : Ext u ((w1.setCell ⟨g, 0, none⟩ u0).setCell ⟨g, 1, none⟩ u1) := ((h.set (p := ⟨g, 0, none⟩) hg u0).set (p := ⟨g, 1, none⟩) hg u1)
theorem Mv.set2 {w w1 : World} {F : Nat → Prop} {g : Nat} (h : Mv w w1 F) (hg : F g ∨ w.heap.size ≤ g) (u0 u1 : Value) : Mv w ((w1.setCell ⟨g, 0, none⟩ u0).setCell ⟨g, 1, none⟩ u1) F := ((h.set hg 0 u0).set hg 1 u1)
theorem Bk.set3 {w : World} {b : Nat} {t : TypeId} {v0 v1 v2 : Value} (h : Bk w b [v0, v1, v2] t) (u0 u1 u2 : Value) : Bk (((w.setCell ⟨b, 0, none⟩ u0).setCell ⟨b, 1, none⟩ u1).setCell ⟨b, 2, none⟩ u2) b [u0, u1, u2] t := (((h.set 0 u0).set 1 u1).set 2 u2)
theorem ext_set3 {u w1 : World} {g : Nat} (h : Ext u w1) (hg : u.heap.size ≤ g) (u0 u1 u2 : Value) : Ext u (((w1.setCell ⟨g, 0, none⟩ u0).setCell ⟨g, 1, none⟩ u1).setCell ⟨g, 2, none⟩ u2) := (((h.set (p := ⟨g, 0, none⟩) hg u0).set (p := ⟨g, 1, none⟩) hg u1).set (p := ⟨g, 2, none⟩) hg u2)
theorem Mv.set3 {w w1 : World} {F : Nat → Prop} {g : Nat} (h : Mv w w1 F) (hg : F g ∨ w.heap.size ≤ g) (u0 u1 u2 : Value) : Mv w (((w1.setCell ⟨g, 0, none⟩ u0).setCell ⟨g, 1, none⟩ u1).setCell ⟨g, 2, none⟩ u2) F := (((h.set hg 0 u0).set hg 1 u1).set hg 2 u2)
theorem Bk.set4 {w : World} {b : Nat} {t : TypeId} {v0 v1 v2 v3 : Value} (h : Bk w b [v0, v1, v2, v3] t) (u0 u1 u2 u3 : Value) : Bk ((((w.setCell ⟨b, 0, none⟩ u0).setCell ⟨b, 1, none⟩ u1).setCell ⟨b, 2, none⟩ u2).setCell ⟨b, 3, none⟩ u3) b [u0, u1, u2, u3] t := ((((h.set 0 u0).set 1 u1).set 2 u2).set 3 u3)
theorem ext_set4 {u w1 : World} {g : Nat} (h : Ext u w1) (hg : u.heap.size ≤ g) (u0 u1 u2 u3 : Value) : Ext u ((((w1.setCell ⟨g, 0, none⟩ u0).setCell ⟨g, 1, none⟩ u1).setCell ⟨g, 2, none⟩ u2).setCell ⟨g, 3, none⟩ u3) := ((((h.set (p := ⟨g, 0, none⟩) hg u0).set (p := ⟨g, 1, none⟩) hg u1).set (p := ⟨g, 2, none⟩) hg u2).set (p := ⟨g, 3, none⟩) hg u3)
theorem Mv.set4 {w w1 : World} {F : Nat → Prop} {g : Nat} (h : Mv w w1 F) (hg : F g ∨ w.heap.size ≤ g) (u0 u1 u2 u3 : Value) : Mv w ((((w1.setCell ⟨g, 0, none⟩ u0).setCell ⟨g, 1, none⟩ u1).setCell ⟨g, 2, none⟩ u2).setCell ⟨g, 3, none⟩ u3) F := ((((h.set hg 0 u0).set hg 1 u1).set hg 2 u2).set hg 3 u3)
theorem Bk.setCF {w : World} {b : Nat} {t : TypeId} : ∀ (ys : List Value) {w : World} {pre xs : List Value}, Bk w b (pre ++ xs) t → ys.length = xs.length → Bk (w.setCells b pre.length ys) b (pre ++ ys) t
  | [], w, pre, xs, h, hl => by
    have : xs = [] := List.eq_nil_of_length_eq_zero (by simpa using hl.symm)
    subst this
    exact h
  | y :: ys, w, pre, [], h, hl => by simp at hl
  | y :: ys, w, pre, x :: xs, h, hl => by
    have h1 := h.set pre.length y
    have e : (pre ++ x :: xs).set pre.length y = (pre ++ [y]) ++ xs := by simp
    rw [e] at h1
    have h2 := Bk.setCF (w := w) ys h1 (by simpa using hl)
    rw [List.length_append, List.length_singleton, List.append_assoc, List.singleton_append] at h2
    exact h2
theorem Bk.setC {w : World} {b : Nat} {t : TypeId} {xs : List Value} (h : Bk w b xs t) (ys : List Value) (hl : ys.length = xs.length) : Bk (w.setCells b 0 ys) b ys t := Bk.setCF (w := w) (pre := []) ys h hl
theorem store_bk {w : World} {b : Nat} {t : TypeId} {xs : List Value} (h : Bk w b xs t) (ys : List Value) (hl : ys.length = xs.length) :
    ∃ w', w.setCells b 0 ys = w' ∧ Bk w' b ys t ∧ w'.heap.size = w.heap.size ∧ (∀ k, k ≠ b → w'.heap[k]? = w.heap[k]?) ∧ ∀ u F, Mv u w F → (F b ∨ u.heap.size ≤ b) → Mv u w' F := by
  obtain ⟨a1, a2, a3, a4, a5⟩ := setCells_at ys w b 0
  exact ⟨_, rfl, h.setC ys hl, a1, a5, fun u F hm hF => hm.setC hF 0 ys⟩
theorem Bk.there {w : World} {b : Nat} {t : TypeId} {xs : List Value} (h : Bk w b xs t) : w.there b 0 xs.length := h.hb.there
theorem add_blk (ad : Addr) (j : Nat) : (ad.add j).block = ad.block := by unfold Addr.add; split <;> rfl
def atB (A : Option Addr) (n k : Nat) : Prop := ∃ ad, A = some ad ∧ 0 < n ∧ ad.block = k
theorem Rd.keepB {w w' : World} {k : Nat} {A : Option Addr} {n c : Nat} {es : List Value} (h : Rd w k A n c es) (hb : ∀ g, atB A n g → w'.heap[g]? = w.heap[g]?) : Rd w' k A n c es :=
  ⟨h.1, h.2.1, h.2.2.1, fun hn => by
    obtain ⟨ad, e, hc⟩ := h.2.2.2 hn
    exact ⟨ad, e, fun j u hu => (World.cell?_of_block (by rw [add_blk]; exact hb _ ⟨ad, e, hn, rfl⟩)).trans (hc j u hu)⟩⟩
theorem RdV.atlt {w : World} {A : Option Addr} {n c : Nat} {l : List Vl} (h : RdV w A n c l) {g : Nat} (hg : atB A n g) : g < w.heap.size := by
  obtain ⟨ad, e, hn, rfl⟩ := hg
  obtain ⟨ad', e', c0, _⟩ := h.at_ (i := 0) hn
  rw [e] at e'
  injection e' with e'
  subst e'
  have := World.block_lt_of_cell? _ _ c0
  rwa [add_blk] at this
theorem RdV.keepB {w w' : World} {A : Option Addr} {n c : Nat} {l : List Vl} (h : RdV w A n c l) (hb : ∀ g, atB A n g → w'.heap[g]? = w.heap[g]?) : RdV w' A n c l := Rd.keepB h hb
theorem RdF.atlt {w : World} {A : Option Addr} {n c : Nat} {l : List Fd} (h : RdF w A n c l) {g : Nat} (hg : atB A n g) : g < w.heap.size := by
  obtain ⟨ad, e, hn, rfl⟩ := hg
  obtain ⟨ad', e', c0, _⟩ := h.at_ (i := 0) hn
  rw [e] at e'
  injection e' with e'
  subst e'
  have := World.block_lt_of_cell? _ _ c0
  rwa [add_blk] at this
structure Tt where
  A : Option Addr
  n : Nat
  c : Nat
  B : Option Addr
  m : Nat
  d : Nat
  rr : List Rr
def Tt.F (t : Tt) (k : Nat) : Prop := (Value.slice t.A t.n t.c).ownBlock = some k ∨ (Value.slice t.B t.m t.d).ownBlock = some k ∨ ∃ i, i < t.rr.length ∧ rb (rrth t.rr i) = k
def Tt.fs (t : Tt) : Value := .slice t.A t.n t.c
def Tt.rs (t : Tt) : Value := .slice t.B t.m t.d
def OwTt (w : World) (lo wd : Nat) (fs : List Fd) (rs : List Rc) (t : Tt) : Prop :=
  w.ownsRow lo 64 4 (.slice t.A t.n t.c) t.n (fds fs) ∧ OwR w lo wd (.slice t.B t.m t.d) t.rr rs rs.length ∧ t.rr.length = rs.length ∧ t.m = rs.length ∧ t.n = fs.length ∧
    ∀ f, (Value.slice t.A t.n t.c).ownBlock = some f → (Value.slice t.B t.m t.d).ownBlock ≠ some f ∧ ∀ i, i < rs.length → rb (rrth t.rr i) ≠ f
section
variable {w w' : World} {lo wd : Nat} {fs : List Fd} {rs : List Rc} {t : Tt}
theorem OwT.tt {A B : Option Addr} {n c m d : Nat} (h : OwT w lo wd fs rs A n c B m d) : ∃ rr, OwTt w lo wd fs rs ⟨A, n, c, B, m, d, rr⟩ := h
theorem OwTt.rf (h : OwTt w lo wd fs rs t) : RdF w t.A t.n t.c fs := by
  exact Rd.of_own h.1
theorem OwTt.rr (h : OwTt w lo wd fs rs t) : RdR w t.B t.m t.d rs := h.2.1.rd h.2.2.1 h.2.2.2.1
theorem OwTt.lt (h : OwTt w lo wd fs rs t) {k : Nat} (hk : t.F k) : lo ≤ k ∧ k < w.heap.size := by
  obtain ⟨h1, h2, h3, h4, h5, h6⟩ := h
  rcases hk with e | e | ⟨i, hi, e⟩
  · exact h1.lt k e
  · exact h2.1.lt k e
  · rw [← e]; exact (h2.2.1 i (by omega)).lt
theorem OwTt.keep (h : OwTt w lo wd fs rs t) (hk : ∀ k, t.F k → w'.heap[k]? = w.heap[k]?) : OwTt w' lo wd fs rs t := by
  have hF := fun i hi => hk (rb (rrth t.rr i)) (.inr (.inr ⟨i, hi, rfl⟩))
  obtain ⟨h1, h2, h3, h4, h5, h6⟩ := h
  exact ⟨own_same h1 (fun g hg => hk g (.inl hg)), h2.keep (fun g hg => hk g (.inr (.inl hg))) (fun i hi => hF i (by omega)), h3, h4, h5, h6⟩
theorem OwTt.at_ (h : OwTt w lo wd fs rs t) {i : Nat} (hi : i < rs.length) : ∃ g, t.B = some ⟨g, 0, none⟩ ∧ lo ≤ g ∧ g < w.heap.size ∧ w.cell? ⟨g, i * 2, none⟩ = some (.bool (rth rs i).gone) ∧ w.cell? ⟨g, i * 2 + 1, none⟩ = some (.slice (rrth t.rr i).A wd (rrth t.rr i).c) ∧ OwV w lo wd (rrth t.rr i) (rth rs i) := by
  obtain ⟨h1, h2, h3, h4, h5, h6⟩ := h
  obtain ⟨g, e1, e2, e3⟩ := own_blk (by have := h2.1; rw [h3, ← h4] at this; exact this) (show 0 < t.m by omega)
  have hv := h2.2.1 i hi
  have hr := h2.1
  rw [h3, ← h4] at hr
  obtain ⟨ad, e4, c0, c1⟩ := rr_at (rr := t.rr) (A := t.B) (Rd.of_own hr) (i := i) (by omega)
  rw [e1] at e4
  injection e4 with e4
  subst e4
  rw [lit_add0] at c0 c1
  rw [hv.1] at c0
  rw [hv.2.1] at c1
  exact ⟨g, e1, e2, e3, c0, c1, hv⟩
theorem OwTt.ext (h : OwTt w lo wd fs rs t) (hx : Ext w w') : OwTt w' lo wd fs rs t := h.keep (fun k hk => hx.block (h.lt hk).2)
theorem OwR.lo' {lo' m k : Nat} {v : Value} {rr : List Rr} (h : OwR w lo m v rr rs k) (hl : lo' ≤ lo) : OwR w lo' m v rr rs k :=
  ⟨own_baseK h.1 hl, fun i hi => by obtain ⟨e1, e2, e3, b, e4, e5⟩ := h.2.1 i hi; exact ⟨e1, e2, e3, b, e4, own_baseK e5 hl⟩, h.2.2⟩
theorem OwTt.lo' {lo' : Nat} (h : OwTt w lo wd fs rs t) (hl : lo' ≤ lo) : OwTt w lo' wd fs rs t := ⟨own_baseK h.1 hl, h.2.1.lo' hl, h.2.2⟩
end
theorem OwTt.atF {w : World} {lo wd : Nat} {fs : List Fd} {rs : List Rc} {t : Tt} (h : OwTt w lo wd fs rs t) {g : Nat} (hg : atB t.A t.n g) : t.F g := by
  obtain ⟨ad, e, hn, rfl⟩ := hg
  obtain ⟨b, e1, _⟩ := own_blk h.1 hn
  rw [e] at e1
  injection e1 with e1
  exact .inl (by rw [e, e1]; rfl)
open Go.RowKit Go.Shelf
theorem Num_any (z : Int) (w : World) : Calls Tryz.prog 25 #[.int .i64 z] w (Give (.agg #[.int .i64 2, .int .i64 z, .string ⟨#[]⟩]) w) := by
  obtain ⟨w1, g, e1, h1, s1, k1, x1⟩ := newB w [.int .i64 0, .int .i64 0, .string ⟨#[]⟩] 66
  have hgw := hid (show w.heap.size ≤ g by have := h1.out; omega)
  obtain ⟨z0, z1, z2⟩ := k1.c3
  have f0 := k1.free 0
  have f1 := k1.free 1
  have f2 := k1.free 2
  have k2 := hid (k1.set3 (.int .i64 2) (.int .i64 z) (.string ⟨#[]⟩))
  have x2 := hid (ext_set3 x1 hgw.out (.int .i64 2) (.int .i64 z) (.string ⟨#[]⟩))
  clear k1 x1
  go_enter Tryz.func25, Tryz.ntmps25
  go_upto_region 1 with fail
  try simp only [e1.out, h1.out]
  clear e1 h1 s1
  go_wp2
  clear z0 z1 z2 f0 f1 f2
  generalize ((w1.setCell ⟨g, 0, none⟩ (.int .i64 2)).setCell ⟨g, 1, none⟩ (.int .i64 z)).setCell ⟨g, 2, none⟩ (.string ⟨#[]⟩) = w9 at *
  obtain ⟨q0, q1, q2⟩ := k2.out.c3
  exact bodyPost_ret (v := .agg #[.int .i64 2, .int .i64 z, .string ⟨#[]⟩]) (by simp [results, Tryz.results25, go_sem, q0, q1, q2]) rfl ⟨rfl, x2.out⟩
theorem weightOf_any (A : Option Addr) (n c : Nat) (l : List Vl) (w : World) (hr : RdV w A n c l) : Calls Tryz.prog 24 #[.slice A n c] w fun e w' => (∃ z : Int, e = .returned (.int .i64 z)) ∧ Ext w w' := by
  have hmx := Rd.max hr
  replace hr := hid hr
  go_enter Tryz.func24, Tryz.ntmps24
  go_wp2_with fail
  go_loopw [3, 4] (fun x v wr => ∃ (i : Nat) (y : Int), i ≤ n ∧ v = .int .i64 i ∧ x = .int .i64 y ∧ Hid (Ext w wr)) (fun _ v _ => n - (intOf v).toNat)
  case atStart => exact ⟨0, _, by omega, rfl, rfl, Ext.refl _⟩
  case round =>
    obtain ⟨i, y, hi, rfl, rfl, hx⟩ := hrel
    by_cases hlt : i < n
    · obtain ⟨ad, rfl, r0, r1, r2⟩ := (hr.out.ext hx.out).at_ hlt
      go_wp2
      go_roundw
      case rel => exact ⟨i + 1, _, by omega, by go_num, rfl, hx⟩
      case measure => simp [intOf]; omega
    · obtain rfl : i = n := by omega
      go_wp2
      go_ret
      exact ⟨⟨_, rfl⟩, hx.out⟩
theorem weight_any (p : Int) (A : Option Addr) (n c : Nat) (B : Option Addr) (m d : Nat) (fs : List Fd) (rs : List Rc) (w : World) (hf : RdF w A n c fs) (hr : RdR w B m d rs) : Calls Tryz.prog 22 #[tb p A n c B m d] w fun e w' => (∃ z : Int, e = .returned (.int .i64 z)) ∧ Ext w w' := by
  have hmx := Rd.max hf
  have hrm := hr.max
  obtain ⟨w1, g, e1, h1, s1, k1, x1⟩ := newB w [.int .i64 p, .slice A n c, .slice B m d] 25
  have hf1 := hid (hf.ext x1)
  have hr1 := hid (hr.ext x1)
  replace k1 := hid k1
  replace x1 := hid x1
  obtain ⟨q0, q1, q2⟩ := k1.out.c3
  clear hf hr
  unfold tb
  go_enter Tryz.func22, Tryz.ntmps22
  go_upto_region 1 with fail
  try simp only [e1.out, h1.out]
  clear e1 h1 s1
  go_wp2_with fail
  clear q0 q1 q2
  go_loopw [3, 4] (fun x v wr => ∃ (i : Nat) (y : Int), i ≤ n ∧ v = .int .i64 i ∧ x = .int .i64 y ∧ Hid (Ext w1 wr)) (fun _ v _ => n - (intOf v).toNat)
  case atStart => exact ⟨0, _, by omega, rfl, rfl, Ext.refl _⟩
  case round =>
    obtain ⟨i, y, hi, rfl, rfl, hx⟩ := hrel
    obtain ⟨q0, q1, q2⟩ := (k1.out.ext hx.out).c3
    by_cases hlt : i < n
    · obtain ⟨ad, rfl, r0, r1, r2, r3⟩ := (hf1.out.ext hx.out).at_ hlt
      go_wp2
      go_roundw
      case rel => exact ⟨i + 1, _, by omega, by go_num, rfl, hx⟩
      case measure => simp [intOf]; omega
    · obtain rfl : i = n := by omega
      rename_i wr
      go_wp2_with fail
      clear q0 q1 q2
      go_loopw [3, 5] (fun x v wr => ∃ (i : Nat) (y : Int), i ≤ m ∧ v = .int .i64 i ∧ x = .int .i64 y ∧ Hid (Ext w1 wr)) (fun _ v _ => m - (intOf v).toNat)
      case atStart => exact ⟨0, _, by omega, rfl, rfl, hx⟩
      case round =>
        obtain ⟨j, y2, hj, rfl, rfl, hx2⟩ := hrel
        obtain ⟨q0, q1, q2⟩ := (k1.out.ext hx2.out).c3
        by_cases hlt : j < m
        · obtain ⟨ad, C, m', d', rfl, r0, r1, hv⟩ := (hr1.out.ext hx2.out).at_ hlt
          have hwv := hid (weightOf_any C m' d' _ _ hv)
          clear hv
          go_wp2_with fail
          refine hwv.out.mono ?_
          rintro e w5 ⟨⟨z, rfl⟩, hx5⟩
          have hx6 := hid (hx2.out.trans hx5)
          clear hwv hx5 r0 r1 q0 q1 q2
          go_wp2
          go_roundw
          case rel => exact ⟨j + 1, _, by omega, by go_num, rfl, hx6⟩
          case measure => simp [intOf]; omega
        · obtain rfl : j = m := by omega
          go_wp2
          go_ret
          exact ⟨⟨_, rfl⟩, x1.out.trans hx2.out⟩
open Go.RowKit Go.Shelf
def TgR (w : World) (A : Option Addr) (n : Nat) : Prop := ∀ i, i < n → ∃ ad s0 s1 s2, A = some ad ∧ w.cell? (ad.add (i * 6)) = some (.string s0) ∧ w.cell? ⟨(ad.add (i * 6)).block, (ad.add (i * 6)).off + 1, none⟩ = some (.string s1) ∧ w.cell? ⟨(ad.add (i * 6)).block, (ad.add (i * 6)).off + 2, none⟩ = some (.string s2)
theorem weightTags_any (A : Option Addr) (n c : Nat) (w : World) (hn : n ≤ 9223372036854775807) (hr : TgR w A n) : Calls Tryz.prog 23 #[.slice A n c] w fun e w' => (∃ z : Int, e = .returned (.int .i64 z)) ∧ Ext w w' := by
  replace hr := hid hr
  go_enter Tryz.func23, Tryz.ntmps23
  go_wp2_with fail
  go_loopw [3, 4] (fun x v wr => ∃ (i : Nat) (y : Int), i ≤ n ∧ v = .int .i64 i ∧ x = .int .i64 y ∧ Hid (Ext w wr)) (fun _ v _ => n - (intOf v).toNat)
  case atStart => exact ⟨0, _, by omega, rfl, rfl, Ext.refl _⟩
  case round =>
    obtain ⟨i, y, hi, rfl, rfl, hx⟩ := hrel
    by_cases hlt : i < n
    · obtain ⟨ad, s0, s1, s2, rfl, r0, r1, r2⟩ := hr.out i hlt
      replace r0 := hx.out.cell r0
      replace r1 := hx.out.cell r1
      replace r2 := hx.out.cell r2
      go_upto_region 5 with fail
      go_quiet (fail)
      go_wp2
      go_roundw
      case rel => exact ⟨i + 1, _, by omega, by go_num, rfl, hx.out.drewN_right _⟩
      case measure => simp [intOf]; omega
    · obtain rfl : i = n := by omega
      go_wp2
      go_ret
      exact ⟨⟨_, rfl⟩, hx.out⟩
open Go.RowKit Go.Shelf Go.MuLone
def okT (p : Int) (fs : List Fd) (rs : List Rc) : Prop := vtE p fs rs = 0
theorem recsE_all {fs : List Fd} {p : Int} : ∀ {l : List Rc}, recsE fs p l = 0 ↔ ∀ i, i < l.length → recE fs p (rth l i) = 0
  | [] => by simp [recsE]
  | r :: l => by
    unfold recsE
    split
    · rename_i h
      rw [recsE_all (l := l)]
      refine ⟨fun q i hi => ?_, fun q i hi => q (i + 1) (by simpa using hi)⟩
      cases i with
      | zero => exact h
      | succ i => exact q i (by simpa using hi)
    · rename_i h
      exact ⟨fun e => absurd e h, fun q => absurd (q 0 (by simp)) h⟩
theorem okT_iff {p : Int} {fs : List Fd} {rs : List Rc} : okT p fs rs ↔ pgB p = true ∧ vfE fs = 0 ∧ rs.length ≤ 300 ∧ ∀ i, i < rs.length → recE fs p (rth rs i) = 0 := by
  unfold okT vtE
  constructor
  · intro h
    split at h
    · cases h
    split at h
    · rename_i a b; exact absurd h b
    split at h
    · cases h
    rename_i a b c
    exact ⟨by simpa using a, by simpa using b, by omega, recsE_all.1 h⟩
  · rintro ⟨a, b, c, d⟩
    rw [if_neg (by simp [a]), if_neg (by simp [b]), if_neg (by omega)]
    exact recsE_all.2 d
theorem recE_len {fs : List Fd} {p : Int} {r : Rc} (h : recE fs p r = 0) : r.v.length = fs.length := by
  unfold recE at h
  split at h
  · cases h
  · rename_i a; omega
theorem okT.wid {p : Int} {fs : List Fd} {rs : List Rc} (h : okT p fs rs) : Wid fs.length rs := fun i hi => recE_len ((okT_iff.1 h).2.2.2 i hi)
theorem okT.len {p : Int} {fs : List Fd} {rs : List Rc} (h : okT p fs rs) : 0 < fs.length ∧ fs.length ≤ 16 ∧ rs.length ≤ 300 := ⟨(vfE_len (okT_iff.1 h).2.1).1, (vfE_len (okT_iff.1 h).2.1).2, (okT_iff.1 h).2.2.1⟩
def bagC (s : Int) (p : Int) (t : Tt) : List Value := [.int .i32 s, .int .u32 0, .int .i64 p, .slice t.A t.n t.c, .slice t.B t.m t.d, .slice none 0 0]
structure BagI (w : World) (lo b : Nat) (s p : Int) (fs : List Fd) (rs : List Rc) (t : Tt) : Prop where
  bk : Bk w b (bagC s p t) 84
  ow : OwTt w lo fs.length fs rs t
  lo : lo ≤ b
  nb : ¬ t.F b
def bF (b : Nat) (t : Tt) (k : Nat) : Prop := k = b ∨ t.F k
section
variable {w w' : World} {lo b : Nat} {s p : Int} {fs : List Fd} {rs : List Rc} {t : Tt}
theorem BagI.keep (h : BagI w lo b s p fs rs t) (hk : ∀ k, bF b t k → w'.heap[k]? = w.heap[k]?) : BagI w' lo b s p fs rs t :=
  ⟨h.bk.keep (hk b (.inl rfl)), h.ow.keep (fun k q => hk k (.inr q)), h.lo, h.nb⟩
theorem BagI.lt (h : BagI w lo b s p fs rs t) {k : Nat} (hk : bF b t k) : lo ≤ k ∧ k < w.heap.size := by
  rcases hk with rfl | hk
  · exact ⟨h.lo, h.bk.lt⟩
  · exact h.ow.lt hk
theorem BagI.ext (h : BagI w lo b s p fs rs t) (hx : Ext w w') : BagI w' lo b s p fs rs t := h.keep (fun k q => hx.block (h.lt q).2)
theorem BagI.turn (h : BagI w lo b s p fs rs t) (s' : Int) : BagI (w.setCell ⟨b, 0, none⟩ (.int .i32 s')) lo b s' p fs rs t :=
  ⟨h.bk.set 0 _, h.ow.keep (fun k q => (setCell_at w b 0 _).2 k (fun e => h.nb (e ▸ q))), h.lo, h.nb⟩
theorem BagI.put {lo' : Nat} {rs2 : List Rc} {t2 : Tt} (h : BagI w lo b s p fs rs t) (ho : OwTt w lo' fs.length fs rs2 t2) (hl : lo ≤ lo') (hn : ¬ t2.F b) :
    BagI ((((w.setCell ⟨b, 2, none⟩ (.int .i64 p)).setCell ⟨b, 3, none⟩ (.slice t2.A t2.n t2.c)).setCell ⟨b, 4, none⟩ (.slice t2.B t2.m t2.d)).setCell ⟨b, 5, none⟩ (.slice none 0 0)) lo b s p fs rs2 t2 :=
  ⟨(((h.bk.set 2 _).set 3 _).set 4 _).set 5 _, (ho.lo' hl).keep (fun k q => by
    have hk : k ≠ b := fun e => hn (e ▸ q)
    rw [(setCell_at _ b _ _).2 k hk, (setCell_at _ b _ _).2 k hk, (setCell_at _ b _ _).2 k hk, (setCell_at _ b _ _).2 k hk]), h.lo, hn⟩
theorem BagI.cells (h : BagI w lo b s p fs rs t) : w.cell? ⟨b, 0, none⟩ = some (.int .i32 s) ∧ w.cell? ⟨b, 1, none⟩ = some (.int .u32 0) ∧ w.cell? ⟨b, 2, none⟩ = some (.int .i64 p) ∧ w.cell? ⟨b, 3, none⟩ = some (.slice t.A t.n t.c) ∧ w.cell? ⟨b, 4, none⟩ = some (.slice t.B t.m t.d) ∧ w.cell? ⟨b, 5, none⟩ = some (.slice none 0 0) :=
  ⟨h.bk.at rfl, h.bk.at rfl, h.bk.at rfl, h.bk.at rfl, h.bk.at rfl, h.bk.at rfl⟩
end
theorem bagNew_bad (p : Int) (A : Option Addr) (n c : Nat) (B : Option Addr) (m d : Nat) (fs : List Fd) (rs : List Rc) (w : World) (hf : RdF w A n c fs) (hr : RdR w B m d rs) (hE : ¬ okT p fs rs) :
    Calls Tryz.prog 6 #[tb p A n c B m d] w fun e w' => e = .returned (.tuple #[.pointer none, .int .i64 (vtE p fs rs)]) ∧ Ext w w' := by
  unfold okT at hE
  have hT := T3.new w p A n c B m d
  have hx := hid (Ext.new w (.cells #[.int .i64 p, .slice A n c, .slice B m d] 25))
  have q := hid (Validate_any p A n c B m d fs rs _ (hf.ext hx.out) (hr.ext hx.out))
  unfold tb at q ⊢
  generalize vtE p fs rs = E at *
  have hE2 : (E != 0) = true := by simpa using hE
  go_enter Tryz.func6, Tryz.ntmps6
  go_upto_region 1 with fail
  generalize w.alloc (.cells #[.int .i64 p, .slice A n c, .slice B m d] 25) = w1 at *
  generalize w.heap.size = g at *
  obtain ⟨t0, t1, t2, hb⟩ := hT
  go_wp2_with fail
  refine q.out.mono ?_
  rintro e w2 ⟨rfl, hx2⟩
  replace hx := hid (hx.out.trans hx2)
  clear q hx2 t0 t1 t2
  go_wp2
  exact bodyPost_ret (v := .tuple #[.pointer none, .int .i64 E]) (by simp [results, Tryz.results6, go_sem]) rfl ⟨rfl, hx.out⟩
theorem bagNew_any (p : Int) (A : Option Addr) (n c : Nat) (B : Option Addr) (m d : Nat) (fs : List Fd) (rs : List Rc) (w : World) (hf : RdF w A n c fs) (hr : RdR w B m d rs) (hE : okT p fs rs) :
    Calls Tryz.prog 6 #[tb p A n c B m d] w fun e w' => ∃ b t, e = .returned (.tuple #[.pointer (some ⟨b, 0, none⟩), .int .i64 0]) ∧ BagI w' w.heap.size b 0 p fs rs t ∧ Ext w w' := by
  have hT := T3.new w p A n c B m d
  have hx := hid (Ext.new w (.cells #[.int .i64 p, .slice A n c, .slice B m d] 25))
  have q := hid (Validate_any p A n c B m d fs rs _ (hf.ext hx.out) (hr.ext hx.out))
  have hl1 := hf.len
  have hl2 := hr.len
  have hl := hE.len
  have q2 := hid (fun w' (hx' : Ext w w') => bcopied_any p A n c B m d fs.length fs rs w' (hf.ext hx') (hr.ext hx') (by omega) (by omega) hl.1 (by omega) hE.wid)
  unfold okT at hE
  rw [hE] at q
  unfold tb at q q2 ⊢
  go_enter Tryz.func6, Tryz.ntmps6
  go_upto_region 1 with fail
  generalize w.alloc (.cells #[.int .i64 p, .slice A n c, .slice B m d] 25) = w1 at *
  obtain ⟨g, hg0⟩ : ∃ g, g = w.heap.size := ⟨_, rfl⟩
  rw [← hg0] at hT
  simp only [← hg0]
  clear hg0
  obtain ⟨t0, t1, t2, hb⟩ := hT
  go_wp2_with fail
  refine q.out.mono ?_
  rintro e w2 ⟨rfl, hx2⟩
  replace hx := hid (hx.out.trans hx2)
  have hT := T3.ext ⟨t0, t1, t2, hb⟩ hx2
  clear q hx2 t0 t1 t2 hb
  obtain ⟨t0, t1, t2, hb⟩ := hT
  go_wp2_with fail
  refine (q2.out w2 hx.out).mono ?_
  rintro e w3 ⟨A1, d1, B1, d2, rfl, hO, hx3⟩
  obtain ⟨rr, hO⟩ := hO.tt
  have hs2 := hid hx.out.size
  replace hx := hid (hx.out.trans hx3)
  have hs3 := hid hx3.size
  have hB : Hid (BagI (w3.alloc (.cells (bagC 0 p ⟨A1, n, d1, B1, m, d2, rr⟩).toArray 84)) w.heap.size w3.heap.size 0 p fs rs ⟨A1, n, d1, B1, m, d2, rr⟩) :=
    ⟨Bk.new _ _ _, (hO.lo' hs2.out).ext (Ext.new _ _), Nat.le_trans hs2.out hs3.out, fun hF => by have := (hO.lt hF).2; omega⟩
  have hx4 := hid (hx.out.trans (Ext.new w3 (.cells (bagC 0 p ⟨A1, n, d1, B1, m, d2, rr⟩).toArray 84)))
  clear hO hx hx3 q2 hs2 hs3
  unfold bagC at hB hx4
  go_wp2
  exact bodyPost_ret (v := .tuple #[.pointer (some ⟨w3.heap.size, 0, none⟩), .int .i64 0]) (by simp [results, Tryz.results6, go_sem]) rfl ⟨_, _, rfl, hB.out, hx4.out⟩
theorem eqV_refl (a : Vl) : eqV a a = true := eqV_iff.2 rfl
theorem dropWhile_idem {α : Type} (q : α → Bool) : ∀ l : List α, (l.dropWhile q).dropWhile q = l.dropWhile q
  | [] => rfl
  | x :: l => by
    by_cases h : q x = true
    · rw [List.dropWhile_cons_of_pos h]; exact dropWhile_idem q l
    · rw [List.dropWhile_cons_of_neg h, List.dropWhile_cons_of_neg h]
theorem trR_idem (l : List UInt8) (c : Int) : Ky.trR (Ky.trR l c) c = Ky.trR l c := by
  unfold Ky.trR
  rw [List.reverse_reverse, dropWhile_idem]
theorem trR_len (l : List UInt8) (c : Int) : (Ky.trR l c).length ≤ l.length := by
  unfold Ky.trR
  rw [List.length_reverse]
  have h := List.Sublist.length_le (List.dropWhile_sublist (fun b => decide (((b : UInt8).toNat : Int) = c)) (l := l.reverse))
  rwa [List.length_reverse] at h
theorem trimR_size (s : ByteArray) (c : Int) : (Ky.trimR s c).size ≤ s.size := by
  unfold Ky.trimR
  rw [Ky.strB_size, ← Ky.len_toList s]
  exact trR_len _ _
theorem trimR_idem (s : ByteArray) (c : Int) : Ky.trimR (Ky.trimR s c) c = Ky.trimR s c := by
  unfold Ky.trimR
  rw [Ky.strB_toList, trR_idem]
theorem extract_all (s : ByteArray) {n : Nat} (h : s.size ≤ n) : s.extract 0 n = s := by
  apply ByteArray.ext
  rw [ByteArray.data_extract]
  have : s.data.size ≤ n := h
  apply Array.ext
  · simp; omega
  · intro i h1 h2
    simp
theorem cut_size (f : Fd) (x : Vl) : (cutS f x).size ≤ x.s.size ∧ (cutS f x).size ≤ f.wd.toNat := by
  unfold cutS
  have h := trimR_size (x.s.extract 0 (min x.s.size f.wd.toNat)) 32
  have h2 : (x.s.extract 0 (min x.s.size f.wd.toNat)).size ≤ min x.s.size f.wd.toNat := by rw [ByteArray.size_extract]; omega
  omega
theorem cut_idem (f : Fd) (x : Vl) (k n : Int) : cutS f ⟨k, n, cutS f x⟩ = cutS f x := by
  have h := (cut_size f x).2
  have e : cutS f ⟨k, n, cutS f x⟩ = Ky.trimR ((cutS f x).extract 0 (min (cutS f x).size f.wd.toNat)) 32 := rfl
  rw [e, extract_all _ (by omega)]
  unfold cutS
  exact trimR_idem _ _
theorem fit_holds {f : Fd} {p : Int} {x : Vl} (h : (fitR f p x).2 = 0) : holdsB f p (fitR f p x).1 = true := by
  have H := h
  unfold fitR at h
  split at h
  · cases h
  rename_i h1
  split at h
  · rename_i h2; exact absurd h h2
  rename_i h2
  split at h
  · rename_i h3
    split at h
    · rename_i h4
      have e : fitR f p x = (x, 0) := by unfold fitR; rw [if_neg h1, if_neg h2, if_pos h3, if_pos h4]
      rw [e]
      unfold holdsB
      show (if x.k = 0 then _ else _) = true
      rw [if_pos h3, h4]
      have hv : Ky.isV x.k x.n x.s = true := by
        have h2' : Ky.valE x.k x.n x.s = 0 := by simpa using h2
        unfold Ky.valE at h2'
        split at h2'
        · cases h2'
        split at h2'
        · assumption
        · cases h2'
      unfold Ky.isV at hv
      rw [h3] at hv
      rw [if_neg (by decide)] at hv
      split at hv
      · cases hv
      rename_i hs
      have hn : x.n = 0 := by simpa using hv
      have hs0 : x.s = ⟨#[]⟩ := by
        apply ByteArray.ext
        exact Array.eq_empty_of_size_eq_zero (by simpa using hs)
      have : x = v0 := Vl.ext' h3 hn hs0
      show (true && eqV x v0) = true
      rw [this]
      simp [eqV_refl]
    · cases h
  rename_i h3
  split at h
  · cases h
  rename_i h4
  have hh : ∀ y, fitR f p x = (y, 0) → fitR f p y = (y, 0) → Ky.valE y.k y.n y.s = 0 → y.k ≠ 0 → holdsB f p (fitR f p x).1 = true := fun y e e2 e3 e4 => by
    rw [e]
    show holdsB f p y = true
    unfold holdsB
    rw [if_neg e4, if_neg (by rw [e3]; simp), e2]
    simp [eqV_refl]
  have h2' : Ky.valE x.k x.n x.s = 0 := by simpa using h2
  split at h
  · rename_i h5
    split at h
    · rename_i h6
      have e : fitR f p x = (⟨x.k, x.n, cutS f x⟩, 0) := by unfold fitR; rw [if_neg h1, if_neg h2, if_neg h3, if_neg h4, if_pos h5, if_pos h6]
      have hk : x.k = 4 := by
        have : (emptyV f).k = 4 := by unfold emptyV; rw [if_neg (by omega)]; exact h5
        omega
      have hv : Ky.valE x.k x.n (cutS f x) = 0 := by
        have := (cut_size f x).1
        unfold Ky.valE at h2' ⊢
        split at h2'
        · cases h2'
        rw [if_neg (by omega)]
        unfold Ky.isV at h2' ⊢
        rw [if_pos hk] at h2' ⊢
        exact h2'
      refine hh _ e ?_ hv h3
      have e5 := cut_idem f x x.k x.n
      unfold fitR
      rw [if_neg h1]
      simp only
      rw [if_neg (by rw [hv]; simp), if_neg h3, if_neg h4, if_pos h5, e5, if_pos h6]
    · cases h
  rename_i h5
  have e : fitR f p x = (x, 0) := by
    unfold fitR
    rw [if_neg h1, if_neg h2, if_neg h3, if_neg h4, if_neg h5]
    split at h
    · rename_i h6
      rw [if_pos h6]
      split at h
      · rename_i h7; rw [if_pos h7]
      · cases h
    · rename_i h6
      rw [if_neg h6]
      split at h
      · rename_i h7
        rw [if_pos h7]
        split at h
        · rename_i h8; rw [if_pos h8]
        · cases h
      · rename_i h7; rw [if_neg h7]
  exact hh x e e h2' h3
theorem fieldB_k {f : Fd} (h : fieldB f = true) : (f.k = 1 ∨ f.k = 2 ∨ f.k = 3 ∨ f.k = 4 ∨ f.k = 5) ∧ (f.k = 2 → 1 ≤ f.wd ∧ f.wd ≤ 15) := by
  unfold fieldB knd at h
  by_cases h1 : f.k = 1
  · exact ⟨.inl h1, fun e => by omega⟩
  by_cases h2 : f.k = 2
  · rw [if_neg h1, if_pos h2] at h
    simp at h
    exact ⟨.inr (.inl h2), fun _ => h.2⟩
  by_cases h3 : f.k = 3
  · exact ⟨.inr (.inr (.inl h3)), fun e => absurd e h2⟩
  by_cases h4 : f.k = 4
  · exact ⟨.inr (.inr (.inr (.inl h4))), fun e => absurd e h2⟩
  by_cases h5 : f.k = 5
  · exact ⟨.inr (.inr (.inr (.inr h5))), fun e => absurd e h2⟩
  · rw [if_neg h1, if_neg h2, if_neg h3, if_neg h4, if_neg h5] at h
    cases h
theorem decB0 : Ky.decB 0 = ⟨#[48]⟩ := by
  unfold Ky.decB
  rw [if_neg (by decide), Ky.decL_small (by decide)]
  rfl
theorem str0 {wd : Int} (h1 : 1 ≤ wd) (h2 : wd ≤ 15) : (Ky.strE 0 wd == 0) = true ∧ Ky.preB (Ky.strS 0 wd) ⟨#[42]⟩ = false := by
  have ok : Ky.strOk 0 wd = true := by
    unfold Ky.strOk
    rw [decide_eq_true h1, decide_eq_true (show wd ≤ 254 by omega)]
    simp [Ky.isNumB]
  refine ⟨by rw [Ky.str_yes ok]; rfl, ?_⟩
  rw [Ky.str_fits ok (by rw [decB0]; show ¬ wd < ((1 : Nat) : Int); omega), decB0]
  obtain ⟨n, rfl, hn⟩ : ∃ n : Nat, wd = n ∧ n ≤ 15 := ⟨wd.toNat, by omega, by omega⟩
  have : n = 1 ∨ n = 2 ∨ n = 3 ∨ n = 4 ∨ n = 5 ∨ n = 6 ∨ n = 7 ∨ n = 8 ∨ n = 9 ∨ n = 10 ∨ n = 11 ∨ n = 12 ∨ n = 13 ∨ n = 14 ∨ n = 15 := by omega
  rcases this with rfl | rfl | rfl | rfl | rfl | rfl | rfl | rfl | rfl | rfl | rfl | rfl | rfl | rfl | rfl <;> (show _ = _; kernel_rfl)
theorem cut0 (f : Fd) (k n : Int) : cutS f ⟨k, n, ⟨#[]⟩⟩ = ⟨#[]⟩ := by
  have h := (cut_size f ⟨k, n, ⟨#[]⟩⟩).1
  apply ByteArray.ext
  exact Array.eq_empty_of_size_eq_zero (by
    have h2 : (cutS f ⟨k, n, ⟨#[]⟩⟩).data.size ≤ 0 := h
    omega)
theorem text0 {p : Int} (h : pgB p = true) : textB ⟨#[]⟩ p = true := by
  unfold pgB at h
  simp at h
  obtain ⟨n, rfl, hn⟩ : ∃ n : Nat, p = n ∧ n ≤ 2 := ⟨p.toNat, by omega, by omega⟩
  have : n = 0 ∨ n = 1 ∨ n = 2 := by omega
  rcases this with rfl | rfl | rfl <;> (show _ = _; kernel_rfl)
theorem empty_holds {f : Fd} {p : Int} (h : fieldB f = true) (hp : pgB p = true) : holdsB f p (emptyV f) = true := by
  obtain ⟨hk, hw⟩ := fieldB_k h
  have e : ∀ y, emptyV f = y → fitR f p y = (y, 0) → Ky.valE y.k y.n y.s = 0 → y.k ≠ 0 → holdsB f p (emptyV f) = true := fun y e0 e2 e3 e4 => by
    rw [e0]
    unfold holdsB
    rw [if_neg e4, if_neg (by rw [e3]; simp), e2]
    simp [eqV_refl]
  have h1 : ¬ (fieldB f = false ∨ pgB p = false) := by simp [h, hp]
  have v (k : Int) (hk : k = 1 ∨ k = 2 ∨ k = 3 ∨ k = 4) : Ky.valE k 0 ⟨#[]⟩ = 0 := by rcases hk with rfl | rfl | rfl | rfl <;> (show _ = _; kernel_rfl)
  rcases hk with hk | hk | hk | hk | hk
  · have e0 : emptyV f = ⟨1, 0, ⟨#[]⟩⟩ := by unfold emptyV; rw [if_neg (by omega), hk]
    refine e _ e0 ?_ (v 1 (by simp)) (by decide)
    unfold fitR
    rw [if_neg h1]
    simp only
    rw [v 1 (by simp), if_neg (by simp), if_neg (by decide), e0, if_neg (by simp), if_neg (by omega), if_neg (by omega), if_neg (by omega)]
  · have e0 : emptyV f = ⟨2, 0, ⟨#[]⟩⟩ := by unfold emptyV; rw [if_neg (by omega), hk]
    refine e _ e0 ?_ (v 2 (by simp)) (by decide)
    obtain ⟨a, b⟩ := str0 (hw hk).1 (hw hk).2
    have hok : okN f ⟨2, 0, ⟨#[]⟩⟩ = true := by unfold okN; rw [a, b]; rfl
    unfold fitR
    rw [if_neg h1]
    simp only
    rw [v 2 (by simp), if_neg (by simp), if_neg (by decide), e0, if_neg (by simp), if_neg (by omega), if_pos hk, if_pos hok]
  · have e0 : emptyV f = ⟨3, 0, ⟨#[]⟩⟩ := by unfold emptyV; rw [if_neg (by omega), hk]
    refine e _ e0 ?_ (v 3 (by simp)) (by decide)
    unfold fitR
    rw [if_neg h1]
    simp only
    rw [v 3 (by simp), if_neg (by simp), if_neg (by decide), e0, if_neg (by simp), if_neg (by omega), if_neg (by omega), if_neg (by omega)]
  · have e0 : emptyV f = ⟨4, 0, ⟨#[]⟩⟩ := by unfold emptyV; rw [if_neg (by omega), hk]
    refine e _ e0 ?_ (v 4 (by simp)) (by decide)
    unfold fitR
    rw [if_neg h1]
    simp only
    rw [v 4 (by simp), if_neg (by simp), if_neg (by decide), e0, if_neg (by simp), if_pos hk, cut0, if_pos (text0 hp)]
  · have e0 : emptyV f = ⟨2, 0, ⟨#[]⟩⟩ := by unfold emptyV; rw [if_pos hk]
    refine e _ e0 ?_ (v 2 (by simp)) (by decide)
    have hok : okM ⟨2, 0, ⟨#[]⟩⟩ = true := rfl
    unfold fitR
    rw [if_neg h1]
    simp only
    rw [v 2 (by simp), if_neg (by simp), if_neg (by decide), e0, if_neg (by simp), if_neg (by omega), if_neg (by omega), if_pos hk, if_pos hok]
structure Ac where
  op : Int
  a : Int
  b : Int
  c : Int
  s : ByteArray
  t : ByteArray
def acC (x : Ac) : List Value := [.int .i64 x.op, .int .i64 x.a, .int .i64 x.b, .int .i64 x.c, .string x.s, .string x.t]
def valOf (l : List Vl) (k : Int) : Vl := if k < 0 ∨ (l.length : Int) ≤ k then v0 else vth l k.toNat
def fitA (p : Int) (fs : List Fd) (vals : List Vl) (x : Ac) : Vl × Int := fitR (fth fs (ixN fs x.s).toNat) p (valOf vals x.b)
def actE (p : Int) (fs : List Fd) (vals : List Vl) (rs : List Rc) (x : Ac) : Int :=
  if x.op = 0 then (if ixN fs x.s < 0 then 4 else (fitA p fs vals x).2) else if x.op = 2 then (if 300 ≤ rs.length then 3 else 0) else 0
def setAt (rs : List Rc) (i k : Nat) (v : Vl) : List Rc := rs.set i ⟨(rth rs i).gone, (rth rs i).v.set k v⟩
def markAt (rs : List Rc) (i : Nat) (g : Bool) : List Rc := rs.set i ⟨g, (rth rs i).v⟩
def blank (fs : List Fd) : Rc := ⟨false, blankV fs⟩
def actR (p : Int) (fs : List Fd) (vals : List Vl) (rs : List Rc) (x : Ac) : List Rc :=
  if x.op = 0 then (if ixN fs x.s < 0 then rs else if (fitA p fs vals x).2 ≠ 0 then rs else setAt rs (x.a - 1).toNat (ixN fs x.s).toNat (fitA p fs vals x).1)
  else if x.op = 1 then markAt rs (x.a - 1).toNat (!decide (x.c = 0)) else if x.op = 2 then (if 300 ≤ rs.length then rs else rs ++ [blank fs]) else rs
def ownB (m : Nat) (x : Ac) : Bool := decide (x.op = 2) || (decide (1 ≤ x.a) && decide (x.a ≤ m))
theorem ixN_lt {fs : List Fd} {s : ByteArray} (h : ¬ ixN fs s < 0) : (ixN fs s).toNat < fs.length := by
  unfold ixN at *
  obtain ⟨k, h1, h2⟩ := ixF_lt (fun x => x.nm.toList == s.toList) fs 0 (by omega)
  omega
theorem recB_at {fs : List Fd} {p : Int} {v : List Vl} : ∀ {n : Nat}, recB fs p v n = true ↔ ∀ k, k < n → holdsB (fth fs k) p (vth v k) = true := fun {n} => by
  unfold recB
  rw [List.all_eq_true]
  exact ⟨fun h k hk => h k (List.mem_range.2 hk), fun h k hk => h k (List.mem_range.1 hk)⟩
theorem recE_iff {fs : List Fd} {p : Int} {r : Rc} : recE fs p r = 0 ↔ r.v.length = fs.length ∧ ∀ k, k < fs.length → holdsB (fth fs k) p (vth r.v k) = true := by
  unfold recE
  by_cases h : r.v.length = fs.length
  · rw [if_neg (by omega)]
    by_cases h2 : recB fs p r.v fs.length = true
    · rw [if_pos h2]; exact ⟨fun _ => ⟨h, recB_at.1 h2⟩, fun _ => rfl⟩
    · rw [if_neg h2]; exact ⟨fun e => (by cases e), fun e => absurd (recB_at.2 e.2) h2⟩
  · rw [if_pos h]; exact ⟨fun e => (by cases e), fun e => absurd e.1 h⟩
theorem vth_set_same {l : List Vl} {k : Nat} {y : Vl} (h : k < l.length) : vth (l.set k y) k = y := by rw [vth_get (by simpa using h)]; simp
theorem vth_set_ne {l : List Vl} {k i : Nat} {y : Vl} (h : i ≠ k) : vth (l.set k y) i = vth l i := by
  unfold vth
  rw [List.getD_eq_getElem?_getD, List.getD_eq_getElem?_getD, List.getElem?_set_ne (Ne.symm h)]
theorem okT.set {p : Int} {fs : List Fd} {rs : List Rc} {x : Rc} (h : okT p fs rs) (hx : recE fs p x = 0) (i : Nat) : okT p fs (rs.set i x) := by
  obtain ⟨h1, h2, h3, h4⟩ := okT_iff.1 h
  refine okT_iff.2 ⟨h1, h2, by rw [List.length_set]; exact h3, fun j hj => ?_⟩
  rw [List.length_set] at hj
  by_cases e : j = i
  · subst e; rw [rth_set_same hj]; exact hx
  · rw [rth_set_ne e]; exact h4 j hj
theorem okT.field {p : Int} {fs : List Fd} {rs : List Rc} (h : okT p fs rs) {k : Nat} (hk : k < fs.length) : fieldB (fth fs k) = true := by
  have h2 := (okT_iff.1 h).2.1
  unfold vfE at h2
  split at h2
  · cases h2
  split at h2
  · cases h2
  rename_i a b
  exact bad_no (by simpa using b) hk
theorem okT_blank {p : Int} {fs : List Fd} {rs : List Rc} (h : okT p fs rs) : recE fs p (blank fs) = 0 := by
  refine recE_iff.2 ⟨by simp [blank, blankV], fun k hk => ?_⟩
  have e : vth (blank fs).v k = emptyV (fth fs k) := by
    rw [vth_get (by simpa [blank, blankV] using hk), fth_get hk]
    simp [blank, blankV]
  rw [e]
  exact empty_holds (h.field hk) (okT_iff.1 h).1
theorem okT_setAt {p : Int} {fs : List Fd} {rs : List Rc} (h : okT p fs rs) {i k : Nat} {v : Vl} (hi : i < rs.length) (hv : holdsB (fth fs k) p v = true) : recE fs p ⟨(rth rs i).gone, (rth rs i).v.set k v⟩ = 0 := by
  obtain ⟨a, b⟩ := recE_iff.1 ((okT_iff.1 h).2.2.2 i hi)
  refine recE_iff.2 ⟨by simpa using a, fun j hj => ?_⟩
  by_cases e : j = k
  · subst e; rw [vth_set_same (by omega)]; exact hv
  · rw [vth_set_ne e]; exact b j hj
theorem okT_markAt {p : Int} {fs : List Fd} {rs : List Rc} (h : okT p fs rs) {i : Nat} (g : Bool) (hi : i < rs.length) : recE fs p ⟨g, (rth rs i).v⟩ = 0 := by
  obtain ⟨a, b⟩ := recE_iff.1 ((okT_iff.1 h).2.2.2 i hi)
  exact recE_iff.2 ⟨a, b⟩
theorem okT.app {p : Int} {fs : List Fd} {rs : List Rc} {x : Rc} (h : okT p fs rs) (hx : recE fs p x = 0) (hl : rs.length < 300) : okT p fs (rs ++ [x]) := by
  obtain ⟨h1, h2, h3, h4⟩ := okT_iff.1 h
  refine okT_iff.2 ⟨h1, h2, by simp; omega, fun j hj => ?_⟩
  rw [List.length_append, List.length_singleton] at hj
  by_cases e : j = rs.length
  · subst e; rw [rth_app_eq]; exact hx
  · rw [rth_app_lt (by omega)]; exact h4 j (by omega)
theorem okT_act {p : Int} {fs : List Fd} {rs : List Rc} (h : okT p fs rs) (vals : List Vl) {x : Ac} {m : Nat} (ho : ownB m x = true) (hm : m ≤ rs.length) : okT p fs (actR p fs vals rs x) ∧ rs.length ≤ (actR p fs vals rs x).length := by
  unfold ownB at ho
  unfold actR
  split
  · rename_i e
    simp [e] at ho
    split
    · exact ⟨h, Nat.le_refl _⟩
    rename_i e1
    split
    · exact ⟨h, Nat.le_refl _⟩
    rename_i e2
    have hf := fit_holds (f := fth fs (ixN fs x.s).toNat) (p := p) (x := valOf vals x.b) (by simpa [fitA] using e2)
    exact ⟨h.set (okT_setAt h (by omega) hf) _, by simp [setAt]⟩
  split
  · rename_i _ e
    simp [e] at ho
    exact ⟨h.set (okT_markAt h _ (by omega)) _, by simp [markAt]⟩
  split
  · split
    · exact ⟨h, Nat.le_refl _⟩
    · exact ⟨h.app (okT_blank h) (by omega), by simp⟩
  · exact ⟨h, Nat.le_refl _⟩
open Go.RowKit Go.Shelf Go.MuLone
theorem one_R {w : World} {g : Bool} {C : Option Addr} {nv cv : Nat} {x : List Vl} (hv : RdV w C nv cv x) : RdR (w.alloc (.cells #[.bool g, .slice C nv cv] 69)) (some ⟨w.heap.size, 0, none⟩) 1 1 [⟨g, x⟩] := by
  refine ⟨[⟨g, C, nv, cv⟩], ?_, rfl, fun i hi => ?_⟩
  · exact one_rd w (rcl ⟨g, C, nv, cv⟩) 69 2 rfl
  · obtain rfl : i = 0 := by simpa using hi
    exact ⟨rfl, hv.ext (Ext.new _ _)⟩
theorem isRecord_any (p : Int) (A : Option Addr) (n c : Nat) (B : Option Addr) (m d : Nat) (fs : List Fd) (g : Bool) (C : Option Addr) (nv cv : Nat) (x : List Vl) (w : World) (hf : RdF w A n c fs) (hv : RdV w C nv cv x) :
    Calls Tryz.prog 85 #[tb p A n c B m d, .agg #[.bool g, .slice C nv cv]] w (Give (.int .i64 (vtE p fs [⟨g, x⟩])) w) := by
  have hT := T3.new w p A n c B m d
  have y1 := Ext.new w (.cells #[.int .i64 p, .slice A n c, .slice B m d] 25)
  have hR := R2.new (w.alloc (.cells #[.int .i64 p, .slice A n c, .slice B m d] 25)) g C nv cv
  have y2 := Ext.new (w.alloc (.cells #[.int .i64 p, .slice A n c, .slice B m d] 25)) (.cells #[.bool g, .slice C nv cv] 69)
  replace hT := hT.ext y2
  have hx := hid (y1.trans y2)
  clear y1 y2
  simp only [World.size_alloc] at hR
  unfold tb
  go_enter Tryz.func85, Tryz.ntmps85
  go_upto_region 1 with fail
  try simp only [World.size_alloc]
  generalize (w.alloc (.cells #[.int .i64 p, .slice A n c, .slice B m d] 25)).alloc (.cells #[.bool g, .slice C nv cv] 69) = w1 at *
  generalize w.heap.size = a at *
  generalize a + 1 = b at *
  obtain ⟨t0, t1, t2, ha⟩ := hT
  obtain ⟨r0, r1, hb⟩ := hR
  have hv1 := hv.ext hx.out
  have y3 := Ext.new w1 (.cells #[.bool g, .slice C nv cv] 69)
  have q := hid (Validate_any p A n c (some ⟨w1.heap.size, 0, none⟩) 1 1 fs [⟨g, x⟩] _ ((hf.ext hx.out).ext y3) (one_R hv1))
  unfold tb at q
  replace hx := hid (hx.out.trans y3)
  clear y3 hv1 hf hv
  go_wp2_with fail
  refine q.out.mono ?_
  rintro e w2 ⟨rfl, hx2⟩
  replace hx := hid (hx.out.trans hx2)
  clear q hx2
  go_wp2
  go_ret
  exact ⟨rfl, hx.out⟩
theorem bagLock_any (b : Nat) (w : World) (c0 : w.cell? ⟨b, 0, none⟩ = some (.int .i32 0)) (f0 : w.frozen? ⟨b, 0, none⟩ = false) : Calls Tryz.prog 56 #[.pointer (some ⟨b, 0, none⟩)] w fun e w' => e = .returned (.bool true) ∧ w' = w.setCell ⟨b, 0, none⟩ (.int .i32 1) := by
  go_enter Tryz.func56, Tryz.ntmps56
  go_wp2_with (go_at_call 69; refine (lock_free muLib ⟨b, 0, none⟩ _ c0 f0).mono ?_; rintro e w2 ⟨rfl, rfl⟩)
  go_ret
  exact ⟨rfl, rfl⟩
def stV (p : Int) (t : Tt) : Value := .agg #[.int .i64 p, .slice t.A t.n t.c, .slice t.B t.m t.d, .slice none 0 0]
theorem changed_any (p : Int) (t t' : Tt) (w : World) : Calls Tryz.prog 122 #[stV p t, tb p t'.A t'.n t'.c t'.B t'.m t'.d] w fun e w' => e = .returned (.tuple #[stV p t', .int .i64 0]) ∧ Ext w w' := by
  obtain ⟨A, n, c, B, m, d, rr⟩ := t
  obtain ⟨A', n', c', B', m', d', rr'⟩ := t'
  obtain ⟨w1, b1, e1, h1, s1, k1, x1⟩ := newB w [.int .i64 p, .slice A n c, .slice B m d, .slice none 0 0] 75
  obtain ⟨w2, b2, e2, h2, s2, k2, x2⟩ := newB w1 [.int .i64 p, .slice A' n' c', .slice B' m' d'] 25
  obtain ⟨w3, b3, e3, h3, s3, k3, x3⟩ := newB w2 [.int .i64 0, .slice none 0 0, .slice none 0 0, .slice none 0 0] 75
  obtain ⟨w4, b4, e4, h4, s4, k4, x4⟩ := newB w3 [.int .i64 p, .slice A' n' c', .slice B' m' d', .slice none 0 0] 75
  have h2 := s1.out.symm.trans h2.out
  have h3 := s2.out.symm.trans h3.out
  have h4 := s3.out.symm.trans h4.out
  unfold stV tb
  go_enter Tryz.func122, Tryz.ntmps122
  go_upto_region 2 with fail
  simp only [e1.out, e2.out, e3.out, e4.out, h1.out, h2, h3, h4]
  have hx := hid (((x1.trans x2).trans x3).trans x4)
  have k1 := hid (((k1.ext x2).ext x3).ext x4)
  have k3 := hid (k3.ext x4)
  clear e1 e2 e3 e4 s1 s2 s3 s4 x1 x2 x3 x4 k2
  have hne : b3 ≠ b1 ∧ b3 ≠ b4 := by omega
  have hb3 : w.heap.size ≤ b3 := by have := h1.out; omega
  clear h1 h2 h3 h4
  obtain ⟨a0, a1, a2, a3⟩ := k1.out.c4
  obtain ⟨c0, c1, c2, c3⟩ := k4.c4
  go_wp2_with fail
  go_loopw [7, 17] (fun v i wr => v = .int .i64 0 ∧ i = .int .i64 0 ∧ wr = w4) (fun _ _ _ => 0)
  case atStart => exact ⟨rfl, rfl, rfl⟩
  case round =>
    obtain ⟨rfl, rfl, rfl⟩ := hrel
    have f0 := k3.out.free 0
    have f1 := k3.out.free 1
    have f2 := k3.out.free 2
    have f3 := k3.out.free 3
    obtain ⟨d0, d1, d2, d3⟩ := k3.out.c4
    have k5 := hid (k3.out.set4 (.int .i64 p) (.slice A' n' c') (.slice B' m' d') (.slice none 0 0))
    have x5 := hid (ext_set4 hx.out hb3 (.int .i64 p) (.slice A' n' c') (.slice B' m' d') (.slice none 0 0))
    go_wp2
    obtain ⟨g0, g1, g2, g3⟩ := k5.out.c4
    exact bodyPost_ret (v := .tuple #[.agg #[.int .i64 p, .slice A' n' c', .slice B' m' d', .slice none 0 0], .int .i64 0]) (by simp [results, Tryz.results122, go_sem, g0, g1, g2, g3]) rfl ⟨rfl, x5.out⟩
open Go.RowKit Go.Shelf Go.MuLone
theorem bagTable_any (lo b : Nat) (p : Int) (fs : List Fd) (rs : List Rc) (t : Tt) (w : World) (H : BagI w lo b 0 p fs rs t) (hE : okT p fs rs) : Calls Tryz.prog 20 #[.pointer (some ⟨b, 0, none⟩)] w fun e w' =>
    ∃ A1 d1 B1 d2, e = .returned (tb p A1 fs.length d1 B1 rs.length d2) ∧ OwT w' w.heap.size fs.length fs rs A1 fs.length d1 B1 rs.length d2 ∧ BagI w' lo b 0 p fs rs t ∧ Mv w w' (fun k => k = b) := by
  obtain ⟨w1, g, e1, h1, s1, kg, x1⟩ := newB w [.int .i64 0, .slice none 0 0, .slice none 0 0] 25
  have H1 := H.ext x1
  have hbg : b ≠ g := by have := H.bk.lt; have := h1.out; omega
  have H2 := H1.turn 1
  have k2 := hid (kg.other (Ne.symm hbg) 0 (.int .i32 1))
  have c0 := H1.bk.at (i := 0) rfl
  have f0 := H1.bk.free 0
  have q := hid (bagLock_any b w1 c0 f0)
  have m2 := hid ((Mv.of (F := fun k => k = b) x1).set (.inl rfl) 0 (.int .i32 1))
  have hl := hE.len
  have q2 := hid (bcopied_any p t.A t.n t.c t.B t.m t.d fs.length fs rs _ H2.ow.rf H2.ow.rr (by have := H.ow.2.2.2.2.1; omega) (by have := H.ow.2.2.2.1; omega) hl.1 (by omega) hE.wid)
  rw [H.ow.2.2.2.2.1, H.ow.2.2.2.1] at q2
  have H2 := hid H2
  obtain ⟨a0, a1, a2, a3, a4, a5⟩ := H2.out.cells
  have en := H.ow.2.2.2.2.1
  have em := H.ow.2.2.2.1
  have hwg := h1.out
  have hlt := hid (fun k (hk : bF b t k) => (show k < g from by have := (H.lt hk).2; have := h1.out; omega))
  clear H H1 c0 f0 x1 kg
  unfold tb at q2 ⊢
  go_enter_defers Tryz.func20, Tryz.ntmps20
  go_upto_region 1 with fail
  simp only [e1.out, h1.out]
  clear e1 h1
  go_wp2_with fail
  refine q.out.mono ?_
  rintro e w2 ⟨rfl, rfl⟩
  clear q
  generalize w1.setCell ⟨b, 0, none⟩ (.int .i32 1) = w2 at *
  rw [en] at a3
  rw [em] at a4
  go_wp2_with fail
  refine q2.out.mono ?_
  rintro e w3 ⟨A1, d1, B1, d2, rfl, hO, hx3⟩
  obtain ⟨rr, hO⟩ := hO.tt
  have k3 := k2.out.ext hx3
  have H3 := H2.out.ext hx3
  have m3 := m2.out.ext hx3
  have hs2 := m2.out.size
  have hg2 := k2.out.lt
  obtain ⟨z0, z1, z2⟩ := k3.c3
  have f0 := k3.free 0
  have f1 := k3.free 1
  have f2 := k3.free 2
  have hs := set3_at w3 g (.int .i64 p) (.slice A1 fs.length d1) (.slice B1 rs.length d2)
  have k4 := k3.set3 (.int .i64 p) (.slice A1 fs.length d1) (.slice B1 rs.length d2)
  have m4 := m3.set3 (g := g) (.inr (by omega)) (.int .i64 p) (.slice A1 fs.length d1) (.slice B1 rs.length d2)
  have O4 := hO.keep (fun k hk => hs.2 k (by have := (hO.lt hk).1; omega))
  have H4 := H3.keep (fun k hk => hs.2 k (by have := hlt.out k hk; omega))
  have c0 := hid (H4.bk.at (i := 0) rfl)
  have g0 := hid (H4.bk.free 0)
  have hob := hid (O4.keep (fun k hk => (setCell_at _ b 0 (.int .i32 0)).2 k (by have := (O4.lt hk).1; have := hlt.out b (.inl rfl); omega)))
  have hob := hid (OwTt.lo' hob.out hs2)
  have hkb := hid (k4.other (Ne.symm hbg) 0 (.int .i32 0))
  have hHb := hid (H4.turn 0)
  have hmb := hid (m4.set (g := b) (.inl rfl) 0 (.int .i32 0))
  clear k2 H2 m2 k3 H3 m3 hO hs k4 m4 O4 H4 hx3 q2 a0 a1 a2 a3 a4 a5 hs2 hg2 hlt
  go_wp2
  refine leaves_cons (f := 57) (args := #[.pointer (some ⟨b, 0, none⟩)]) (by simp) (by simp [go_sem]) ?_
  refine (unlock_deferred muLib ⟨b, 0, none⟩ .returning _ c0.out g0.out).mono ?_
  rintro e u' w'' ⟨rfl, rfl, rfl⟩
  exact ⟨_, results_cell_row rfl _ _ g 25 _ (0, 0) _ rfl hkb.out Tryz.underlying25 rfl (by kernel_rfl), _, _, _, _, rfl, ⟨rr, hob.out⟩, hHb.out, hmb.out⟩
open Go.RowKit Go.Shelf Go.MuLone
theorem bagRecord_any (lo b i : Nat) (p : Int) (fs : List Fd) (rs : List Rc) (t : Tt) (w : World) (H : BagI w lo b 0 p fs rs t) (hE : okT p fs rs) (hi : i < rs.length) : Calls Tryz.prog 38 #[.pointer (some ⟨b, 0, none⟩), .int .i64 ((i : Int) + 1)] w fun e w' =>
    ∃ C cc, e = .returned (.tuple #[.agg #[.bool (rth rs i).gone, .slice C fs.length cc], .int .i64 0]) ∧ w'.ownsRow w.heap.size 66 3 (.slice C fs.length cc) fs.length (vs (rth rs i).v) ∧ BagI w' lo b 0 p fs rs t ∧ Mv w w' (fun k => k = b) := by
  obtain ⟨w1, g, e1, h1, s1, kg, x1⟩ := newB w [.bool false, .slice none 0 0] 69
  have H1 := H.ext x1
  have hbg : b ≠ g := by have := H.bk.lt; have := h1.out; omega
  have H2 := H1.turn 1
  have k2 := hid (kg.other (Ne.symm hbg) 0 (.int .i32 1))
  have c0 := H1.bk.at (i := 0) rfl
  have f0 := H1.bk.free 0
  have q := hid (bagLock_any b w1 c0 f0)
  have m2 := hid ((Mv.of (F := fun k => k = b) x1).set (.inl rfl) 0 (.int .i32 1))
  have hl := hE.len
  have H2 := hid H2
  obtain ⟨a0, a1, a2, a3, a4, a5⟩ := H2.out.cells
  have em := H.ow.2.2.2.1
  have hwg := h1.out
  have hlt := hid (fun k (hk : bF b t k) => (show k < g from by have := (H.lt hk).2; have := h1.out; omega))
  have hmx := H.ow.rr.max
  obtain ⟨ad, eB, hg1, hg2, r0, r1, hv⟩ := H2.out.ow.at_ hi
  have hne : ¬ (g = rb (rrth t.rr i)) := fun e => by have := hlt.out _ (.inr (.inr (.inr ⟨i, by rw [H.ow.2.2.1]; exact hi, rfl⟩))); omega
  rw [em] at a4 hmx
  rw [eB] at a4
  have i1 : ¬ ((i : Int) + 1 < 1) := by omega
  have i2 : ¬ ((rs.length : Int) < (i : Int) + 1) := by omega
  have i3 := IntWalk.i64_in ((i : Int) + 1 - 1) (by omega)
  have i4 : ((i : Int) + 1 - 1) = (i : Int) := by omega
  have hri := hi
  have hvl := hv.2.2.1
  clear H H1 c0 f0 x1 kg hg1 hg2 eB em
  go_enter_defers Tryz.func38, Tryz.ntmps38
  go_upto_region 1 with fail
  simp only [e1.out, h1.out]
  clear e1 h1
  go_wp2_with fail
  refine q.out.mono ?_
  rintro e w2 ⟨rfl, rfl⟩
  clear q
  generalize w1.setCell ⟨b, 0, none⟩ (.int .i32 1) = w2 at *
  go_wp2_with fail
  have hR := R2.new w2 (rth rs i).gone (rrth t.rr i).A fs.length (rrth t.rr i).c
  have y3 := Ext.new w2 (.cells #[.bool (rth rs i).gone, .slice (rrth t.rr i).A fs.length (rrth t.rr i).c] 69)
  generalize w2.alloc (.cells #[.bool (rth rs i).gone, .slice (rrth t.rr i).A fs.length (rrth t.rr i).c] 69) = w3 at *
  have hg2 := k2.out.lt
  have hs2 := hid m2.out.size
  obtain ⟨b3, hb3⟩ : ∃ b3, w2.heap.size = b3 := ⟨_, rfl⟩
  simp only [hb3]
  rw [hb3] at hR hg2
  have hne3 : ¬ (b3 = g) := by omega
  have hH3 := hid (H2.out.ext y3)
  have hkg := hid (k2.out.ext y3)
  have hm3 := hid (m2.out.ext y3)
  have hv3 : Hid (OwV w3 lo fs.length (rrth t.rr i) (rth rs i)) := hid (hv.keep (y3.block hv.lt.2))
  have hw3 : w.heap.size ≤ w3.heap.size := hm3.out.size
  have hwb := hid (show w.heap.size ≤ w3.heap.size ∧ w2.heap.size ≤ w3.heap.size from ⟨hw3, y3.size⟩)
  clear a0 a1 a2 a3 a4 a5 r0 r1 hv H2 k2 m2 y3 i1 i2 i3 i4 hmx hb3 hs2
  generalize rrth t.rr i = rx at *
  obtain ⟨gx, Cx, nx, cx⟩ := rx
  generalize hxr : rth rs i = x at *
  obtain rfl : nx = fs.length := hv3.out.2.1
  simp only at hR
  have hcl := hid (fun w' (hm : Mv w3 w' (fun k => k = g)) => clone65 Cx fs.length cx (vs x.v) w' ((hv3.out.keep (hm.at hv3.out.lt.2 (fun e => hne e.symm))).rd.2) (vs_one x.v) (by omega))
  have hG := hkg.out.ext (Ext.refl w3).drew_right
  have xa : (fun w' => Mv w3 w' (fun k => k = g)) w3.drew := (Mv.of (Ext.refl w3).drew_right)
  refine region_J (fun w' => Mv w3 w' (fun k => k = g)) 8 (by kernel_rfl) ?_
  generalize w3.drew = da at * 
  refine JR 0 (v := ?va1) rfl (by kernel_rfl) rfl ?ya1 xa ?ra1
  case ya1 => (intro w hw; (go_simp; with_reducible rfl))
  simp only [Act.put, lyA, lyB, lyC, lyD, lyE, lyF]
  refine JR 1 (v := ?va2) rfl (by kernel_rfl) rfl ?ya2 xa ?ra2
  case ya2 => (intro w hw; obtain ⟨r0, r1, hb⟩ := hR.keep (hw.at hR.2.2 hne3) hw.size; (go_simp; with_reducible rfl))
  simp only [Act.put, lyA, lyB, lyC, lyD, lyE, lyF]
  refine JR 2 (v := ?va3) rfl (by kernel_rfl) rfl ?ya3 xa ?ra3
  case ya3 => (intro w hw; (go_simp; with_reducible rfl))
  simp only [Act.put, lyA, lyB, lyC, lyD, lyE, lyF]
  refine JR 3 (v := ?va4) rfl (by kernel_rfl) rfl ?ya4 xa ?ra4
  case ya4 => (intro w hw; obtain ⟨r0, r1, hb⟩ := hR.keep (hw.at hR.2.2 hne3) hw.size; (go_simp; with_reducible rfl))
  simp only [Act.put, lyA, lyB, lyC, lyD, lyE, lyF]
  refine J_one 4 rfl (by kernel_rfl) (fun K hK => ?_)
  go_simp
  refine (hcl.out _ xa).mono ?_
  rintro e wa5 ⟨B, d, rfl, oa5, hxa5⟩
  have loa5 := (xa).size
  replace hG := hG.ext hxa5
  refine hK _ _ ⟨fun _ => ((xa).ext hxa5), ?_⟩
  clear hK K
  try simp only [Act.put, lyA, lyB, lyC, lyD, lyE, lyF]
  have xa5 : (fun w' => Mv w3 w' (fun k => k = g)) wa5 := ((xa).ext hxa5)
  refine JR 5 (v := ?va6) rfl (by kernel_rfl) rfl ?ya6 xa5 ?ra6
  case ya6 => (intro w hw; (go_simp; with_reducible rfl))
  simp only [Act.put, lyA, lyB, lyC, lyD, lyE, lyF]
  refine J_one 6 rfl (by kernel_rfl) (fun K hK => ?_)
  refine step_store0 rfl 69 _ _ rfl g [.bool x.gone, .slice B fs.length d] rfl rfl hG.hb (by kernel_rfl) (by first | rfl | simp [Value.oneCell']) ?_
  obtain ⟨wa7, ea7, kga7, sza7, ksa7, mva7⟩ := store_bk hG [.bool x.gone, .slice B fs.length d] rfl
  rw [ea7]
  have hxa7 := mva7 _ _ xa5 (.inl rfl)
  clear ea7 mva7
  refine hK _ _ ⟨fun _ => hxa7, ?_⟩
  clear hK K
  try simp only [Act.put, lyA, lyB, lyC, lyD, lyE, lyF]
  have xa7 : (fun w' => Mv w3 w' (fun k => k = g)) wa7 := hxa7
  refine JR 7 (v := ?va8) rfl (by kernel_rfl) rfl ?ya8 xa7 ?ra8
  case ya8 => (intro w hw; (go_simp; with_reducible rfl))
  simp only [Act.put, lyA, lyB, lyC, lyD, lyE, lyF]
  refine J_done (by kernel_rfl) (OnlyOn.normal ?_)
  have hk9 := hid ((xa7).size)
  have hO5 := hid (own_same oa5 (w' := wa7) (fun bb hbb => ksa7 bb (fun e => by have := (oa5.lt bb hbb).1; have := loa5; have := hkg.out.lt; omega)))
  have hH5 := hid (hH3.out.keep (fun k hk => (xa7).at (hH3.out.lt hk).2 (fun e => by have := hlt.out k hk; omega)))
  have hM5 := hid (hm3.out.trans xa7 (fun k (hk : k = g) => .inr (by omega)))
  have c0 := hid (hH5.out.bk.at (i := 0) rfl)
  have g0 := hid (hH5.out.bk.free 0)
  have hO6 := hid (own_same (w' := wa7.setCell ⟨b, 0, none⟩ (.int .i32 0)) (own_baseK hO5.out (by have := hwb.out; have := loa5; have := hkg.out.lt; omega : g ≤ _)) (fun bb hbb => (setCell_at _ b 0 _).2 bb (fun e => by have := (oa5.lt bb hbb).1; have := loa5; have := hwb.out; have := hlt.out b (.inl rfl); omega)))
  have hK6 := hid ((kga7).other (Ne.symm hbg) 0 (.int .i32 0))
  have hH6 := hid (hH5.out.turn 0)
  have hM6 := hid (hM5.out.set (g := b) (.inl rfl) 0 (.int .i32 0))
  go_wp2
  refine leaves_cons (f := 57) (args := #[.pointer (some ⟨b, 0, none⟩)]) (by simp) (by simp [go_sem]) ?_
  refine (unlock_deferred muLib ⟨b, 0, none⟩ .returning _ c0.out g0.out).mono ?_
  rintro e u' w'' ⟨rfl, rfl, rfl⟩
  obtain ⟨k0, k1⟩ := hK6.out.c2
  exact ⟨_, (by simp [results, Tryz.results38, go_sem, k0, k1]), B, d, rfl, hO6.out, hH6.out, hM6.out⟩
end Go.Proofs.YtngoebbmgpdeiaaGreatDoor
