/-
  A node that is read out of bytes; Build of both; The program's depth; the nodes that are made of an index; The program's isTree; What the program asks of nodes and entries: shape, fullness, order.
-/
import Derived.Test.YtjjikkhhlpikbaaGreatDoorQ12
import Derived.Test.YtjjikkhhlpikbaaGreatDoorQ10
import Derived.Test.YtjjikkhhlpikbaaGreatDoorQ11
set_option maxRecDepth 100000
set_option maxHeartbeats 40000000
set_option linter.unusedVariables false
set_option linter.unusedSimpArgs false
namespace Go.Proofs.YtjjikkhhlpikbaaGreatDoor
open Go.RowKit Go.Shelf
def kStep (p : Nx × St) : Nx × St :=
  (⟨p.1.keys ++ [strI (tk (oneV p.2).toNat (tk 1 p.2).2).1], p.1.recs ++ [twoV (tk (oneV p.2).toNat (tk 1 p.2).2).2], p.1.kids⟩, (tk 2 (tk (oneV p.2).toNat (tk 1 p.2).2).2).2)
def dStep (p : Nx × St) : Nx × St := (⟨p.1.keys, p.1.recs, p.1.kids ++ [twoV p.2]⟩, (tk 2 p.2).2)
def stepG (g : Bool) (F : Nx × St → Nx × St) (p : Nx × St) : Nx × St := if (g && !p.2.ok) = true then p else F p
def itG (g : Bool) (F : Nx × St → Nx × St) : Nat → Nx × St → Nx × St
  | 0, p => p
  | n + 1, p => stepG g F (itG g F n p)
def node0 (s : St) : Nx × St := (⟨[], [], []⟩, (tk 1 (tk 1 s).2).2)
def nodeF (g : Bool) (s : St) : Nx × St := itG g dStep (oneV (tk 1 s).2).toNat (itG g kStep (oneV s).toNat (node0 s))
theorem one_rng {s : St} (h : isB s.l) : 0 ≤ oneV s ∧ oneV s ≤ 255 := nth_isB (tk_isB h).1 0
theorem two_rng {s : St} (h : isB s.l) : 0 ≤ twoV s ∧ twoV s ≤ 65535 := by
  have h1 := nth_isB (tk_isB (n := 2) h).1 0
  have h2 := nth_isB (tk_isB (n := 2) h).1 1
  unfold twoV
  omega
theorem it_len {g : Bool} {F : Nx × St → Nx × St} {Q : Nx → Nat} (hF : ∀ p, Q (F p).1 ≤ Q p.1 + 1) {p : Nx × St} : ∀ n, Q (itG g F n p).1 ≤ Q p.1 + n
  | 0 => Nat.le_refl _
  | n + 1 => by
    have ih := it_len (g := g) hF (p := p) n
    unfold itG stepG
    split
    · omega
    · have := hF (itG g F n p); omega
theorem k_len (p : Nx × St) : (kStep p).1.keys.length ≤ p.1.keys.length + 1 ∧ (kStep p).1.recs.length ≤ p.1.recs.length + 1 ∧ (kStep p).1.kids = p.1.kids := by simp [kStep]
theorem d_len (p : Nx × St) : (dStep p).1.kids.length ≤ p.1.kids.length + 1 ∧ (dStep p).1.keys = p.1.keys ∧ (dStep p).1.recs = p.1.recs := by simp [dStep]
structure NDx (w0 w : World) (r y : Nat) (kv rv dv : Value) (x : Nx) : Prop where
  hy : w.heap[y]? = some (.cells #[kv, rv, dv] 113 (0, 0))
  ok : w.ownsRow w0.heap.size 9 1 kv x.keys.length (strv x.keys)
  or_ : w.ownsRow w0.heap.size 3 1 rv x.recs.length (ints x.recs)
  od : w.ownsRow w0.heap.size 3 1 dv x.kids.length (ints x.kids)
  nd : ∀ a, one1 y a + ob kv a + ob rv a + ob dv a ≤ 1
  yl : w0.heap.size ≤ y
  fr : FR (one1 r) w0 w
  rl : r < w0.heap.size
theorem nd3_set2 {w : World} {p : Nat} {a b c : Value} {t : TypeId} (h : w.heap[p]? = some (.cells #[a, b, c] t (0, 0))) (u : Value) : (w.setCell ⟨p, 2, none⟩ u).heap[p]? = some (.cells #[a, b, u] t (0, 0)) := by
  simp [World.setCell, Array.getElem?_modify, h]
section
variable {w0 w w' : World} {r y : Nat} {kv rv dv : Value} {x : Nx}
theorem NDx.up (h : NDx w0 w r y kv rv dv x) (hF : FR (one1 r) w w') : NDx w0 w' r y kv rv dv x := by
  have hr := h.rl
  have hy := h.yl
  have hz : ∀ a, w0.heap.size ≤ a → one1 r a = 0 := fun a ha => if_neg (by omega)
  exact ⟨(hF.2.2.2.2 y (Array.getElem?_eq_some_iff.1 h.hy).1 (hz y hy)).trans h.hy, hF.own h.ok (fun k e => hz k (own_freshB h.ok k e)), hF.own h.or_ (fun k e => hz k (own_freshB h.or_ k e)), hF.own h.od (fun k e => hz k (own_freshB h.od k e)), h.nd, hy, h.fr.trans hF (fun _ _ h => h), hr⟩
theorem NDx.start (w0 : World) (hr : r < w0.heap.size) : NDx w0 (w0.alloc (.cells #[.slice none 0 0, .slice none 0 0, .slice none 0 0] 113)) r w0.heap.size (.slice none 0 0) (.slice none 0 0) (.slice none 0 0) ⟨[], [], []⟩ := by
  have hnil : ∀ a, ob (.slice none 0 0) a = 0 := fun a => if_neg (by intro e; cases e)
  refine ⟨heap_alloc_new w0 _, World.ownsRow_nil _ _ _ _, World.ownsRow_nil _ _ _ _, World.ownsRow_nil _ _ _ _, fun a => ?_, Nat.le_refl _, FR.of_ext ((Ext.refl w0).alloc_right _), hr⟩
  rw [hnil a]
  unfold one1
  split <;> omega
theorem NDx.add0 (h : NDx w0 w r y kv rv dv x) {w2 w3 : World} {v' : Value} {s : ByteArray} (hx : Ext w w2) (hg : w2.grownBy w3 kv.ownBlock) (ho : w3.ownsRow w0.heap.size 9 1 v' (x.keys ++ [s]).length (strv (x.keys ++ [s]))) (hl : v'.ownBlock = kv.ownBlock ∨ ∀ k, v'.ownBlock = some k → w2.heap.size ≤ k) :
    NDx w0 (w3.setCell ⟨y, 0, none⟩ v') r y v' rv dv ⟨x.keys ++ [s], x.recs, x.kids⟩ ∧ FR (fun a => ob kv a + one1 y a) w (w3.setCell ⟨y, 0, none⟩ v') ∧ w3.heap[y]? = some (.cells #[kv, rv, dv] 113 (0, 0)) := by
  have H2 := h.up (FR.of_ext hx)
  have hny := h.nd y
  rw [one_self] at hny
  have hyl := (Array.getElem?_eq_some_iff.1 h.hy).1
  have hsz := hx.size
  have hk'y : ob v' y = 0 := by
    rcases hl with e | e
    · rw [ob_same e]; omega
    · exact if_neg (fun e2 => by have := e y e2; omega)
  have h3 : w3.heap[y]? = some (.cells #[kv, rv, dv] 113 (0, 0)) := (hg.block y (Array.getElem?_eq_some_iff.1 H2.hy).1 (fun e => by rw [ob_some e.symm] at hny; omega)).trans H2.hy
  have hF : FR (fun a => ob kv a + one1 y a) w (w3.setCell ⟨y, 0, none⟩ v') := ((FR.of_ext hx).trans ((FR.of_grown hg (f := ob kv) (fun k e => by rw [ob_some (by first | exact e | exact e.symm)]; exact Nat.one_pos)).mono (f' := fun a => ob kv a + one1 y a) (fun k _ h0 => by show ob kv k = 0; omega)) (fun k _ h0 => h0)).trans (fr_set (b := y)) (fun k _ h0 => by show one1 y k = 0; omega)
  refine ⟨⟨nd3_set0 h3 _, own_set ho (ob_zero hk'y) _ _, own_set (own_ne H2.or_ hg (fun k e e2 => by have := h.nd k; rw [ob_some e, ob_some e2] at this; omega)) (fun e => by have := h.nd y; rw [ob_some e, one_self] at this; omega) _ _, own_set (own_ne H2.od hg (fun k e e2 => by have := h.nd k; rw [ob_some e, ob_some e2] at this; omega)) (fun e => by have := h.nd y; rw [ob_some e, one_self] at this; omega) _ _, fun a => ?_, h.yl, h.fr.trans hF (fun k hk h0 => ?_), h.rl⟩, hF, h3⟩
  · have hn := h.nd a
    rcases hl with e | e
    · rw [ob_same e]; exact hn
    · by_cases e2 : v'.ownBlock = some a
      · have ha := e a e2
        have := own_bound h.ok (show w.heap.size ≤ a by omega)
        have := own_bound h.or_ (show w.heap.size ≤ a by omega)
        have := own_bound h.od (show w.heap.size ≤ a by omega)
        have : one1 y a = 0 := if_neg (by omega)
        have : ob v' a ≤ 1 := by unfold ob; split <;> omega
        omega
      · rw [show ob v' a = 0 from if_neg e2]; omega
  · have : ob kv k = 0 := if_neg (fun e => by have := own_freshB h.ok _ e; omega)
    have : one1 y k = 0 := if_neg (by have := h.yl; omega)
    show ob kv k + one1 y k = 0
    omega
theorem NDx.add1 (h : NDx w0 w r y kv rv dv x) {w2 w3 : World} {v' : Value} {s : Int} (hx : Ext w w2) (hg : w2.grownBy w3 rv.ownBlock) (ho : w3.ownsRow w0.heap.size 3 1 v' (x.recs ++ [s]).length (ints (x.recs ++ [s]))) (hl : v'.ownBlock = rv.ownBlock ∨ ∀ k, v'.ownBlock = some k → w2.heap.size ≤ k) :
    NDx w0 (w3.setCell ⟨y, 1, none⟩ v') r y kv v' dv ⟨x.keys, x.recs ++ [s], x.kids⟩ ∧ FR (fun a => ob rv a + one1 y a) w (w3.setCell ⟨y, 1, none⟩ v') ∧ w3.heap[y]? = some (.cells #[kv, rv, dv] 113 (0, 0)) := by
  have H2 := h.up (FR.of_ext hx)
  have hny := h.nd y
  rw [one_self] at hny
  have hyl := (Array.getElem?_eq_some_iff.1 h.hy).1
  have hsz := hx.size
  have hk'y : ob v' y = 0 := by
    rcases hl with e | e
    · rw [ob_same e]; omega
    · exact if_neg (fun e2 => by have := e y e2; omega)
  have h3 : w3.heap[y]? = some (.cells #[kv, rv, dv] 113 (0, 0)) := (hg.block y (Array.getElem?_eq_some_iff.1 H2.hy).1 (fun e => by rw [ob_some e.symm] at hny; omega)).trans H2.hy
  have hF : FR (fun a => ob rv a + one1 y a) w (w3.setCell ⟨y, 1, none⟩ v') := ((FR.of_ext hx).trans ((FR.of_grown hg (f := ob rv) (fun k e => by rw [ob_some (by first | exact e | exact e.symm)]; exact Nat.one_pos)).mono (f' := fun a => ob rv a + one1 y a) (fun k _ h0 => by show ob rv k = 0; omega)) (fun k _ h0 => h0)).trans (fr_set (b := y)) (fun k _ h0 => by show one1 y k = 0; omega)
  refine ⟨⟨nd3_set1 h3 _, own_set (own_ne H2.ok hg (fun k e e2 => by have := h.nd k; rw [ob_some e, ob_some e2] at this; omega)) (fun e => by have := h.nd y; rw [ob_some e, one_self] at this; omega) _ _, own_set ho (ob_zero hk'y) _ _, own_set (own_ne H2.od hg (fun k e e2 => by have := h.nd k; rw [ob_some e, ob_some e2] at this; omega)) (fun e => by have := h.nd y; rw [ob_some e, one_self] at this; omega) _ _, fun a => ?_, h.yl, h.fr.trans hF (fun k hk h0 => ?_), h.rl⟩, hF, h3⟩
  · have hn := h.nd a
    rcases hl with e | e
    · rw [ob_same e]; exact hn
    · by_cases e2 : v'.ownBlock = some a
      · have ha := e a e2
        have := own_bound h.ok (show w.heap.size ≤ a by omega)
        have := own_bound h.or_ (show w.heap.size ≤ a by omega)
        have := own_bound h.od (show w.heap.size ≤ a by omega)
        have : one1 y a = 0 := if_neg (by omega)
        have : ob v' a ≤ 1 := by unfold ob; split <;> omega
        omega
      · rw [show ob v' a = 0 from if_neg e2]; omega
  · have : ob rv k = 0 := if_neg (fun e => by have := own_freshB h.or_ _ e; omega)
    have : one1 y k = 0 := if_neg (by have := h.yl; omega)
    show ob rv k + one1 y k = 0
    omega
theorem NDx.add2 (h : NDx w0 w r y kv rv dv x) {w2 w3 : World} {v' : Value} {s : Int} (hx : Ext w w2) (hg : w2.grownBy w3 dv.ownBlock) (ho : w3.ownsRow w0.heap.size 3 1 v' (x.kids ++ [s]).length (ints (x.kids ++ [s]))) (hl : v'.ownBlock = dv.ownBlock ∨ ∀ k, v'.ownBlock = some k → w2.heap.size ≤ k) :
    NDx w0 (w3.setCell ⟨y, 2, none⟩ v') r y kv rv v' ⟨x.keys, x.recs, x.kids ++ [s]⟩ ∧ FR (fun a => ob dv a + one1 y a) w (w3.setCell ⟨y, 2, none⟩ v') ∧ w3.heap[y]? = some (.cells #[kv, rv, dv] 113 (0, 0)) := by
  have H2 := h.up (FR.of_ext hx)
  have hny := h.nd y
  rw [one_self] at hny
  have hyl := (Array.getElem?_eq_some_iff.1 h.hy).1
  have hsz := hx.size
  have hk'y : ob v' y = 0 := by
    rcases hl with e | e
    · rw [ob_same e]; omega
    · exact if_neg (fun e2 => by have := e y e2; omega)
  have h3 : w3.heap[y]? = some (.cells #[kv, rv, dv] 113 (0, 0)) := (hg.block y (Array.getElem?_eq_some_iff.1 H2.hy).1 (fun e => by rw [ob_some e.symm] at hny; omega)).trans H2.hy
  have hF : FR (fun a => ob dv a + one1 y a) w (w3.setCell ⟨y, 2, none⟩ v') := ((FR.of_ext hx).trans ((FR.of_grown hg (f := ob dv) (fun k e => by rw [ob_some (by first | exact e | exact e.symm)]; exact Nat.one_pos)).mono (f' := fun a => ob dv a + one1 y a) (fun k _ h0 => by show ob dv k = 0; omega)) (fun k _ h0 => h0)).trans (fr_set (b := y)) (fun k _ h0 => by show one1 y k = 0; omega)
  refine ⟨⟨nd3_set2 h3 _, own_set (own_ne H2.ok hg (fun k e e2 => by have := h.nd k; rw [ob_some e, ob_some e2] at this; omega)) (fun e => by have := h.nd y; rw [ob_some e, one_self] at this; omega) _ _, own_set (own_ne H2.or_ hg (fun k e e2 => by have := h.nd k; rw [ob_some e, ob_some e2] at this; omega)) (fun e => by have := h.nd y; rw [ob_some e, one_self] at this; omega) _ _, own_set ho (ob_zero hk'y) _ _, fun a => ?_, h.yl, h.fr.trans hF (fun k hk h0 => ?_), h.rl⟩, hF, h3⟩
  · have hn := h.nd a
    rcases hl with e | e
    · rw [ob_same e]; exact hn
    · by_cases e2 : v'.ownBlock = some a
      · have ha := e a e2
        have := own_bound h.ok (show w.heap.size ≤ a by omega)
        have := own_bound h.or_ (show w.heap.size ≤ a by omega)
        have := own_bound h.od (show w.heap.size ≤ a by omega)
        have : one1 y a = 0 := if_neg (by omega)
        have : ob v' a ≤ 1 := by unfold ob; split <;> omega
        omega
      · rw [show ob v' a = 0 from if_neg e2]; omega
  · have : ob dv k = 0 := if_neg (fun e => by have := own_freshB h.od _ e; omega)
    have : one1 y k = 0 := if_neg (by have := h.yl; omega)
    show ob dv k + one1 y k = 0
    omega
end
theorem conv_nil (c : Nat) (w : World) : (convert 84 9 (.slice none 0 c)).run Tryz.prog w = .ok (.string (strI [])) w := by
  have hu := Tryz.runUnderlying84
  have hu2 := Tryz.runUnderlying9
  have hu3 := Tryz.runUnderlying5
  simp [convert, hu, hu2, hu3, strI, Conv.bytesToString, Builtin.firstCells]
  rfl
theorem conv_any {w : World} {A : Option Addr} {n c : Nat} {l : List Int} (h : RdB w A n c l) : (convert 84 9 (.slice A n c)).run Tryz.prog w = .ok (.string (strI l)) w := by
  cases A with
  | some a => exact conv_rd h
  | none =>
    have hn : n = 0 := by
      rcases Nat.eq_zero_or_pos n with h0 | h0
      · exact h0
      · obtain ⟨ad, e, _⟩ := h.1.2.2.2 h0
        cases e
    subst hn
    have hl : l = [] := List.eq_nil_of_length_eq_zero h.len
    subst hl
    exact conv_nil c w
theorem put3 {w : World} {b : Nat} {a0 a1 a2 : Value} {t : TypeId} (h : w.heap[b]? = some (.cells #[a0, a1, a2] t (0, 0))) (v0 v1 v2 : Value) : (((w.setCell ⟨b, 0, none⟩ v0).setCell ⟨b, 1, none⟩ v1).setCell ⟨b, 2, none⟩ v2).heap[b]? = some (.cells #[v0, v1, v2] t (0, 0)) := nd3_set2 (nd3_set1 (nd3_set0 h v0) v1) v2
def GiveNd (B r : Nat) (x : Nx) (s' : St) (w : World) (e : Ending) (w' : World) : Prop := ∃ kv rv dv g, e = .returned (.agg #[kv, rv, dv]) ∧ NR w' w.heap.size ⟨kv, rv, dv⟩ x g ∧ (∀ a, g a ≤ 1) ∧ RP B w' r s' ∧ FR (one1 r) w w'
theorem node_any (B r : Nat) (s0 : St) (w : World) (h : RP B w r s0) (hB : B ≤ w.heap.size) : Calls Tryz.prog 66 #[.pointer (some ⟨r, 0, none⟩)] w (GiveNd B r (nodeF false s0).1 (nodeF false s0).2 w) := by
  obtain ⟨iS, hS0, hS1, hS2, hS3⟩ := info_parts infoS
  obtain ⟨iI, hI0, hI1, hI2, hI3⟩ := info_parts infoI
  have hisB := h.isB
  have hr1 := one_rng hisB
  have hr2 := one_rng (tk_isB (n := 1) hisB).2
  have hb2 := (tk_isB (n := 1) (tk_isB (n := 1) hisB).2).2
  obtain ⟨k1, hk1⟩ : ∃ k1, (oneV s0).toNat = k1 := ⟨_, rfl⟩
  obtain ⟨k2, hk2⟩ : ∃ k2, (oneV (tk 1 s0).2).toNat = k2 := ⟨_, rfl⟩
  have ho1 : oneV s0 = (k1 : Int) := by omega
  have ho2 : oneV (tk 1 s0).2 = (k2 : Int) := by omega
  have hk1b : k1 ≤ 255 := by omega
  have hk2b : k2 ≤ 255 := by omega
  have hNF : Hid (nodeF false s0 = itG false dStep k2 (itG false kStep k1 (node0 s0))) := by unfold Hid nodeF; rw [hk1, hk2]
  have hp0 : Hid ((node0 s0).2 = (tk 1 (tk 1 s0).2).2 ∧ (node0 s0).1 = ⟨[], [], []⟩ ∧ isB (node0 s0).2.l) := ⟨rfl, rfl, hb2⟩
  generalize nodeF false s0 = NF at *
  generalize node0 s0 = p0 at *
  have hc1 := hid (fun w' (hx : Ext w w') => one_any B r s0 w' (h.ext hx))
  rw [ho1] at hc1
  have hrB : r < B := by obtain ⟨_, _, _, _, _, _, h5⟩ := h; exact h5
  clear h hk1 hk2 ho1 hr1 hr2 hisB hb2
  replace ho2 := hid ho2
  have hq0 := heap_alloc_new w (.cells #[.slice none 0 0, .slice none 0 0, .slice none 0 0] 113)
  have hxq := hid ((Ext.refl w).alloc_right (.cells #[.slice none 0 0, .slice none 0 0, .slice none 0 0] 113))
  have hwq : Hid ((w.alloc (.cells #[.slice none 0 0, .slice none 0 0, .slice none 0 0] 113)).heap.size = w.heap.size + 1) := World.size_alloc _ _
  have hN0 := hid (NDx.start (r := r) (w.alloc (.cells #[.slice none 0 0, .slice none 0 0, .slice none 0 0] 113)) (by rw [hwq.out]; omega))
  have hxy := (Ext.refl (w.alloc (.cells #[.slice none 0 0, .slice none 0 0, .slice none 0 0] 113))).alloc_right (.cells #[.slice none 0 0, .slice none 0 0, .slice none 0 0] 113)
  replace hxy := hid (hxq.out.trans hxy)
  rw [hwq.out] at hN0
  replace hq0 := hid hq0
  go_enter Tryz.func66, Tryz.ntmps66
  go_upto_region 2 with fail
  obtain ⟨q, hq⟩ : ∃ q, q = w.heap.size := ⟨_, rfl⟩
  obtain ⟨y, hy⟩ : ∃ y, y = q + 1 := ⟨_, rfl⟩
  try simp only [World.size_alloc]
  rw [← hq] at hN0 hq0 hwq
  simp only [← hq]
  rw [← hy] at hN0 hwq
  simp only [← hy]
  generalize w.alloc (.cells #[.slice none 0 0, .slice none 0 0, .slice none 0 0] 113) = w0 at *
  generalize w0.alloc (.cells #[.slice none 0 0, .slice none 0 0, .slice none 0 0] 113) = w1 at *
  have hB0 : B ≤ w0.heap.size := by have := hwq.out; omega
  replace hq := hid hq
  replace hy := hid hy
  replace hwq := hid hwq.out
  go_wp2_with fail
  refine (hc1.out _ hxy.out).mono ?_
  rintro e w2 ⟨rfl, hP2, hF2⟩
  have hO2 := one_any B r _ w2 hP2
  rw [ho2.out, ← hp0.out.1] at hO2
  replace hN0 := hid (hN0.out.up hF2)
  replace hO2 := hid hO2
  clear hc1 hP2 hF2
  go_wp2_with fail
  refine hO2.out.mono ?_
  rintro e w3 ⟨rfl, hP3, hF3⟩
  replace hN0 := hid (hN0.out.up hF3)
  rw [← hp0.out.2.1] at hN0
  replace hP3 := hid hP3
  clear hF3 hO2 hxy
  have hL1 := hid (fun q => it_len (g := false) (F := kStep) (Q := fun x => x.keys.length) (fun p => (k_len p).1) (p := p0) q)
  have hL2 := hid (fun q => it_len (g := false) (F := kStep) (Q := fun x => x.recs.length) (fun p => (k_len p).2.1) (p := p0) q)
  go_wp2_with fail
  go_loopw [11] (fun i wr => ∃ (j : Nat) (kv rv dv : Value), j ≤ k1 ∧ i = .int .i64 j ∧ Hid (NDx w0 wr r y kv rv dv (itG false kStep j p0).1) ∧ Hid (RP B wr r (itG false kStep j p0).2)) (fun i _ => k1 - (intOf i).toNat)
  case atStart => exact ⟨0, _, _, _, by omega, rfl, hN0, hP3⟩
  case round =>
    clear hN0 hP3
    obtain ⟨j, kv, rv, dv, hj, rfl, hN, hP⟩ := hrel
    by_cases hlt : j < k1
    · have hl1 := hL1.out j
      have hl2 := hL2.out j
      rw [hp0.out.2.1] at hl1 hl2
      dsimp only [List.length_nil] at hl1 hl2
      have hst : Hid (itG false kStep (j + 1) p0 = kStep (itG false kStep j p0)) := rfl
      have hji : (j : Int) < (k1 : Int) := by omega
      generalize itG false kStep j p0 = p at *
      obtain ⟨s, hs⟩ : ∃ s, s = p.2 := ⟨_, rfl⟩
      have hr9 := one_rng (hP.out.isB)
      rw [← hs] at hr9 hP
      obtain ⟨m, hm⟩ : ∃ m : Nat, oneV s = (m : Int) := ⟨(oneV s).toNat, by omega⟩
      have hmb : m ≤ 255 := by omega
      have hkS : Hid (kStep p = (⟨p.1.keys ++ [strI (tk m (tk 1 s).2).1], p.1.recs ++ [twoV (tk m (tk 1 s).2).2], p.1.kids⟩, (tk 2 (tk m (tk 1 s).2).2).2)) := by
        have e : (oneV p.2).toNat = m := by rw [← hs]; omega
        unfold Hid kStep
        rw [e, ← hs]
      replace hm := hid hm
      replace hs := hid hs
      obtain ⟨Ak, ck, rfl, -⟩ := own_form hN.out.ok
      obtain ⟨Ar, cr, rfl, -⟩ := own_form hN.out.or_
      clear hr9
      go_upto_region 5 with fail
      have I0 : (fun w' : World => w'.cell? ⟨y, 0, none⟩ = some (.slice Ak p.1.keys.length ck)) wr.drew := (nd3_c hN.out.hy).1
      refine region_J (fun w' : World => w'.cell? ⟨y, 0, none⟩ = some (.slice Ak p.1.keys.length ck)) 10 (by kernel_rfl) ?_
      replace hN := hid (hN.out.up (FR.of_ext ((Ext.refl wr).drew_right)))
      replace hP := hid (hP.out.ext ((Ext.refl wr).drew_right))
      generalize wr.drew = w9 at *
      refine JT 0 (v := ?vka0) I0 ?yka0 ?rka0
      case yka0 => (intro w h; have := h; go_simp; with_reducible rfl)
      simp only [Act.put, lyA, lyB, lyC, lyD, lyE, lyF]
      refine JT 1 (v := ?vka1) I0 ?yka1 ?rka1
      case yka1 => (intro w h; have := h; go_simp; with_reducible rfl)
      simp only [Act.put, lyA, lyB, lyC, lyD, lyE, lyF]
      refine JT 2 (v := ?vka2) I0 ?yka2 ?rka2
      case yka2 => (intro w h; have := h; go_simp; with_reducible rfl)
      simp only [Act.put, lyA, lyB, lyC, lyD, lyE, lyF]
      refine JT 3 (v := ?vka3) I0 ?yka3 ?rka3
      case yka3 => (intro w h; have := h; go_simp; with_reducible rfl)
      simp only [Act.put, lyA, lyB, lyC, lyD, lyE, lyF]
      refine J_one 4 rfl (by kernel_rfl) (fun K hK => ?_)
      go_simp
      have hO := one_any B r s w9 hP.out
      rw [hm.out] at hO
      refine hO.mono ?_
      rintro e' w10 ⟨rfl, hP10, hF10⟩
      clear hO
      have hN10 := hid (hN.out.up hF10)
      have I1 : (fun w' : World => w'.cell? ⟨y, 0, none⟩ = some (.slice Ak p.1.keys.length ck)) w10 := (nd3_c hN10.out.hy).1
      clear hN hP I0 hF10
      refine hK _ _ ⟨fun _ => I1, ?_⟩
      clear hK K
      try simp only [Act.put, lyA, lyB, lyC, lyD, lyE, lyF]
      refine J_one 5 rfl (by kernel_rfl) (fun K hK => ?_)
      go_simp
      refine (take_any B r m _ w10 hP10 (by omega)).mono ?_
      rintro e' w11 ⟨Ab, cb, rfl, hRb, hP11, hF11, -⟩
      have hN11 := hid (hN10.out.up hF11)
      have I2 : (fun w' : World => w'.cell? ⟨y, 0, none⟩ = some (.slice Ak p.1.keys.length ck)) w11 := (nd3_c hN11.out.hy).1
      have hcv := conv_any hRb
      replace hP11 := hid hP11
      clear hN10 hP10 I1 hF11 hRb
      refine hK _ _ ⟨fun _ => I2, ?_⟩
      clear hK K
      try simp only [Act.put, lyA, lyB, lyC, lyD, lyE, lyF]
      refine J_one 6 rfl (by kernel_rfl) (fun K hK => ?_)
      go_simp
      refine hK _ _ ⟨fun _ => I2, ?_⟩
      clear hK K hcv
      try simp only [Act.put, lyA, lyB, lyC, lyD, lyE, lyF]
      obtain ⟨S9, hS9⟩ : ∃ S9, S9 = strI (tk m (tk 1 s).2).1 := ⟨_, rfl⟩
      simp only [← hS9]
      replace hS9 := hid hS9
      have hxb := (Ext.refl w11).alloc_right (.cells #[.string S9] 9)
      have hRn : Rd (w11.alloc (.cells #[.string S9] 9)) 1 (some ⟨w11.heap.size, 0, none⟩) 1 1 (strv [S9]) := rd_new1 w11 _ _
      have hB9 : w0.heap.size ≤ (w11.alloc (.cells #[.string S9] 9)).heap.size := Nat.le_trans hN11.out.fr.2.2.2.1 hxb.size
      obtain ⟨kv', w12, happ, own3, hgr, hloc⟩ := app_at _ w0.heap.size 38 38 9 iS _ 1 16 Tryz.underlying38 hS0 hS1 hS2 hS3 rfl (by decide) _ _ _ (hxb.own hN11.out.ok) _ 1 1 _ hRn (strv_one [S9]) (by unfold maxLen; omega) (by omega) hB9
      rw [← strv_app] at own3
      have hlk : (p.1.keys ++ [S9]).length = p.1.keys.length + 1 := by simp
      obtain ⟨hNs, hFs, hy12⟩ := hN11.out.add0 (s := S9) hxb hgr (by rw [hlk]; exact own3) hloc
      have hPs := hid (hP11.out.fr hFs (fun a ha => by have h7 := own_freshB hN11.out.ok; have h6 := hN11.out.yl; show ob _ a + one1 y a = 0; rw [show ob _ a = 0 from if_neg (fun e => by have := h7 a e; omega), show one1 y a = 0 from if_neg (by omega)]))
      replace hNs := hid hNs
      obtain ⟨Ak', ck', rfl, -⟩ := own_form own3
      have I2' : (fun w' : World => w'.cell? ⟨y, 0, none⟩ = some (.slice Ak p.1.keys.length ck)) (w11.alloc (.cells #[.string S9] 9)) := hxb.cell I2
      have z12 := nd3_c hy12
      have I3 : (fun w' : World => w'.cell? ⟨y, 0, none⟩ = some (.slice Ak p.1.keys.length ck)) w12 := z12.1
      have f12 := Lib.frozen_of_heap hy12 0
      have l12 := (Array.getElem?_eq_some_iff.1 hy12).1
      replace happ := hid happ
      clear hRn own3 hgr hloc hFs hy12 hxb hN11 hP11 hB9
      refine J_one 7 rfl (by kernel_rfl) (fun K hK => ?_)
      go_simp
      refine hK _ _ ⟨fun _ => I2', ?_⟩
      clear hK K
      try simp only [Act.put, lyA, lyB, lyC, lyD, lyE, lyF]
      generalize w11.heap.size = qb at *
      generalize w11.alloc (.cells #[.string S9] 9) = w11' at *
      refine J_one 8 rfl (by kernel_rfl) (fun K hK => ?_)
      refine step_run rfl _ (ex_append _ _ _ _ rfl _ _ (by simp [Act.eval, Act.put]) (by simp [Act.eval, Act.put]) _ happ.out) ?_
      refine hK _ _ ⟨fun _ => I3, ?_⟩
      clear hK K happ I2 I2'
      try simp only [Act.put, lyA, lyB, lyC, lyD, lyE, lyF]
      refine J_one 9 rfl (by kernel_rfl) (fun K hK => ?_)
      go_simp
      refine hK _ _ ⟨fun _ => I3, ?_⟩
      clear hK K
      try simp only [Act.put, lyA, lyB, lyC, lyD, lyE, lyF]
      obtain ⟨z12, -, -⟩ := z12
      refine J_one 10 rfl (by kernel_rfl) (fun K hK => ?_)
      go_simp
      refine hK _ _ ⟨fun h => absurd rfl h, ?_⟩
      clear hK K
      refine J_done (by kernel_rfl) (OnlyOn.normal ?_)
      clear I3 z12 f12 l12
      have hN := hNs
      have hP := hPs
      clear hNs hPs
      generalize w12.setCell ⟨y, 0, none⟩ (.slice Ak' (p.1.keys.length + 1) ck') = wr at *
      clear hlk
      go_upto_region 6 with fail
      have I0 : (fun w' : World => w'.cell? ⟨y, 1, none⟩ = some (.slice Ar p.1.recs.length cr)) wr.drew := (nd3_c hN.out.hy).2.1
      refine region_J (fun w' : World => w'.cell? ⟨y, 1, none⟩ = some (.slice Ar p.1.recs.length cr)) 7 (by kernel_rfl) ?_
      replace hN := hid (hN.out.up (FR.of_ext ((Ext.refl wr).drew_right)))
      replace hP := hid (hP.out.ext ((Ext.refl wr).drew_right))
      generalize wr.drew = w9 at *
      refine JT 0 (v := ?via0) I0 ?yia0 ?ria0
      case yia0 => (intro w h; have := h; go_simp; with_reducible rfl)
      simp only [Act.put, lyA, lyB, lyC, lyD, lyE, lyF]
      refine JT 1 (v := ?via1) I0 ?yia1 ?ria1
      case yia1 => (intro w h; have := h; go_simp; with_reducible rfl)
      simp only [Act.put, lyA, lyB, lyC, lyD, lyE, lyF]
      refine JT 2 (v := ?via2) I0 ?yia2 ?ria2
      case yia2 => (intro w h; have := h; go_simp; with_reducible rfl)
      simp only [Act.put, lyA, lyB, lyC, lyD, lyE, lyF]
      refine J_one 3 rfl (by kernel_rfl) (fun K hK => ?_)
      go_simp
      refine (two_any B r (tk m (tk 1 s).2).2 w9 hP.out).mono ?_
      rintro e' w10 ⟨rfl, hP10, hF10⟩
      have hN10 := hid (hN.out.up hF10)
      replace hP10 := hid hP10
      have I1 : (fun w' : World => w'.cell? ⟨y, 1, none⟩ = some (.slice Ar p.1.recs.length cr)) w10 := (nd3_c hN10.out.hy).2.1
      clear hN hP I0 hF10
      refine hK _ _ ⟨fun _ => I1, ?_⟩
      clear hK K
      try simp only [Act.put, lyA, lyB, lyC, lyD, lyE, lyF]
      obtain ⟨Z9, hZ9⟩ : ∃ Z9, Z9 = twoV (tk m (tk 1 s).2).2 := ⟨_, rfl⟩
      simp only [← hZ9]
      replace hZ9 := hid hZ9
      have hxb := (Ext.refl w10).alloc_right (.cells #[.int .i64 Z9] 3)
      have hRn : RdI (w10.alloc (.cells #[.int .i64 Z9] 3)) (some ⟨w10.heap.size, 0, none⟩) 1 1 [Z9] := rd_new1 w10 _ _
      have hB9 : w0.heap.size ≤ (w10.alloc (.cells #[.int .i64 Z9] 3)).heap.size := Nat.le_trans hN10.out.fr.2.2.2.1 hxb.size
      have how9 : (w10.alloc (.cells #[.int .i64 Z9] 3)).ownsRow w0.heap.size 3 1 (.slice Ar p.1.recs.length cr) p.1.recs.length (ints p.1.recs) := hxb.own hN10.out.or_
      obtain ⟨v', w12, happ, own3, hgr, hloc⟩ := app_at _ w0.heap.size 23 23 3 iI _ 1 8 Tryz.underlying23 hI0 hI1 hI2 hI3 rfl (by decide) _ _ _ how9 _ 1 1 _ hRn (ints_one [Z9]) (by unfold maxLen; omega) (by omega) hB9
      rw [← ints_append] at own3
      have hlk : (p.1.recs ++ [Z9]).length = p.1.recs.length + 1 := by simp
      obtain ⟨hNs, hFs, hy12⟩ := hN10.out.add1 (s := Z9) hxb hgr (by rw [hlk]; exact own3) hloc
      have hPs := hid (hP10.out.fr hFs (fun a ha => by have h7 := own_freshB hN10.out.or_; have h6 := hN10.out.yl; show ob _ a + one1 y a = 0; rw [show ob _ a = 0 from if_neg (fun e => by have := h7 a e; omega), show one1 y a = 0 from if_neg (by omega)]))
      replace hNs := hid hNs
      obtain ⟨A9, c9, rfl, -⟩ := own_form own3
      have I2' : (fun w' : World => w'.cell? ⟨y, 1, none⟩ = some (.slice Ar p.1.recs.length cr)) (w10.alloc (.cells #[.int .i64 Z9] 3)) := hxb.cell I1
      have z12 := (nd3_c hy12).2.1
      have I3 : (fun w' : World => w'.cell? ⟨y, 1, none⟩ = some (.slice Ar p.1.recs.length cr)) w12 := z12
      have f12 := Lib.frozen_of_heap hy12 1
      have l12 := (Array.getElem?_eq_some_iff.1 hy12).1
      replace happ := hid happ
      clear hRn own3 hgr hloc hFs hy12 hxb hN10 hP10 hB9 how9
      refine J_one 4 rfl (by kernel_rfl) (fun K hK => ?_)
      go_simp
      refine hK _ _ ⟨fun _ => I2', ?_⟩
      clear hK K
      try simp only [Act.put, lyA, lyB, lyC, lyD, lyE, lyF]
      generalize w10.heap.size = qb at *
      generalize w10.alloc (.cells #[.int .i64 Z9] 3) = w11' at *
      refine J_one 5 rfl (by kernel_rfl) (fun K hK => ?_)
      refine step_run rfl _ (ex_append _ _ _ _ rfl _ _ (by simp [Act.eval, Act.put]) (by simp [Act.eval, Act.put]) _ happ.out) ?_
      refine hK _ _ ⟨fun _ => I3, ?_⟩
      clear hK K happ I1 I2'
      try simp only [Act.put, lyA, lyB, lyC, lyD, lyE, lyF]
      refine J_one 6 rfl (by kernel_rfl) (fun K hK => ?_)
      go_simp
      refine hK _ _ ⟨fun _ => I3, ?_⟩
      clear hK K
      try simp only [Act.put, lyA, lyB, lyC, lyD, lyE, lyF]
      refine J_one 7 rfl (by kernel_rfl) (fun K hK => ?_)
      go_simp
      refine hK _ _ ⟨fun h => absurd rfl h, ?_⟩
      clear hK K
      refine J_done (by kernel_rfl) (OnlyOn.normal ?_)
      clear I3 z12 f12 l12
      have hNe : Hid (NDx w0 (w12.setCell ⟨y, 1, none⟩ (.slice A9 (p.1.recs.length + 1) c9)) r y (.slice Ak' (p.1.keys.length + 1) ck') (.slice A9 (p.1.recs.length + 1) c9) dv (itG false kStep (j + 1) p0).1) := by
        rw [hst.out, hkS.out, ← hS9.out, ← hZ9.out]
        exact hNs
      have hPe : Hid (RP B (w12.setCell ⟨y, 1, none⟩ (.slice A9 (p.1.recs.length + 1) c9)) r (itG false kStep (j + 1) p0).2) := by
        rw [hst.out, hkS.out]
        exact hPs
      clear hNs hPs hS9 hZ9 hlk hkS hst
      go_wp2_with fail
      go_roundw
      case rel => exact ⟨j + 1, _, _, _, by omega, by go_num, hNe, hPe⟩
      case measure => simp [intOf]; omega
    · obtain rfl : j = k1 := by omega
      have hP1i : Hid ((itG false kStep j p0).1.kids.length = 0) := by
        have key : ∀ n, (itG false kStep n p0).1.kids = p0.1.kids := fun n => by
          induction n with
          | zero => rfl
          | succ n ih => show (kStep (itG false kStep n p0)).1.kids = _; rw [(k_len _).2.2, ih]
        unfold Hid
        rw [key, hp0.out.2.1]
        rfl
      clear hL1 hL2
      generalize itG false kStep j p0 = P1 at *
      have hL3 := hid (fun q => it_len (g := false) (F := dStep) (Q := fun x => x.kids.length) (fun p => (d_len p).1) (p := P1) q)
      go_wp2_with fail
      go_loopw [32] (fun i wr => ∃ (j : Nat) (kv rv dv : Value), j ≤ k2 ∧ i = .int .i64 j ∧ Hid (NDx w0 wr r y kv rv dv (itG false dStep j P1).1) ∧ Hid (RP B wr r (itG false dStep j P1).2)) (fun i _ => k2 - (intOf i).toNat)
      case atStart => exact ⟨0, _, _, _, by omega, rfl, hN, hP⟩
      case round =>
        clear hN hP hlt
        rename Nat => jj
        obtain ⟨j, kv, rv, dv, hj, rfl, hN, hP⟩ := hrel
        by_cases hlt : j < k2
        · have hl3 := hL3.out j
          try dsimp only at hl3
          rw [hP1i.out] at hl3
          have hst : Hid (itG false dStep (j + 1) P1 = dStep (itG false dStep j P1)) := rfl
          have hji : (j : Int) < (k2 : Int) := by omega
          generalize itG false dStep j P1 = p at *
          have hkS : Hid (dStep p = (⟨p.1.keys, p.1.recs, p.1.kids ++ [twoV p.2]⟩, (tk 2 p.2).2)) := rfl
          obtain ⟨Ad, cd, rfl, -⟩ := own_form hN.out.od
          go_upto_region 10 with fail
          have I0 : (fun w' : World => w'.cell? ⟨y, 2, none⟩ = some (.slice Ad p.1.kids.length cd)) wr.drew := (nd3_c hN.out.hy).2.2
          refine region_J (fun w' : World => w'.cell? ⟨y, 2, none⟩ = some (.slice Ad p.1.kids.length cd)) 7 (by kernel_rfl) ?_
          replace hN := hid (hN.out.up (FR.of_ext ((Ext.refl wr).drew_right)))
          replace hP := hid (hP.out.ext ((Ext.refl wr).drew_right))
          generalize wr.drew = w9 at *
          refine JT 0 (v := ?vib0) I0 ?yib0 ?rib0
          case yib0 => (intro w h; have := h; go_simp; with_reducible rfl)
          simp only [Act.put, lyA, lyB, lyC, lyD, lyE, lyF]
          refine JT 1 (v := ?vib1) I0 ?yib1 ?rib1
          case yib1 => (intro w h; have := h; go_simp; with_reducible rfl)
          simp only [Act.put, lyA, lyB, lyC, lyD, lyE, lyF]
          refine JT 2 (v := ?vib2) I0 ?yib2 ?rib2
          case yib2 => (intro w h; have := h; go_simp; with_reducible rfl)
          simp only [Act.put, lyA, lyB, lyC, lyD, lyE, lyF]
          refine J_one 3 rfl (by kernel_rfl) (fun K hK => ?_)
          go_simp
          refine (two_any B r p.2 w9 hP.out).mono ?_
          rintro e' w10 ⟨rfl, hP10, hF10⟩
          have hN10 := hid (hN.out.up hF10)
          replace hP10 := hid hP10
          have I1 : (fun w' : World => w'.cell? ⟨y, 2, none⟩ = some (.slice Ad p.1.kids.length cd)) w10 := (nd3_c hN10.out.hy).2.2
          clear hN hP I0 hF10
          refine hK _ _ ⟨fun _ => I1, ?_⟩
          clear hK K
          try simp only [Act.put, lyA, lyB, lyC, lyD, lyE, lyF]
          obtain ⟨Z9, hZ9⟩ : ∃ Z9, Z9 = twoV p.2 := ⟨_, rfl⟩
          simp only [← hZ9]
          replace hZ9 := hid hZ9
          have hxb := (Ext.refl w10).alloc_right (.cells #[.int .i64 Z9] 3)
          have hRn : RdI (w10.alloc (.cells #[.int .i64 Z9] 3)) (some ⟨w10.heap.size, 0, none⟩) 1 1 [Z9] := rd_new1 w10 _ _
          have hB9 : w0.heap.size ≤ (w10.alloc (.cells #[.int .i64 Z9] 3)).heap.size := Nat.le_trans hN10.out.fr.2.2.2.1 hxb.size
          have how9 : (w10.alloc (.cells #[.int .i64 Z9] 3)).ownsRow w0.heap.size 3 1 (.slice Ad p.1.kids.length cd) p.1.kids.length (ints p.1.kids) := hxb.own hN10.out.od
          obtain ⟨v', w12, happ, own3, hgr, hloc⟩ := app_at _ w0.heap.size 23 23 3 iI _ 1 8 Tryz.underlying23 hI0 hI1 hI2 hI3 rfl (by decide) _ _ _ how9 _ 1 1 _ hRn (ints_one [Z9]) (by unfold maxLen; omega) (by omega) hB9
          rw [← ints_append] at own3
          have hlk : (p.1.kids ++ [Z9]).length = p.1.kids.length + 1 := by simp
          obtain ⟨hNs, hFs, hy12⟩ := hN10.out.add2 (s := Z9) hxb hgr (by rw [hlk]; exact own3) hloc
          have hPs := hid (hP10.out.fr hFs (fun a ha => by have h7 := own_freshB hN10.out.od; have h6 := hN10.out.yl; show ob _ a + one1 y a = 0; rw [show ob _ a = 0 from if_neg (fun e => by have := h7 a e; omega), show one1 y a = 0 from if_neg (by omega)]))
          replace hNs := hid hNs
          obtain ⟨A9, c9, rfl, -⟩ := own_form own3
          have I2' : (fun w' : World => w'.cell? ⟨y, 2, none⟩ = some (.slice Ad p.1.kids.length cd)) (w10.alloc (.cells #[.int .i64 Z9] 3)) := hxb.cell I1
          have z12 := (nd3_c hy12).2.2
          have I3 : (fun w' : World => w'.cell? ⟨y, 2, none⟩ = some (.slice Ad p.1.kids.length cd)) w12 := z12
          have f12 := Lib.frozen_of_heap hy12 2
          have l12 := (Array.getElem?_eq_some_iff.1 hy12).1
          replace happ := hid happ
          clear hRn own3 hgr hloc hFs hy12 hxb hN10 hP10 hB9 how9
          refine J_one 4 rfl (by kernel_rfl) (fun K hK => ?_)
          go_simp
          refine hK _ _ ⟨fun _ => I2', ?_⟩
          clear hK K
          try simp only [Act.put, lyA, lyB, lyC, lyD, lyE, lyF]
          generalize w10.heap.size = qb at *
          generalize w10.alloc (.cells #[.int .i64 Z9] 3) = w11' at *
          refine J_one 5 rfl (by kernel_rfl) (fun K hK => ?_)
          refine step_run rfl _ (ex_append _ _ _ _ rfl _ _ (by simp [Act.eval, Act.put]) (by simp [Act.eval, Act.put]) _ happ.out) ?_
          refine hK _ _ ⟨fun _ => I3, ?_⟩
          clear hK K happ I1 I2'
          try simp only [Act.put, lyA, lyB, lyC, lyD, lyE, lyF]
          refine J_one 6 rfl (by kernel_rfl) (fun K hK => ?_)
          go_simp
          refine hK _ _ ⟨fun _ => I3, ?_⟩
          clear hK K
          try simp only [Act.put, lyA, lyB, lyC, lyD, lyE, lyF]
          refine J_one 7 rfl (by kernel_rfl) (fun K hK => ?_)
          go_simp
          refine hK _ _ ⟨fun h => absurd rfl h, ?_⟩
          clear hK K
          refine J_done (by kernel_rfl) (OnlyOn.normal ?_)
          clear I3 z12 f12 l12
          have hNe : Hid (NDx w0 (w12.setCell ⟨y, 2, none⟩ (.slice A9 (p.1.kids.length + 1) c9)) r y kv rv (.slice A9 (p.1.kids.length + 1) c9) (itG false dStep (j + 1) P1).1) := by
            rw [hst.out, hkS.out, ← hZ9.out]
            exact hNs
          have hPe : Hid (RP B (w12.setCell ⟨y, 2, none⟩ (.slice A9 (p.1.kids.length + 1) c9)) r (itG false dStep (j + 1) P1).2) := by
            rw [hst.out, hkS.out]
            exact hPs
          clear hNs hPs hZ9 hlk hkS hst
          go_wp2_with fail
          go_roundw
          case rel => exact ⟨j + 1, _, _, _, by omega, by go_num, hNe, hPe⟩
          case measure => simp [intOf]; omega
        · obtain rfl : j = k2 := by omega
          rw [← hNF.out] at hN hP
          obtain ⟨A7, c7, rfl, -⟩ := own_form hN.out.ok
          obtain ⟨A8, c8, rfl, -⟩ := own_form hN.out.or_
          obtain ⟨A9, c9, rfl, -⟩ := own_form hN.out.od
          have hwq2 := hwq.out
          have hqlt : q < w0.heap.size := by have := hy.out; omega
          have hqr := (hN.out.fr.2.2.2.2 q hqlt (if_neg (by have := hq.out; omega))).trans hq0.out
          have c0 := nd3_c hN.out.hy
          have hq1 := nd3_c hqr
          have fq0 := Lib.frozen_of_heap hqr 0
          have fq1 := Lib.frozen_of_heap hqr 1
          have fq2 := Lib.frozen_of_heap hqr 2
          have ly := (Array.getElem?_eq_some_iff.1 hN.out.hy).1
          have lq := (Array.getElem?_eq_some_iff.1 hqr).1
          have hp3 := hid (put3 hqr (.slice A7 NF.1.keys.length c7) (.slice A8 NF.1.recs.length c8) (.slice A9 NF.1.kids.length c9))
          have kk := nd3_c hp3.out
          have hfin : Hid (GiveNd B r NF.1 NF.2 w (.returned (.agg #[(.slice A7 NF.1.keys.length c7), (.slice A8 NF.1.recs.length c8), (.slice A9 NF.1.kids.length c9)])) (((wr.setCell ⟨q, 0, none⟩ (.slice A7 NF.1.keys.length c7)).setCell ⟨q, 1, none⟩ (.slice A8 NF.1.recs.length c8)).setCell ⟨q, 2, none⟩ (.slice A9 NF.1.kids.length c9))) := by
            have h9 : ∀ {v : Value} {n z : Nat} {xs : List Value} {t : TypeId}, wr.ownsRow w0.heap.size t z v n xs → v.ownBlock ≠ some q := fun h e => by have := own_freshB h _ e; omega
            have hsz := hxq.out.size
            refine ⟨_, _, _, fun a => ob (.slice A7 NF.1.keys.length c7) a + ob (.slice A8 NF.1.recs.length c8) a + ob (.slice A9 NF.1.kids.length c9) a, rfl, ⟨?_, ?_, ?_, fun a => rfl⟩, fun a => by have := hN.out.nd a; show ob (.slice A7 NF.1.keys.length c7) a + ob (.slice A8 NF.1.recs.length c8) a + ob (.slice A9 NF.1.kids.length c9) a ≤ 1; omega, ?_, ?_⟩
            · exact own_baseK (own_set (own_set (own_set hN.out.ok (h9 hN.out.ok) _ _) (h9 hN.out.ok) _ _) (h9 hN.out.ok) _ _) hsz
            · exact own_baseK (own_set (own_set (own_set hN.out.or_ (h9 hN.out.or_) _ _) (h9 hN.out.or_) _ _) (h9 hN.out.or_) _ _) hsz
            · exact own_baseK (own_set (own_set (own_set hN.out.od (h9 hN.out.od) _ _) (h9 hN.out.od) _ _) (h9 hN.out.od) _ _) hsz
            · have hz : ∀ a, a < B → one1 q a = 0 := fun a ha => if_neg (by have := hq.out; omega)
              exact ((hP.out.fr fr_set hz).fr fr_set hz).fr fr_set hz
            · have hz : ∀ k, k < w.heap.size → one1 r k = 0 → one1 q k = 0 := fun k hk _ => if_neg (by have := hq.out; omega)
              exact ((((FR.of_ext hxq.out).trans hN.out.fr (fun _ _ h => h)).trans fr_set hz).trans fr_set hz).trans fr_set hz
          obtain ⟨c0, c1, c2⟩ := c0
          obtain ⟨g0, g1, g2⟩ := hq1
          obtain ⟨k0, k1', k2'⟩ := kk
          clear hqr hN hP hp3 hL3
          go_wp2
          exact bodyPost_ret (v := .agg #[(.slice A7 NF.1.keys.length c7), (.slice A8 NF.1.recs.length c8), (.slice A9 NF.1.kids.length c9)]) (by simp [results, Tryz.results66, go_sem, k0, k1', k2']) rfl hfin.out
open Go.RowKit Go.Shelf
open Go.RowKit Go.Shelf
theorem Shaped_any (A1 A2 A3 : Option Addr) (a b d c1 c2 c3 : Nat) (w : World) (ha : a ≤ 9223372036854775807) (hb : b ≤ 9223372036854775807) (hd : d ≤ 9223372036854775807) : Calls Tryz.prog 101 #[.agg #[.slice A1 a c1, .slice A2 b c2, .slice A3 d c3]] w (Give (.bool (shapeN a b d)) w) := by
  unfold shapeN
  by_cases h1 : b = a
  · subst h1
    by_cases h2 : b ≤ 4
    · have e2 : (b : Int) ≤ 4 := by omega
      rw [decide_eq_true h2, decide_eq_true rfl]
      by_cases h3 : d = 0
      · subst h3
        clear h2
        go_enter Tryz.func101, Tryz.ntmps101
        go_wp2
        go_ret
        exact ⟨rfl, (Ext.refl w).alloc_right _⟩
      · have e3 : ¬ (d : Int) = 0 := by omega
        rw [decide_eq_false h3]
        have e5 : IntKind.i64.wrap ((b : Int) + 1) = (b : Int) + 1 := IntWalk.i64_in _ (by omega)
        by_cases h4 : d = b + 1
        · have e4 : (d : Int) = (b : Int) + 1 := by omega
          rw [decide_eq_true h4]
          clear h2 h3 h4
          go_enter Tryz.func101, Tryz.ntmps101
          go_wp2
          go_ret
          exact ⟨rfl, (Ext.refl w).alloc_right _⟩
        · have e4 : ¬ (d : Int) = (b : Int) + 1 := by omega
          rw [decide_eq_false h4]
          clear h2 h3 h4
          go_enter Tryz.func101, Tryz.ntmps101
          go_wp2
          go_ret
          exact ⟨ret_bool (by rw [beq_eq_false_iff_ne.2 e3, beq_eq_false_iff_ne.2 e4]; rfl), (Ext.refl w).alloc_right _⟩
    · have e2 : ¬ (b : Int) ≤ 4 := by omega
      rw [decide_eq_false h2, decide_eq_true rfl]
      clear h2
      go_enter Tryz.func101, Tryz.ntmps101
      go_wp2
      go_ret
      exact ⟨rfl, (Ext.refl w).alloc_right _⟩
  · have e1 : ¬ (a : Int) = (b : Int) := by omega
    have e1' : ¬ a = b := by omega
    rw [decide_eq_false h1]
    clear h1
    go_enter Tryz.func101, Tryz.ntmps101
    go_wp2
    go_ret
    exact ⟨rfl, (Ext.refl w).alloc_right _⟩
def GiveIx (p : Prop) (w : World) (e : Ending) (w' : World) : Prop := ∃ r : Int, e = .returned (.int .i64 r) ∧ decide (0 ≤ r) = !(cdec p) ∧ Ext w w'
theorem GiveIx.no {p : Prop} {w w' : World} {r : Int} (hx : Ext w w') (h : ¬ p) (hr : 0 ≤ r) : GiveIx p w (.returned (.int .i64 r)) w' := ⟨r, rfl, by rw [cdec_not.2 h]; simpa using hr, hx⟩
theorem GiveIx.yes {p : Prop} {w w' : World} (hx : Ext w w') (h : p) : GiveIx p w (.returned (.int .i64 (-1))) w' := ⟨-1, rfl, by rw [cdec_iff.2 h]; rfl, hx⟩
theorem shapC_any (A1 A2 A3 : Option Addr) (a b d c1 c2 c3 : Nat) (w : World) (ha : a ≤ 9223372036854775807) (hb : b ≤ 9223372036854775807) (hd : d ≤ 9223372036854775807) : Calls Tryz.prog 100 #[.agg #[.slice A1 a c1, .slice A2 b c2, .slice A3 d c3]] w (Give (.bool (!(shapeN a b d))) w) := by
  have hC := hid (fun w' => Shaped_any A1 A2 A3 a b d c1 c2 c3 w' ha hb hd)
  have hx := hid ((Ext.refl w).alloc_right (.cells #[.slice A1 a c1, .slice A2 b c2, .slice A3 d c3] 113))
  generalize shapeN a b d = B at *
  go_enter Tryz.func100, Tryz.ntmps100
  go_wp2_with fail
  refine (hC.out _).mono ?_
  rintro e w2 ⟨rfl, hx2⟩
  go_wp2
  go_ret
  exact ⟨rfl, hx.out.trans hx2⟩
theorem okC_any (x : Te) (w : World) : Calls Tryz.prog 106 #[.agg #[.string x.key, .int .i64 x.no]] w (Give (.bool (!(okT x))) w) := by
  have hC := hid (fun w' => isEntry_any x w')
  have hx := hid ((Ext.refl w).alloc_right (.cells #[.string x.key, .int .i64 x.no] 65))
  generalize okT x = B at *
  go_enter Tryz.func106, Tryz.ntmps106
  go_wp2_with fail
  refine (hC.out _).mono ?_
  rintro e w2 ⟨rfl, hx2⟩
  go_wp2
  go_ret
  exact ⟨rfl, hx.out.trans hx2⟩
theorem idxN_any (A : Option Addr) (n c : Nat) (xs : List Nx) (w : World) (hr : RX w A n c xs) (hm : n ≤ 9223372036854775807) : Calls Tryz.prog 127 #[.slice A n c, .func (.func 100) #[] #[]] w (GiveIx (∀ k, k < n → shapeB (xth xs k) = true) w) := by
  have en : ∀ (a : Value) (w : World), (callFunc 100 #[a]).run Tryz.prog w = .ok (.enter 100 #[a]) w := fun a w => by kernel_rfl
  replace hr := hid hr
  go_enter Tryz.func127, Tryz.ntmps127
  go_wp2_with fail
  go_loopw [8] (fun i wr => ∃ k : Nat, k ≤ n ∧ i = .int .i64 k ∧ Hid (Ext w wr) ∧ Hid (∀ k', k' < k → shapeB (xth xs k') = true)) (fun i _ => n - (intOf i).toNat)
  case atStart => exact ⟨0, by omega, rfl, Ext.refl _, fun k' h => by omega⟩
  case round =>
    obtain ⟨k, hk, rfl, hx, hno⟩ := hrel
    by_cases hlt : k < n
    · obtain ⟨ad, A1, c1, A2, c2, A3, c3, rfl, z0, z1, z2, r1, r2, r3⟩ := (hr.out.ext hx.out).at_ hlt
      have m1 := (Rd.max r1).1
      have m2 := (Rd.max r2).1
      have m3 := (Rd.max r3).1
      clear r1 r2 r3
      have hki : (k : Int) < (n : Int) := by omega
      have hcl := hid (fun w' => shapC_any A1 A2 A3 _ _ _ c1 c2 c3 w' m1 m2 m3)
      cases hs : shapeB (xth xs k) with
      | false =>
        rw [show shapeN _ _ _ = false from hs] at hcl
        have hf := hid (fun w' (h9 : Ext w w') => GiveIx.no (r := (k : Int)) (p := ∀ k, k < n → shapeB (xth xs k) = true) h9 (fun h => by rw [h k hlt] at hs; cases hs) (by omega))
        clear hs hno
        go_wp2_with fail
        refine (hcl.out _).mono ?_
        rintro e w3 ⟨rfl, hx3⟩
        replace hx := hid (hx.out.trans hx3)
        clear hx3
        go_wp2
        go_ret
        exact hf.out _ hx.out
      | true =>
        rw [show shapeN _ _ _ = true from hs] at hcl
        have hno2 : Hid (∀ k', k' < k + 1 → shapeB (xth xs k') = true) := fun k' h => by
          by_cases e : k' = k
          · rw [e]; exact hs
          · exact hno.out k' (by omega)
        clear hs hno
        go_wp2_with fail
        refine (hcl.out _).mono ?_
        rintro e w3 ⟨rfl, hx3⟩
        replace hx := hid (hx.out.trans hx3)
        clear hx3
        go_wp2_with fail
        go_roundw
        case rel => exact ⟨k + 1, by omega, by go_num, hx, hno2⟩
        case measure => simp [intOf]; omega
    · obtain rfl : n = k := by omega
      have hf := hid (fun w' (h9 : Ext w w') => GiveIx.yes (p := ∀ k, k < n → shapeB (xth xs k) = true) h9 hno.out)
      clear hno
      go_wp2
      go_ret
      exact hf.out _ hx.out
theorem hasN_any (A : Option Addr) (n c : Nat) (xs : List Nx) (w : World) (hr : RX w A n c xs) (hm : n ≤ 9223372036854775807) : Calls Tryz.prog 99 #[.slice A n c, .func (.func 100) #[] #[]] w (Give (.bool (!(cdec (∀ k, k < n → shapeB (xth xs k) = true)))) w) := by
  have hi := hid (idxN_any A n c xs w hr hm)
  clear hr
  generalize hp : (∀ k, k < n → shapeB (xth xs k) = true) = p at *
  clear hp
  go_enter Tryz.func99, Tryz.ntmps99
  go_wp2_with fail
  refine hi.out.mono ?_
  rintro e w2 ⟨r, rfl, hr, hx⟩
  replace hr := hid hr
  go_wp2
  go_ret
  exact ⟨ret_bool hr.out, hx⟩
theorem idxE_any (A : Option Addr) (n c : Nat) (xs : List Te) (w : World) (hr : RdN w A n c xs) (hm : n ≤ 9223372036854775807) : Calls Tryz.prog 128 #[.slice A n c, .func (.func 106) #[] #[]] w (GiveIx (∀ k, k < n → okT (tth xs k) = true) w) := by
  have en : ∀ (a : Value) (w : World), (callFunc 106 #[a]).run Tryz.prog w = .ok (.enter 106 #[a]) w := fun a w => by kernel_rfl
  replace hr := hid hr
  go_enter Tryz.func128, Tryz.ntmps128
  go_wp2_with fail
  go_loopw [8] (fun i wr => ∃ k : Nat, k ≤ n ∧ i = .int .i64 k ∧ Hid (Ext w wr) ∧ Hid (∀ k', k' < k → okT (tth xs k') = true)) (fun i _ => n - (intOf i).toNat)
  case atStart => exact ⟨0, by omega, rfl, Ext.refl _, fun k' h => by omega⟩
  case round =>
    obtain ⟨k, hk, rfl, hx, hno⟩ := hrel
    by_cases hlt : k < n
    · obtain ⟨ad, rfl, z0, z1⟩ := (hr.out.ext hx.out).at_ hlt
      have hki : (k : Int) < (n : Int) := by omega
      have hcl := hid (fun w' => okC_any (tth xs k) w')
      cases hs : okT (tth xs k) with
      | false =>
        rw [hs] at hcl
        have hf := hid (fun w' (h9 : Ext w w') => GiveIx.no (r := (k : Int)) (p := ∀ k, k < n → okT (tth xs k) = true) h9 (fun h => by rw [h k hlt] at hs; cases hs) (by omega))
        clear hs hno
        generalize tth xs k = x at *
        go_wp2_with fail
        refine (hcl.out _).mono ?_
        rintro e w3 ⟨rfl, hx3⟩
        replace hx := hid (hx.out.trans hx3)
        clear hx3
        go_wp2
        go_ret
        exact hf.out _ hx.out
      | true =>
        rw [hs] at hcl
        have hno2 : Hid (∀ k', k' < k + 1 → okT (tth xs k') = true) := fun k' h => by
          by_cases e : k' = k
          · rw [e]; exact hs
          · exact hno.out k' (by omega)
        clear hs hno
        generalize tth xs k = x at *
        go_wp2_with fail
        refine (hcl.out _).mono ?_
        rintro e w3 ⟨rfl, hx3⟩
        replace hx := hid (hx.out.trans hx3)
        clear hx3
        go_wp2_with fail
        go_roundw
        case rel => exact ⟨k + 1, by omega, by go_num, hx, hno2⟩
        case measure => simp [intOf]; omega
    · obtain rfl : n = k := by omega
      have hf := hid (fun w' (h9 : Ext w w') => GiveIx.yes (p := ∀ k, k < n → okT (tth xs k) = true) h9 hno.out)
      clear hno
      go_wp2
      go_ret
      exact hf.out _ hx.out
theorem hasE_any (A : Option Addr) (n c : Nat) (xs : List Te) (w : World) (hr : RdN w A n c xs) (hm : n ≤ 9223372036854775807) : Calls Tryz.prog 105 #[.slice A n c, .func (.func 106) #[] #[]] w (Give (.bool (!(cdec (∀ k, k < n → okT (tth xs k) = true)))) w) := by
  have hi := hid (idxE_any A n c xs w hr hm)
  clear hr
  generalize hp : (∀ k, k < n → okT (tth xs k) = true) = p at *
  clear hp
  go_enter Tryz.func105, Tryz.ntmps105
  go_wp2_with fail
  refine hi.out.mono ?_
  rintro e w2 ⟨r, rfl, hr, hx⟩
  replace hr := hid hr
  go_wp2
  go_ret
  exact ⟨ret_bool hr.out, hx⟩
theorem isFull_any (A1 A2 A3 : Option Addr) (a b d c1 c2 c3 : Nat) (k : Nat) (w : World) (ha : a ≤ 9223372036854775807) (hd : d ≤ 9223372036854775807) : Calls Tryz.prog 103 #[.agg #[.slice A1 a c1, .slice A2 b c2, .slice A3 d c3], .int .i64 k] w (Give (.bool (decide ((if k = 0 then min 1 d else 2) ≤ a))) w) := by
  have hx := hid ((Ext.refl w).alloc_right (.cells #[.slice A1 a c1, .slice A2 b c2, .slice A3 d c3] 113))
  rcases Nat.eq_zero_or_pos k with rfl | hk
  · rw [if_pos rfl]
    rcases Nat.eq_zero_or_pos a with rfl | ha0
    · rcases Nat.eq_zero_or_pos d with rfl | hd0
      · rw [decide_eq_true (by omega)]
        go_enter Tryz.func103, Tryz.ntmps103
        go_wp2
        go_ret
        exact ⟨rfl, hx.out⟩
      · rw [decide_eq_false (by omega)]
        have h1 : ((d : Int) == 0) = false := by rw [beq_eq_false_iff_ne]; omega
        have h2 : ¬ d = 0 := by omega
        go_enter Tryz.func103, Tryz.ntmps103
        go_wp2
        go_ret
        exact ⟨by first | rfl | exact ret_bool (by simp [h2]), hx.out⟩
    · rw [decide_eq_true (by omega)]
      have h1 : (0 : Int) < (a : Int) := by omega
      go_enter Tryz.func103, Tryz.ntmps103
      go_wp2
      go_ret
      exact ⟨rfl, hx.out⟩
  · rw [if_neg (by omega)]
    have hk1 : ((k : Int) == 0) = false := by rw [beq_eq_false_iff_ne]; omega
    have hk2 : ¬ k = 0 := by omega
    by_cases h2 : 2 ≤ a
    · rw [decide_eq_true h2]
      have h1 : (2 : Int) ≤ (a : Int) := by omega
      go_enter Tryz.func103, Tryz.ntmps103
      go_wp2
      go_ret
      exact ⟨rfl, hx.out⟩
    · rw [decide_eq_false h2]
      have h1 : ¬ (2 : Int) ≤ (a : Int) := by omega
      go_enter Tryz.func103, Tryz.ntmps103
      go_wp2
      go_ret
      exact ⟨by first | rfl | exact ret_bool (by simp; omega), hx.out⟩
theorem isOrdered_any (A : Option Addr) (n c : Nat) (L : List Te) (w : World) (hr : RdN w A n c L) (hn : n ≤ 1000000) : Calls Tryz.prog 107 #[.slice A n c] w (Give (.bool (cdec (Srt L))) w) := by
  have hll := hid hr.len
  replace hr := hid hr
  obtain ⟨W, hW⟩ : ∃ W, cdec (Srt L) = W := ⟨_, rfl⟩
  rw [hW]
  replace hW := hid hW
  go_enter Tryz.func107, Tryz.ntmps107
  go_wp2_with fail
  go_loopw [3] (fun i wr => ∃ k : Nat, Hid (1 ≤ k) ∧ i = .int .i64 k ∧ Hid (∀ t, t + 1 < k → t + 1 < L.length → cmpT (tth L t) (tth L (t + 1)) < 0) ∧ Hid (Ext w wr)) (fun i _ => n + 1 - (intOf i).toNat)
  case atStart => exact ⟨1, by unfold Hid; omega, rfl, fun j hj => by omega, Ext.refl _⟩
  case round =>
    obtain ⟨k, hk1, rfl, hso, hx⟩ := hrel
    obtain ⟨j, hj⟩ : ∃ j, k = j + 1 := ⟨k - 1, by have := hk1.out; omega⟩
    replace hj := hid hj
    by_cases hlt : k < n
    · obtain ⟨ad, rfl, z0, z1⟩ := (hr.out.ext hx.out).at_ (k := j) (by have := hj.out; omega)
      obtain ⟨ad', e1, z2, z3⟩ := (hr.out.ext hx.out).at_ hlt
      injection e1 with e1
      subst e1
      have hki : (k : Int) < (n : Int) := by omega
      have hji : (j : Int) < (n : Int) := by have := hj.out; omega
      have hwj : IntKind.i64.wrap ((k : Int) - 1) = (j : Int) := by rw [show (k : Int) - 1 = j by have := hj.out; omega]; exact IntWalk.i64_in _ (by have := hj.out; omega)
      have hF := hid (fun w' => compare_any (tth L j) (tth L k) w')
      by_cases hc : cmpT (tth L j) (tth L k) < 0
      · have hso2 : Hid (∀ t, t + 1 < k + 1 → t + 1 < L.length → cmpT (tth L t) (tth L (t + 1)) < 0) := fun t ht ht2 => by
          by_cases e : t = j
          · rw [e, ← hj.out]; exact hc
          · exact hso.out t (by have := hj.out; omega) ht2
        have hge : ¬ 0 ≤ cmpT (tth L j) (tth L k) := by omega
        clear hc hso
        generalize cmpT (tth L j) (tth L k) = z at *
        generalize tth L j = x at *
        generalize tth L k = y at *
        go_upto_region 4 with fail
        have I0 : (fun w' : World => w'.cell? (ad.add (j * 2)) = some (.string x.key) ∧ w'.cell? ⟨(ad.add (j * 2)).block, (ad.add (j * 2)).off + 1, none⟩ = some (.int .i64 x.no) ∧ w'.cell? (ad.add (k * 2)) = some (.string y.key) ∧ w'.cell? ⟨(ad.add (k * 2)).block, (ad.add (k * 2)).off + 1, none⟩ = some (.int .i64 y.no)) wr.drew := ⟨z0, z1, z2, z3⟩
        refine region_J (fun w' : World => w'.cell? (ad.add (j * 2)) = some (.string x.key) ∧ w'.cell? ⟨(ad.add (j * 2)).block, (ad.add (j * 2)).off + 1, none⟩ = some (.int .i64 x.no) ∧ w'.cell? (ad.add (k * 2)) = some (.string y.key) ∧ w'.cell? ⟨(ad.add (k * 2)).block, (ad.add (k * 2)).off + 1, none⟩ = some (.int .i64 y.no)) 11 (by kernel_rfl) ?_
        have hx9 := hid hx.out.drew_right
        clear z0 z1 z2 z3
        generalize wr.drew = w9 at *
        refine JO 0 (v := ?vo10) I0 ?yo10 ?ro10
        case yo10 => (intro w h; obtain ⟨_, _, _, _⟩ := h; go_simp; with_reducible rfl)
        simp only [Act.put, lyA, lyB, lyC, lyD, lyE, lyF]
        refine JO 1 (v := ?vo11) I0 ?yo11 ?ro11
        case yo11 => (intro w h; obtain ⟨_, _, _, _⟩ := h; go_simp; with_reducible rfl)
        simp only [Act.put, lyA, lyB, lyC, lyD, lyE, lyF]
        refine JO 2 (v := ?vo12) I0 ?yo12 ?ro12
        case yo12 => (intro w h; obtain ⟨_, _, _, _⟩ := h; go_simp; with_reducible rfl)
        simp only [Act.put, lyA, lyB, lyC, lyD, lyE, lyF]
        refine JO 3 (v := ?vo13) I0 ?yo13 ?ro13
        case yo13 => (intro w h; obtain ⟨_, _, _, _⟩ := h; go_simp; with_reducible rfl)
        simp only [Act.put, lyA, lyB, lyC, lyD, lyE, lyF]
        refine JO 4 (v := ?vo14) I0 ?yo14 ?ro14
        case yo14 => (intro w h; obtain ⟨_, _, _, _⟩ := h; go_simp; with_reducible rfl)
        simp only [Act.put, lyA, lyB, lyC, lyD, lyE, lyF]
        refine JO 5 (v := ?vo15) I0 ?yo15 ?ro15
        case yo15 => (intro w h; obtain ⟨_, _, _, _⟩ := h; go_simp; with_reducible rfl)
        simp only [Act.put, lyA, lyB, lyC, lyD, lyE, lyF]
        refine JO 6 (v := ?vo16) I0 ?yo16 ?ro16
        case yo16 => (intro w h; obtain ⟨_, _, _, _⟩ := h; go_simp; with_reducible rfl)
        simp only [Act.put, lyA, lyB, lyC, lyD, lyE, lyF]
        refine JO 7 (v := ?vo17) I0 ?yo17 ?ro17
        case yo17 => (intro w h; obtain ⟨_, _, _, _⟩ := h; go_simp; with_reducible rfl)
        simp only [Act.put, lyA, lyB, lyC, lyD, lyE, lyF]
        refine JO 8 (v := ?vo18) I0 ?yo18 ?ro18
        case yo18 => (intro w h; obtain ⟨_, _, _, _⟩ := h; go_simp; with_reducible rfl)
        simp only [Act.put, lyA, lyB, lyC, lyD, lyE, lyF]
        refine J_one 9 rfl (by kernel_rfl) (fun K hK => ?_)
        go_simp
        refine (hF.out _).mono ?_
        rintro e' w8 ⟨rfl, hx8⟩
        have I1 : (fun w' : World => w'.cell? (ad.add (j * 2)) = some (.string x.key) ∧ w'.cell? ⟨(ad.add (j * 2)).block, (ad.add (j * 2)).off + 1, none⟩ = some (.int .i64 x.no) ∧ w'.cell? (ad.add (k * 2)) = some (.string y.key) ∧ w'.cell? ⟨(ad.add (k * 2)).block, (ad.add (k * 2)).off + 1, none⟩ = some (.int .i64 y.no)) w8 := ⟨hx8.cell I0.1, hx8.cell I0.2.1, hx8.cell I0.2.2.1, hx8.cell I0.2.2.2⟩
        replace hx9 := hid (hx9.out.trans hx8)
        clear I0 hx8
        refine hK _ _ ⟨fun _ => I1, ?_⟩
        clear hK K
        try simp only [Act.put, lyA, lyB, lyC, lyD, lyE, lyF]
        refine J_one 10 rfl (by kernel_rfl) (fun K hK => ?_)
        go_simp
        refine hK _ _ ⟨fun _ => I1, ?_⟩
        clear hK K
        try simp only [Act.put, lyD, lyE, lyF]
        refine J_done (by kernel_rfl) (OnlyOn.normal ?_)
        go_wp2
        go_roundw
        case rel => exact ⟨k + 1, by unfold Hid; omega, by go_num, hso2, hx9⟩
        case measure => simp [intOf]; omega
      · have hw1 : W = false := by
          rw [← hW.out]
          refine cdec_not.2 (fun h => hc ?_)
          have h9 := srt_steps.1 h j (by rw [← hj.out, hll.out]; exact hlt)
          rw [← hj.out] at h9
          exact h9
        subst hw1
        have hge : 0 ≤ cmpT (tth L j) (tth L k) := by omega
        clear hc hso
        generalize cmpT (tth L j) (tth L k) = z at *
        generalize tth L j = x at *
        generalize tth L k = y at *
        go_upto_region 4 with fail
        have I0 : (fun w' : World => w'.cell? (ad.add (j * 2)) = some (.string x.key) ∧ w'.cell? ⟨(ad.add (j * 2)).block, (ad.add (j * 2)).off + 1, none⟩ = some (.int .i64 x.no) ∧ w'.cell? (ad.add (k * 2)) = some (.string y.key) ∧ w'.cell? ⟨(ad.add (k * 2)).block, (ad.add (k * 2)).off + 1, none⟩ = some (.int .i64 y.no)) wr.drew := ⟨z0, z1, z2, z3⟩
        refine region_J (fun w' : World => w'.cell? (ad.add (j * 2)) = some (.string x.key) ∧ w'.cell? ⟨(ad.add (j * 2)).block, (ad.add (j * 2)).off + 1, none⟩ = some (.int .i64 x.no) ∧ w'.cell? (ad.add (k * 2)) = some (.string y.key) ∧ w'.cell? ⟨(ad.add (k * 2)).block, (ad.add (k * 2)).off + 1, none⟩ = some (.int .i64 y.no)) 11 (by kernel_rfl) ?_
        have hx9 := hid hx.out.drew_right
        clear z0 z1 z2 z3
        generalize wr.drew = w9 at *
        refine JO 0 (v := ?vo20) I0 ?yo20 ?ro20
        case yo20 => (intro w h; obtain ⟨_, _, _, _⟩ := h; go_simp; with_reducible rfl)
        simp only [Act.put, lyA, lyB, lyC, lyD, lyE, lyF]
        refine JO 1 (v := ?vo21) I0 ?yo21 ?ro21
        case yo21 => (intro w h; obtain ⟨_, _, _, _⟩ := h; go_simp; with_reducible rfl)
        simp only [Act.put, lyA, lyB, lyC, lyD, lyE, lyF]
        refine JO 2 (v := ?vo22) I0 ?yo22 ?ro22
        case yo22 => (intro w h; obtain ⟨_, _, _, _⟩ := h; go_simp; with_reducible rfl)
        simp only [Act.put, lyA, lyB, lyC, lyD, lyE, lyF]
        refine JO 3 (v := ?vo23) I0 ?yo23 ?ro23
        case yo23 => (intro w h; obtain ⟨_, _, _, _⟩ := h; go_simp; with_reducible rfl)
        simp only [Act.put, lyA, lyB, lyC, lyD, lyE, lyF]
        refine JO 4 (v := ?vo24) I0 ?yo24 ?ro24
        case yo24 => (intro w h; obtain ⟨_, _, _, _⟩ := h; go_simp; with_reducible rfl)
        simp only [Act.put, lyA, lyB, lyC, lyD, lyE, lyF]
        refine JO 5 (v := ?vo25) I0 ?yo25 ?ro25
        case yo25 => (intro w h; obtain ⟨_, _, _, _⟩ := h; go_simp; with_reducible rfl)
        simp only [Act.put, lyA, lyB, lyC, lyD, lyE, lyF]
        refine JO 6 (v := ?vo26) I0 ?yo26 ?ro26
        case yo26 => (intro w h; obtain ⟨_, _, _, _⟩ := h; go_simp; with_reducible rfl)
        simp only [Act.put, lyA, lyB, lyC, lyD, lyE, lyF]
        refine JO 7 (v := ?vo27) I0 ?yo27 ?ro27
        case yo27 => (intro w h; obtain ⟨_, _, _, _⟩ := h; go_simp; with_reducible rfl)
        simp only [Act.put, lyA, lyB, lyC, lyD, lyE, lyF]
        refine JO 8 (v := ?vo28) I0 ?yo28 ?ro28
        case yo28 => (intro w h; obtain ⟨_, _, _, _⟩ := h; go_simp; with_reducible rfl)
        simp only [Act.put, lyA, lyB, lyC, lyD, lyE, lyF]
        refine J_one 9 rfl (by kernel_rfl) (fun K hK => ?_)
        go_simp
        refine (hF.out _).mono ?_
        rintro e' w8 ⟨rfl, hx8⟩
        have I1 : (fun w' : World => w'.cell? (ad.add (j * 2)) = some (.string x.key) ∧ w'.cell? ⟨(ad.add (j * 2)).block, (ad.add (j * 2)).off + 1, none⟩ = some (.int .i64 x.no) ∧ w'.cell? (ad.add (k * 2)) = some (.string y.key) ∧ w'.cell? ⟨(ad.add (k * 2)).block, (ad.add (k * 2)).off + 1, none⟩ = some (.int .i64 y.no)) w8 := ⟨hx8.cell I0.1, hx8.cell I0.2.1, hx8.cell I0.2.2.1, hx8.cell I0.2.2.2⟩
        replace hx9 := hid (hx9.out.trans hx8)
        clear I0 hx8
        refine hK _ _ ⟨fun _ => I1, ?_⟩
        clear hK K
        try simp only [Act.put, lyA, lyB, lyC, lyD, lyE, lyF]
        refine J_one 10 rfl (by kernel_rfl) (fun K hK => ?_)
        go_simp
        refine hK _ _ ⟨fun _ => I1, ?_⟩
        clear hK K
        try simp only [Act.put, lyD, lyE, lyF]
        refine J_done (by kernel_rfl) (OnlyOn.normal ?_)
        go_wp2
        go_ret
        exact ⟨rfl, hx9.out⟩
    · have hw1 : W = true := by
        rw [← hW.out]
        exact cdec_iff.2 (srt_steps.2 (fun t ht => hso.out t (by have := hj.out; have := hll.out; omega) ht))
      subst hw1
      have hki : ¬ (k : Int) < (n : Int) := by omega
      go_wp2
      go_ret
      exact ⟨rfl, hx.out⟩
open Go.RowKit Go.Shelf
structure PT (w wr : World) (g n : Nat) (f : Nat → Bool) : Prop where
  ext : Ext w wr
  row : wr.heap[g]? = some (.cells (rowF n f).toArray 4 (0, 0))
  le : w.heap.size ≤ g
theorem PT.up {w wr w' : World} {g n : Nat} {f : Nat → Bool} (h : PT w wr g n f) (hx : Ext wr w') : PT w w' g n f := ⟨h.ext.trans hx, (hx.block (Array.getElem?_eq_some_iff.1 h.row).1).trans h.row, h.le⟩
theorem PT.set {w wr : World} {g n m : Nat} {f f' : Nat → Bool} (h : PT w wr g n f) (hf : ∀ k, f' k = (f k || decide (k = m))) : PT w (wr.setCell ⟨g, m, none⟩ (.bool true)) g n f' :=
  ⟨h.ext.set (p := ⟨g, m, none⟩) h.le _, rowF_set h.row (fun j _ => hf j), h.le⟩
structure PV (w wr : World) (B n : Nat) (v : Value) (l : List Int) : Prop where
  ext : Ext w wr
  que : Que wr (fun k => B ≤ k) v l
  le : w.heap.size ≤ B
  hB : B ≤ wr.heap.size
theorem PV.app {w wr w' : World} {B n : Nat} {v v' : Value} {l l' : List Int} (h : PV w wr B n v l) (hq : Que w' (fun k => B ≤ k) v' l') (h1 : w'.os = wr.os) (h2 : w'.tape = wr.tape) (h3 : w'.output = wr.output) (h4 : wr.heap.size ≤ w'.heap.size) (h5 : ∀ k, k < wr.heap.size → ¬ B ≤ k → w'.heap[k]? = wr.heap[k]?) : PV w w' B n v' l' := by
  have hle := h.le
  have hBl := h.hB
  exact ⟨⟨h1.trans h.ext.os, h2.trans h.ext.tape, h3.trans h.ext.output, Nat.le_trans h.ext.size h4, fun k hk => (h5 k (Nat.lt_of_lt_of_le hk h.ext.size) (by omega)).trans (h.ext.block hk)⟩, hq, hle, by omega⟩
theorem PV.drew {w wr : World} {B n : Nat} {v : Value} {l : List Int} (h : PV w wr B n v l) : PV w wr.drew B n v l := ⟨h.ext.drew_right, h.que.keep (fun _ _ _ => rfl) (Nat.le_refl _), h.le, h.hB⟩
theorem pTree_any (A : Option Addr) (n c : Nat) (xs : List Nx) (w : World) (hr : RX w A n c xs) (hn1 : 1 ≤ n) (hn : n ≤ 2400) (h5 : Hid (∀ k, k < n → (xth xs k).kids.length ≤ 5)) : Calls Tryz.prog 102 #[.slice A n c] w (Give (.bool (treeB xs)) w) := by
  have hl := hid hr.len
  have hm := RX.max hr
  have mk := mkF n (by omega)
  replace hr := hid hr
  have hR0 : Hid (PT w (newF w n) w.heap.size n (flg xs 0 0)) := by
    rw [flg_zero]
    exact ⟨newF_ext w n, newF_row w n, Nat.le_refl _⟩
  go_enter Tryz.func102, Tryz.ntmps102
  go_upto_region 3 with fail
  obtain ⟨g, hg⟩ : ∃ g, g = w.heap.size := ⟨_, rfl⟩
  rw [← hg] at hR0
  simp only [← hg]
  replace hg := hid hg
  generalize newF w n = w2 at *
  clear mk
  go_loopw [16] (fun i wr => ∃ k : Nat, k ≤ n ∧ i = .int .i64 k ∧ Hid (okP n (preK xs k 0)) ∧ Hid (PT w wr g n (flg xs k 0))) (fun i _ => n - (intOf i).toNat)
  case atStart => exact ⟨0, by omega, rfl, by unfold Hid; rw [preK_zero]; exact ⟨fun k hk => (by cases hk), List.Pairwise.nil⟩, hR0⟩
  case round =>
    clear hR0
    obtain ⟨k, hk, rfl, hok, hR⟩ := hrel
    rename World => w0
    by_cases hlt : k < n
    · obtain ⟨ad0, A1, c1, A2, c2, A3, c3, rfl, y0, y1, y2, -, -, r3⟩ := hr.out.at_ hlt
      have h5k := h5.out k hlt
      have hkl : Hid (k < xs.length) := by have := hl.out; unfold Hid; omega
      have hki : (k : Int) < (n : Int) := by omega
      replace r3 := hid r3
      have hx0 := hR.out.ext
      replace y0 := hx0.cell y0
      replace y1 := hx0.cell y1
      replace y2 := hx0.cell y2
      have hxa := (Ext.refl w0).alloc_right (.cells #[.slice A1 (xth xs k).keys.length c1, .slice A2 (xth xs k).recs.length c2, .slice A3 (xth xs k).kids.length c3] 113)
      replace hR := hid (hR.out.up hxa)
      go_upto_region 6 with fail
      clear y0 y1 y2 hx0 hxa
      generalize w0.alloc (.cells #[.slice A1 (xth xs k).keys.length c1, .slice A2 (xth xs k).recs.length c2, .slice A3 (xth xs k).kids.length c3] 113) = w0' at *
      go_loopw [23] (fun j wr => ∃ q : Nat, q ≤ (xth xs k).kids.length ∧ j = .int .i64 q ∧ Hid (okP n (preK xs k q)) ∧ Hid (PT w wr g n (flg xs k q))) (fun j _ => (xth xs k).kids.length - (intOf j).toNat)
      case atStart => exact ⟨0, by omega, rfl, hok, hR⟩
      case round =>
        clear hok hR
        obtain ⟨q, hq, rfl, hok, hR⟩ := hrel
        by_cases hqt : q < (xth xs k).kids.length
        · obtain ⟨kad, rfl, z2⟩ := rdi_at (r3.out.ext hR.out.ext) hqt
          obtain ⟨rs, hrs⟩ := preK_pre (j := q + 1) hkl.out hqt
          have hps := preK_step hqt
          have hno0 := hid (fun (hc : ¬ (1 ≤ ith (xth xs k).kids q ∧ ith (xth xs k).kids q < (n : Int) ∧ ith (xth xs k).kids q ∉ preK xs k q)) => treeB_false (xs := xs) (fun ht => hc (by
            have h1 := ht.1
            rw [hl.out, hrs, hps] at h1
            exact (okP_snoc hok.out).1 (okP_app h1))))
          have hok1 := hid (fun h => (okP_snoc (n := n) (k := ith (xth xs k).kids q) hok.out).2 h)
          have hfl := hid (fun (m : Nat) (hm : ith (xth xs k).kids q = (m : Int)) => flg_step hqt hm)
          rw [← hps] at hok1
          have hqk : (q : Int) < ((xth xs k).kids.length : Int) := by omega
          have hki2 := IntWalk.i64_in ((q : Int) + 1) (by omega)
          clear hrs hps
          generalize ith (xth xs k).kids q = u at *
          by_cases h1 : u < 1
          · have hno := hid (hno0.out (fun h => by omega))
            clear hno0 hok1 hfl hok
            go_wp2
            go_ret
            exact ⟨ret_bool hno.out.symm, hR.out.ext⟩
          · by_cases h2 : (n : Int) ≤ u
            · have hno := hid (hno0.out (fun h => by omega))
              clear hno0 hok1 hfl hok
              go_wp2
              go_ret
              exact ⟨ret_bool hno.out.symm, hR.out.ext⟩
            · obtain ⟨m, rfl⟩ : ∃ m : Nat, u = (m : Int) := ⟨u.toNat, by omega⟩
              have hmn : m < n := by omega
              have zf := rowF_cell hR.out.row hmn
              have zg := Lib.frozen_of_heap hR.out.row m
              have lg := World.block_lt_of_cell? _ _ zf
              dsimp only at lg
              have hRs := hid (hR.out.set (hfl.out m rfl))
              cases hfm : flg xs k q m with
              | true =>
                have hno := hid (hno0.out (fun h => h.2.2 (flg_mem.1 hfm)))
                rw [hfm] at zf
                clear hno0 hok1 hfl hok hRs hfm
                go_wp2
                go_ret
                exact ⟨ret_bool hno.out.symm, hR.out.ext⟩
              | false =>
                have hok2 := hid (hok1.out ⟨by omega, by omega, fun hc => by rw [flg_mem.2 hc] at hfm; cases hfm⟩)
                rw [hfm] at zf
                clear hno0 hok1 hfl hok hfm
                go_wp2
                go_roundw
                case rel => exact ⟨q + 1, by omega, by go_num, hok2, hRs⟩
                case measure => simp [intOf]; omega
        · obtain rfl : q = (xth xs k).kids.length := by omega
          have hok2 : Hid (okP n (preK xs (k + 1) 0)) := by unfold Hid; rw [← preK_next hkl.out]; exact hok.out
          have hR2 : Hid (PT w wr g n (flg xs (k + 1) 0)) := by unfold Hid; rw [← flg_next hkl.out]; exact hR.out
          clear hok hR
          go_wp2
          go_roundw
          case rel => exact ⟨k + 1, by omega, by go_num, hok2, hR2⟩
          case measure => simp [intOf]; omega
    · obtain rfl : n = k := by omega
      clear hlt
      have okA : Hid (okP xs.length (allK xs)) := by unfold Hid; rw [← preK_all xs, hl.out]; exact hok.out
      obtain ⟨ad0, -, -, -, -, -, -, rfl, -⟩ := hr.out.at_ (k := 0) (by omega)
      have hRV : Hid (PV w (w0.alloc (.cells #[.int .i64 0] 3)) w0.heap.size n (.slice (some ⟨w0.heap.size, 0, none⟩) 1 1) [0]) := by
        have hxn := (Ext.refl w0).alloc_right (.cells #[.int .i64 0] 3)
        have hq0 := heap_alloc_new w0 (.cells #[.int .i64 0] 3)
        refine ⟨hR.out.ext.trans hxn, ⟨_, _, 0, 1, rfl, ⟨Nat.le_refl _, by decide, fun _ => rfl, fun _ => (Array.getElem?_eq_some_iff.1 hq0).1, fun _ => Nat.le_refl _, fun j u hu => ?_, fun j hj => ?_⟩⟩, hR.out.ext.size, by simp⟩
        · rw [Nat.zero_add, Lib.cell_of_heap hq0]
          have hu2 : ([Value.int .i64 0] : List Value)[j]? = some u := hu
          simpa using hu2
        · obtain rfl : j = 0 := by omega
          rw [Nat.zero_add]
          exact ⟨by rw [Lib.cell_of_heap hq0]; rfl, Lib.frozen_of_heap hq0 0⟩
      clear hR hok
      go_upto_region 15 with fail
      obtain ⟨g2, hg2⟩ : ∃ g2, g2 = w0.heap.size := ⟨_, rfl⟩
      rw [← hg2] at hRV
      simp only [← hg2]
      replace hg2 := hid hg2
      generalize w0.alloc (.cells #[.int .i64 0] 3) = w3 at *
      go_loopw [8, 9] (fun m q wr => ∃ (V todo : List Nat) (Aq : Option Addr) (cq : Nat), m = .int .i64 V.length ∧ q = .slice Aq todo.length cq ∧ Hid (Vis xs V todo) ∧ Hid (PV w wr g2 n (.slice Aq todo.length cq) (toI todo))) (fun m _ _ => n - (intOf m).toNat)
      case atStart => exact ⟨[], [0], _, _, rfl, rfl, Vis.start, hRV⟩
      case round =>
        clear hRV
        obtain ⟨V, todo, Aq, cq, rfl, rfl, hV, hR⟩ := hrel
        have hle2 := hV.out.le2 okA.out (by rw [hl.out]; omega)
        rw [hl.out] at hle2
        rcases List.eq_nil_or_concat todo with rfl | ⟨rest, k, rfl⟩
        · have htr := hV.out.tree okA.out (by rw [hl.out]; omega)
          rw [hl.out] at htr
          replace htr := hid htr
          clear hV
          go_wp2
          go_ret
          refine ⟨ret_bool ?_, hR.out.ext⟩
          rw [← htr.out]
          rw [Bool.eq_iff_iff, decide_eq_true_iff]
          simp [Int.ofNat_inj]
        · rw [List.concat_eq_append] at hV hR hle2 ⊢
          have hst := hV.out.step okA.out (k := k) (rest := rest) List.perm_append_comm
          have hV2 := hid hst.1
          have hkn : k < n := by have := hV.out.lt okA.out (by rw [hl.out]; omega) k (by simp); rw [hl.out] at this; exact this
          have hki : (k : Int) < (n : Int) := by omega
          have hlen1 : (rest ++ [k]).length = rest.length + 1 := by simp
          have htoI : toI (rest ++ [k]) = toI rest ++ [(k : Int)] := by simp [toI]
          rw [hlen1] at hle2 hR ⊢
          rw [htoI] at hR
          have hrl : Hid ((toI rest).length = rest.length) := by simp [Hid, toI]
          obtain ⟨qa, rfl, zq, hqn, hc1, hcm, hq2⟩ := Que.last (x := (k : Int)) (l := toI rest) hR.out.que
          rw [hrl.out] at zq hq2
          obtain ⟨ad0', A1, c1, A2, c2, A3, c3, hA, y0, y1, y2, -, -, r3⟩ := hr.out.at_ hkn
          injection hA with hA
          subst hA
          have hkl3 := h5.out k hkn
          have hln : Hid ((V ++ [k]).length = V.length + 1) := by simp [Hid]
          replace y2 := hR.out.ext.cell y2
          have htk := hid (toI_kd okA.out k)
          have hwi := IntWalk.i64_in ((V.length : Int) + 1) (by omega)
          have hwr : IntKind.i64.wrap ((rest.length : Int) + 1 - 1) = (rest.length : Int) := by rw [show (rest.length : Int) + 1 - 1 = rest.length by omega]; exact IntWalk.i64_in _ (by omega)
          have hwr2 : IntKind.i64.wrap (rest.length : Int) = (rest.length : Int) := IntWalk.i64_in _ (by omega)
          have hri : (rest.length : Int) ≤ (cq : Int) := by omega
          have hri2 : (rest.length : Int) + 1 ≤ (cq : Int) := by omega
          have lqa := World.block_lt_of_cell? _ _ zq
          have hPV : Hid (PV w wr g2 n (.slice (some qa) rest.length cq) (toI rest)) := ⟨hR.out.ext, hq2, hR.out.le, hR.out.hB⟩
          clear hV hst hqn hq2 y0 y1 hlen1 htoI hR
          go_upto_region 17 with fail
          have I0 : (fun w' : World => w'.cell? ⟨(ad0.add (k * 3)).block, (ad0.add (k * 3)).off + 2, none⟩ = some (.slice A3 (xth xs k).kids.length c3)) wr.drew := y2
          refine region_J (fun w' : World => w'.cell? ⟨(ad0.add (k * 3)).block, (ad0.add (k * 3)).off + 2, none⟩ = some (.slice A3 (xth xs k).kids.length c3)) 12 (by kernel_rfl) ?_
          replace hPV := hid hPV.out.drew
          have r4 : Hid (RdI wr.drew A3 (xth xs k).kids.length c3 (xth xs k).kids) := r3.ext hPV.out.ext
          obtain ⟨v', w', happ, hq4, h4a, h4b, h4c, h4d, h4e⟩ := hPV.out.que.append (fun g hg => by have := hPV.out.hB; omega) r4.out (by rw [hrl.out]; omega) 23
          have hRV1 := hid (hPV.out.app hq4 h4a h4b h4c h4d h4e)
          obtain ⟨Ax, cx, rfl, -⟩ := hq4.form
          have I1 : (fun w' : World => w'.cell? ⟨(ad0.add (k * 3)).block, (ad0.add (k * 3)).off + 2, none⟩ = some (.slice A3 (xth xs k).kids.length c3)) w' := by
            obtain ⟨ad9, -, -, -, -, B3, d3, hA, -, -, y9, -, -, -⟩ := hr.out.at_ hkn
            injection hA with hA
            subst hA
            have h9 := hPV.out.ext.cell y9
            have h8 : wr.drew.cell? ⟨(ad0.add (k * 3)).block, (ad0.add (k * 3)).off + 2, none⟩ = some (.slice A3 (xth xs k).kids.length c3) := I0
            rw [h8] at h9
            injection h9 with h9
            have := hRV1.out.ext.cell y9
            rw [← h9] at this
            exact this
          replace happ := hid happ
          clear hPV hq4 h4a h4b h4c h4d h4e r3 r4 zq y2
          generalize wr.drew = w9 at *
          refine JO 0 (v := ?vt0) I0 ?yt0 ?rt0
          case yt0 => (intro w h; have := h; go_simp; with_reducible rfl)
          simp only [Act.put, lyA, lyB, lyC, lyD, lyE, lyF]
          refine JO 1 (v := ?vt1) I0 ?yt1 ?rt1
          case yt1 => (intro w h; have := h; go_simp; with_reducible rfl)
          simp only [Act.put, lyA, lyB, lyC, lyD, lyE, lyF]
          refine JO 2 (v := ?vt2) I0 ?yt2 ?rt2
          case yt2 => (intro w h; have := h; go_simp; with_reducible rfl)
          simp only [Act.put, lyA, lyB, lyC, lyD, lyE, lyF]
          refine JO 3 (v := ?vt3) I0 ?yt3 ?rt3
          case yt3 => (intro w h; have := h; go_simp; with_reducible rfl)
          simp only [Act.put, lyA, lyB, lyC, lyD, lyE, lyF]
          refine JO 4 (v := ?vt4) I0 ?yt4 ?rt4
          case yt4 => (intro w h; have := h; go_simp; with_reducible rfl)
          simp only [Act.put, lyA, lyB, lyC, lyD, lyE, lyF]
          refine JO 5 (v := ?vt5) I0 ?yt5 ?rt5
          case yt5 => (intro w h; have := h; go_simp; with_reducible rfl)
          simp only [Act.put, lyA, lyB, lyC, lyD, lyE, lyF]
          refine JO 6 (v := ?vt6) I0 ?yt6 ?rt6
          case yt6 => (intro w h; have := h; go_simp; with_reducible rfl)
          simp only [Act.put, lyA, lyB, lyC, lyD, lyE, lyF]
          refine JO 7 (v := ?vt7) I0 ?yt7 ?rt7
          case yt7 => (intro w h; have := h; go_simp; with_reducible rfl)
          simp only [Act.put, lyA, lyB, lyC, lyD, lyE, lyF]
          refine JO 8 (v := ?vt8) I0 ?yt8 ?rt8
          case yt8 => (intro w h; have := h; go_simp; with_reducible rfl)
          simp only [Act.put, lyA, lyB, lyC, lyD, lyE, lyF]
          refine JO 9 (v := ?vt9) I0 ?yt9 ?rt9
          case yt9 => (intro w h; have := h; go_simp; with_reducible rfl)
          simp only [Act.put, lyA, lyB, lyC, lyD, lyE, lyF]
          refine J_one 10 rfl (by kernel_rfl) (fun K hK => ?_)
          refine step_run rfl _ (ex_append _ _ _ _ rfl _ _ (by simp [Act.eval, Act.put]) (by simp [Act.eval, Act.put]) _ happ.out) ?_
          refine hK _ _ ⟨fun _ => I1, ?_⟩
          clear hK K happ
          try simp only [Act.put, lyA, lyB, lyC, lyD, lyE, lyF]
          refine J_one 11 rfl (by kernel_rfl) (fun K hK => ?_)
          go_simp
          refine hK _ _ ⟨fun _ => I1, ?_⟩
          clear hK K
          refine J_done (by kernel_rfl) (OnlyOn.normal ?_)
          clear I0 I1
          go_wp2_with fail
          go_roundw
          case rel =>
            refine ⟨V ++ [k], rest ++ kd xs k, Ax, cx, by rw [hln.out]; go_num, ?_, hV2, ?_⟩
            · congr 1
              simp [toI, kd_len]
            · have h9 := hRV1.out
              rw [← htk.out] at h9
              have e9 : toI rest ++ toI (kd xs k) = toI (rest ++ kd xs k) := by simp [toI]
              rw [e9] at h9
              have e8 : (toI (rest ++ kd xs k)).length = (rest ++ kd xs k).length := by simp [toI]
              rw [e8] at h9
              exact h9
          case measure => simp [intOf]; omega
open Go.RowKit Go.Shelf
def GiveDP (xs : List Nx) (k : Nat) (w : World) (e : Ending) (w' : World) : Prop := ∃ r : Int, e = .returned (.int .i64 r) ∧ DP xs k r ∧ w = w'
theorem kid_ud {xs : List Nx} {k q h : Nat} (hq : q < (xth xs k).kids.length) (ok : okP xs.length (allK xs)) (hU : UD xs h k) : ∃ h', h = h' + 1 ∧ UD xs h' (kdn xs k q) := by
  obtain ⟨e1, e2, e3⟩ := kdn_is ok hq
  cases h with
  | zero => rw [hU.2] at e2; cases e2
  | succ h => exact ⟨h, rfl, hU.2.2 _ e2⟩
def seenD (xs : List Nx) (k q : Nat) (r : Int) : Prop := (q = 0 ∧ r = -1) ∨ (0 < q ∧ ∃ h : Nat, r = h ∧ ∀ j, j < q → UD xs h (kdn xs k j))
theorem pDepth_any (A : Option Addr) (n c : Nat) (xs : List Nx) (hok : okP n (allK xs)) : ∀ (f k : Nat) (w : World), RX w A n c xs → UT xs f k → f ≤ 100000 → Calls Tryz.prog 104 #[.slice A n c, .int .i64 k] w (GiveDP xs k w) := by
  intro f
  induction f with
  | zero => intro k w _ h; exact h.elim
  | succ f ih =>
  intro k w hr hU hf
  have hl := hr.len
  have hkn : k < n := by have := hU.1; omega
  have hkx := hU.1
  have hm := RX.max hr
  obtain ⟨ad0, A1, c1, A2, c2, A3, c3, rfl, y0, y1, y2, -, -, r3⟩ := hr.at_ hkn
  have hkl5 := (RdI.max r3).1
  have hki : (k : Int) < (n : Int) := by omega
  have okA : okP xs.length (allK xs) := by rw [hl]; exact hok
  have hkid : Hid (∀ q, q < (xth xs k).kids.length → ith (xth xs k).kids q = (kdn xs k q : Int) ∧ Calls Tryz.prog 104 #[.slice (some ad0) n c, .int .i64 (kdn xs k q : Int)] w (GiveDP xs (kdn xs k q) w) ∧ UT xs f (kdn xs k q)) := fun q hq => by
    obtain ⟨e1, e2, e3⟩ := kdn_is okA hq
    exact ⟨e1, ih _ w hr (hU.2 _ e2) (by omega), hU.2 _ e2⟩
  have hup : Hid (∀ q, q < (xth xs k).kids.length → ∀ h, UD xs h k → ∃ h', h = h' + 1 ∧ UD xs h' (kdn xs k q)) := fun q hq h hu => kid_ud hq okA hu
  have hend : Hid (∀ r, seenD xs k (xth xs k).kids.length r → DP xs k (r + 1)) := fun r hs => by
    rcases hs with ⟨h0, rfl⟩ | ⟨h0, h, rfl, hj⟩
    · exact .inl ⟨0, rfl, hkx, List.eq_nil_of_length_eq_zero (by rw [kd_len]; exact h0)⟩
    · refine .inl ⟨h + 1, by omega, hkx, fun e => ?_, fun u hu => ?_⟩
      · have : (kd xs k).length = 0 := by rw [e]; rfl
        rw [kd_len] at this
        omega
      · obtain ⟨j, hjl, rfl⟩ := List.mem_iff_getElem.1 hu
        rw [kd_len] at hjl
        have := hj j hjl
        rwa [show kdn xs k j = (kd xs k)[j] by simp [kdn, List.getD, hjl, kd_len]] at this
  have hf2 : f ≤ 100000 := by omega
  clear ih hU y0 y1 hkx okA hr hl hok
  replace r3 := hid r3
  go_enter Tryz.func104, Tryz.ntmps104
  go_wp2_with fail
  generalize (xth xs k).kids.length = kn at *
  go_loopw [5, 15] (fun o i wr => ∃ (q : Nat) (r : Int), q ≤ kn ∧ i = .int .i64 q ∧ o = .int .i64 r ∧ -1 ≤ r ∧ r ≤ 100000 ∧ Hid (seenD xs k q r) ∧ w = wr) (fun _ i _ => kn - (intOf i).toNat)
  case atStart => exact ⟨0, -1, by omega, rfl, rfl, by omega, by omega, .inl ⟨rfl, rfl⟩, rfl⟩
  case round =>
    obtain ⟨q, r, hq, rfl, rfl, hr1, hr2, hs, rfl⟩ := hrel
    by_cases hlt : q < kn
    · obtain ⟨e1, hC, hUT⟩ := hkid.out q hlt
      obtain ⟨kad, rfl, zk⟩ := rdi_at r3.out hlt
      rw [e1] at zk
      have hqi : (q : Int) < (kn : Int) := by omega
      have hC' := hid hC
      replace hUT := hid hUT
      clear hC e1
      go_wp2_with fail
      refine hC'.out.mono ?_
      rintro e w2 ⟨d, rfl, hd, rfl⟩
      replace hd := hid hd
      rcases hd.out with ⟨h', rfl, hu'⟩ | ⟨rfl, hnu⟩
      · have hlf := hu'.fuel hUT.out
        have hh0 : ¬ (h' : Int) < 0 := by omega
        rcases hs.out with ⟨rfl, rfl⟩ | ⟨hq0, h, rfl, hj⟩
        · have hs2 : Hid (seenD xs k 1 (h' : Int)) := .inr ⟨by omega, h', rfl, fun j hj => by
            have e : j = 0 := (by omega)
            rw [e]
            exact hu'⟩
          clear hd hs hu'
          go_wp2
          go_roundw
          case rel => exact ⟨0 + 1, _, by omega, by go_num, rfl, by omega, by omega, hs2, by first | rfl | trivial⟩
          case measure => simp [intOf]; omega
        · have hq1 : (0 : Int) < (q : Int) := by omega
          by_cases he : h' = h
          · have hs2 : Hid (seenD xs k (q + 1) (h' : Int)) := .inr ⟨by omega, h', rfl, fun j hj2 => by
              by_cases e : j = q
              · rw [e]; exact hu'
              · rw [he]; exact hj j (by omega)⟩
            have hne : ((h' : Int) != (h : Int)) = false := by rw [he]; simp
            have he2 : (h' : Int) = (h : Int) := by rw [he]
            clear hd hs hu' hj
            subst he
            go_wp2
            go_roundw
            case rel => exact ⟨q + 1, _, by omega, by go_num, rfl, by omega, by omega, hs2, by first | rfl | trivial⟩
            case measure => simp [intOf]; omega
          · have hDP : Hid (DP xs k (-1)) := .inr ⟨rfl, fun H hH => by
              obtain ⟨a, ea, ha⟩ := hup.out q hlt H hH
              obtain ⟨b, eb, hb⟩ := hup.out 0 (by omega) H hH
              have h1 := UD.one ha hu'
              have h2 := UD.one hb (hj 0 hq0)
              omega⟩
            have hne : ((h' : Int) != (h : Int)) = true := by simpa using (by omega : ¬ (h' : Int) = h)
            clear hd hs hu' hj
            go_wp2
            go_ret
            exact ⟨-1, rfl, hDP.out, rfl⟩
      · have hDP : Hid (DP xs k (-1)) := .inr ⟨rfl, fun H hH => by
          obtain ⟨a, ea, ha⟩ := hup.out q hlt H hH
          exact hnu a ha⟩
        clear hd hs hnu
        go_wp2
        go_ret
        exact ⟨-1, rfl, hDP.out, rfl⟩
    · obtain rfl : q = kn := by omega
      have hfin := hid (hend.out r hs.out)
      go_wp2
      go_ret
      exact ⟨_, rfl, hfin.out, rfl⟩
def GiveEn (l : List Te) (w : World) (e : Ending) (w' : World) : Prop := ∃ v, e = .returned v ∧ w'.ownsRow w.heap.size 65 2 v l.length (tents l) ∧ Ext w w'
theorem entsN_any (A1 A2 A3 : Option Addr) (a c1 c2 d c3 : Nat) (l : List Te) (w : World) (ha : a ≤ 1000) (hl : l.length = a) (h1 : Rd w 1 A1 a c1 (strv (l.map Te.key))) (h2 : RdI w A2 a c2 (l.map Te.no)) : Calls Tryz.prog 108 #[.agg #[.slice A1 a c1, .slice A2 a c2, .slice A3 d c3]] w (GiveEn l w) := by
  obtain ⟨i0, hi0, hz0, hz1, hz2⟩ := info_parts infoN
  have hx1 := (Ext.refl w).alloc_right (.cells #[.slice A1 a c1, .slice A2 a c2, .slice A3 d c3] 113)
  have hb0 := heap_alloc_new w (.cells #[.slice A1 a c1, .slice A2 a c2, .slice A3 d c3] 113)
  have z0 : (w.alloc (.cells #[.slice A1 a c1, .slice A2 a c2, .slice A3 d c3] 113)).cell? ⟨w.heap.size, 0, none⟩ = some (.slice A1 a c1) := by rw [Lib.cell_of_heap hb0]; rfl
  have z1 : (w.alloc (.cells #[.slice A1 a c1, .slice A2 a c2, .slice A3 d c3] 113)).cell? ⟨w.heap.size, 1, none⟩ = some (.slice A2 a c2) := by rw [Lib.cell_of_heap hb0]; rfl
  have lb := World.block_lt_of_cell? _ _ z0
  dsimp only at lb
  have hkey : Hid (∀ i, i < a → ∃ k1 k2, A1 = some k1 ∧ A2 = some k2 ∧ ∀ w', Ext w w' → w'.cell? (k1.add i) = some (.string (tth l i).key) ∧ w'.cell? (k2.add i) = some (.int .i64 (tth l i).no)) := fun i hi => by
    obtain ⟨k1, e1, e2⟩ := rds_at h1 hi
    obtain ⟨k2, e3, e4⟩ := rdi_at h2 hi
    rw [(tth_key (by omega)).1] at e2
    rw [(tth_key (by omega)).2] at e4
    exact ⟨k1, k2, e1, e3, fun w' hx => ⟨hx.cell e2, hx.cell e4⟩⟩
  replace hl := hid hl
  replace hx1 := hid hx1
  clear hb0 h1 h2
  go_enter Tryz.func108, Tryz.ntmps108
  go_upto_region 1 with fail
  obtain ⟨b, hb⟩ : ∃ b, b = w.heap.size := ⟨_, rfl⟩
  rw [← hb] at z0 z1 lb
  simp only [← hb]
  replace hb := hid hb
  generalize w.alloc (.cells #[.slice A1 a c1, .slice A2 a c2, .slice A3 d c3] 113) = w1 at *
  go_wp2_with fail
  go_loopw [3, 9] (fun o i wr => ∃ (k : Nat) (Ao : Option Addr) (No co : Nat), k ≤ a ∧ i = .int .i64 k ∧ o = .slice Ao No co ∧ Hid (wr.ownsRow w1.heap.size 65 2 (.slice Ao No co) (l.take k).length (tents (l.take k))) ∧ Hid (Ext w1 wr)) (fun _ i _ => a - (intOf i).toNat)
  case atStart => exact ⟨0, _, _, _, by omega, rfl, rfl, World.ownsRow_nil _ _ _ _, Ext.refl _⟩
  case round =>
    obtain ⟨k, Ao, No, co, hk, rfl, rfl, hown, hx⟩ := hrel
    by_cases hlt : k < a
    · obtain ⟨k1, k2, rfl, rfl, hcc⟩ := hkey.out k hlt
      obtain ⟨y0, y1⟩ := hcc wr (hx1.out.trans hx.out)
      have q0 := hx.out.cell z0
      have q1 := hx.out.cell z1
      have hki : (k : Int) < (a : Int) := by omega
      have hlb := Nat.lt_of_lt_of_le lb hx.out.size
      have hlen : Hid ((l.take (k + 1)).length = (l.take k).length + 1) := by have := hl.out; unfold Hid; rw [List.length_take, List.length_take]; omega
      have hll : (l.take k).length ≤ 1000 := by rw [List.length_take]; omega
      have hten : Hid (tents (l.take (k + 1)) = tents (l.take k) ++ [.string (tth l k).key, .int .i64 (tth l k).no]) := by
        have := hl.out
        unfold Hid
        rw [List.take_succ_eq_append_getElem (by omega), tents_snoc, tth_get (by omega)]
      generalize tth l k = x at *
      have hB : w1.heap.size ≤ wr.heap.size := hx.out.size
      have hxe := hid (fun w2 (hg : (wr.alloc (.cells #[.string x.key, .int .i64 x.no] 65)).grownBy w2 (Value.slice Ao No co).ownBlock) => below_push (hx.out.alloc_right _) (hown.out.alloc (.cells #[.string x.key, .int .i64 x.no] 65)) hg (by simp; omega))
      clear hcc
      generalize tents (l.take k) = xs at *
      generalize (l.take k).length = m at *
      have hown1 : Hid (∀ o, (wr.alloc o).ownsRow w1.heap.size 65 2 (.slice Ao No co) m xs) := fun o => hown.out.alloc o
      go_wp2_with (at_builtin; refine wpList_push _ rfl _ _ 45 rfl w1.heap.size 65 i0 _ 2 24 Tryz.underlying45 hi0 hz0 hz1 hz2 rfl (by decide) _ _ _ rfl hown.out [.string x.key, .int .i64 x.no] (by simp [Act.eval]) rfl (by simp [Value.oneCell']) (by unfold maxLen; omega) (by omega) hB ?_)
      intro g2 d2 w2 own2 hg2 hat
      have own3 : Hid (w2.ownsRow w1.heap.size 65 2 (.slice (some ⟨g2, 0, none⟩) (m + 1) d2) (l.take (k + 1)).length (tents (l.take (k + 1)))) := by
        unfold Hid
        rw [hlen.out, hten.out]
        exact own2
      have hx2 : Hid (Ext w1 w2) := below_push hx.out hown.out hg2 hB
      clear hg2 hat own2 hlen hten hxe hown1
      go_wp2_with fail
      go_roundw
      case rel => exact ⟨k + 1, _, _, _, by omega, by go_num, rfl, own3, hx2⟩
      case measure => simp [intOf]; omega
    · obtain rfl : k = a := by omega
      have hfin : Hid (l.take k = l) := List.take_of_length_le (by have := hl.out; omega)
      go_wp2
      go_ret
      exact ⟨_, rfl, by have h9 := hown.out; rw [hfin.out] at h9; exact own_baseK h9 hx1.out.size, hx1.out.trans hx.out⟩
end Go.Proofs.YtjjikkhhlpikbaaGreatDoor
