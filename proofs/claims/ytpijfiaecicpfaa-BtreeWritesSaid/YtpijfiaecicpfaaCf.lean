/-
  A node that is read out of bytes.
-/
import Derived.Test.YtpijfiaecicpfaaCe
import Derived.Test.YtpijfiaecicpfaaBi
namespace Go.Proofs.Ytpijfiaecicpfaa
open Go.RowKit Go.Shelf
set_option linter.unusedVariables false
set_option linter.unusedSimpArgs false
/-! ### Plainly -/
def kStep (p : Nx × St) : Nx × St :=
  (⟨p.1.keys ++ [strI (tk (oneV p.2).toNat (tk 1 p.2).2).1], p.1.recs ++ [twoV (tk (oneV p.2).toNat (tk 1 p.2).2).2], p.1.kids⟩, (tk 2 (tk (oneV p.2).toNat (tk 1 p.2).2).2).2)
def dStep (p : Nx × St) : Nx × St := (⟨p.1.keys, p.1.recs, p.1.kids ++ [twoV p.2]⟩, (tk 2 p.2).2)
def stepG (g : Bool) (F : Nx × St → Nx × St) (p : Nx × St) : Nx × St := if (g && !p.2.ok) = true then p else F p
def itG (g : Bool) (F : Nx × St → Nx × St) : Nat → Nx × St → Nx × St
  | 0, p => p
  | n + 1, p => stepG g F (itG g F n p)
def node0 (s : St) : Nx × St := (⟨[], [], []⟩, (tk 1 (tk 1 s).2).2)
/-- A node, read; asked whether all is there before each part, or not. -/
def nodeF (g : Bool) (s : St) : Nx × St := itG g dStep (oneV (tk 1 s).2).toNat (itG g kStep (oneV s).toNat (node0 s))
theorem one_rng {s : St} (h : isB s.l) : 0 ≤ oneV s ∧ oneV s ≤ 255 := nth_isB (tk_isB h).1 0
theorem two_rng {s : St} (h : isB s.l) : 0 ≤ twoV s ∧ twoV s ≤ 65535 := by
  have h1 := nth_isB (tk_isB (n := 2) h).1 0
  have h2 := nth_isB (tk_isB (n := 2) h).1 1
  unfold twoV
  omega
theorem it_isB {g : Bool} {F : Nx × St → Nx × St} (hF : ∀ p, isB p.2.l → isB (F p).2.l) {p : Nx × St} (hp : isB p.2.l) : ∀ n, isB (itG g F n p).2.l
  | 0 => hp
  | n + 1 => by
    unfold itG stepG
    split
    · exact it_isB hF hp n
    · exact hF _ (it_isB hF hp n)
theorem k_isB (p : Nx × St) (h : isB p.2.l) : isB (kStep p).2.l := (tk_isB (tk_isB (tk_isB h).2).2).2
theorem d_isB (p : Nx × St) (h : isB p.2.l) : isB (dStep p).2.l := (tk_isB h).2
theorem it_len {g : Bool} {F : Nx × St → Nx × St} {Q : Nx → Nat} (hF : ∀ p, Q (F p).1 ≤ Q p.1 + 1) {p : Nx × St} : ∀ n, Q (itG g F n p).1 ≤ Q p.1 + n
  | 0 => Nat.le_refl _
  | n + 1 => by
    have ih := it_len (g := g) hF (p := p) n
    unfold itG stepG
    split
    · omega
    · have := hF (itG g F n p); omega
theorem k_len (p : Nx × St) : (kStep p).1.keys.length ≤ p.1.keys.length + 1 ∧ (kStep p).1.recs.length ≤ p.1.recs.length + 1 ∧ (kStep p).1.kids = p.1.kids := by simp [kStep]
theorem d_len (p : Nx × St) : (dStep p).1.kids.length ≤ p.1.kids.length + 1 ∧ (dStep p).1.keys = p.1.keys ∧ (dStep p).1.recs = p.1.recs := by simp [dStep]
/-! ### In memory -/
/-- A node that is being read: its block, its three rows; what has turned since w0 is the reader's, or new. -/
structure NDx (w0 w : World) (r y : Nat) (kv rv dv : Value) (x : Nx) : Prop where
  hy : w.heap[y]? = some (.cells #[kv, rv, dv] 69 (0, 0))
  ok : w.ownsRow w0.heap.size 9 1 kv x.keys.length (strv x.keys)
  or_ : w.ownsRow w0.heap.size 3 1 rv x.recs.length (ints x.recs)
  od : w.ownsRow w0.heap.size 3 1 dv x.kids.length (ints x.kids)
  nd : ∀ a, one1 y a + ob kv a + ob rv a + ob dv a ≤ 1
  yl : w0.heap.size ≤ y
  fr : FR (one1 r) w0 w
  rl : r < w0.heap.size
theorem nd3_set2 {w : World} {p : Nat} {a b c : Value} {t : TypeId} (h : w.heap[p]? = some (.cells #[a, b, c] t (0, 0))) (u : Value) : (w.setCell ⟨p, 2, none⟩ u).heap[p]? = some (.cells #[a, b, u] t (0, 0)) := by
  simp [World.setCell, Array.getElem?_modify, h]
section
variable {w0 w w' : World} {r y : Nat} {kv rv dv : Value} {x : Nx}
theorem NDx.up (h : NDx w0 w r y kv rv dv x) (hF : FR (one1 r) w w') : NDx w0 w' r y kv rv dv x := by
  have hr := h.rl
  have hy := h.yl
  have hz : ∀ a, w0.heap.size ≤ a → one1 r a = 0 := fun a ha => if_neg (by omega)
  exact ⟨(hF.2.2.2.2 y (Array.getElem?_eq_some_iff.1 h.hy).1 (hz y hy)).trans h.hy, hF.own h.ok (fun k e => hz k (own_freshB h.ok k e)), hF.own h.or_ (fun k e => hz k (own_freshB h.or_ k e)), hF.own h.od (fun k e => hz k (own_freshB h.od k e)), h.nd, hy, h.fr.trans hF (fun _ _ h => h), hr⟩
theorem NDx.start (w0 : World) (hr : r < w0.heap.size) : NDx w0 (w0.alloc (.cells #[.slice none 0 0, .slice none 0 0, .slice none 0 0] 69)) r w0.heap.size (.slice none 0 0) (.slice none 0 0) (.slice none 0 0) ⟨[], [], []⟩ := by
  have hnil : ∀ a, ob (.slice none 0 0) a = 0 := fun a => if_neg (by intro e; cases e)
  refine ⟨heap_alloc_new w0 _, World.ownsRow_nil _ _ _ _, World.ownsRow_nil _ _ _ _, World.ownsRow_nil _ _ _ _, fun a => ?_, Nat.le_refl _, FR.of_ext ((Ext.refl w0).alloc_right _), hr⟩
  rw [hnil a]
  unfold one1
  split <;> omega
theorem NDx.add0 (h : NDx w0 w r y kv rv dv x) {w2 w3 : World} {v' : Value} {s : ByteArray} (hx : Ext w w2) (hg : w2.grownBy w3 kv.ownBlock) (ho : w3.ownsRow w0.heap.size 9 1 v' (x.keys ++ [s]).length (strv (x.keys ++ [s]))) (hl : v'.ownBlock = kv.ownBlock ∨ ∀ k, v'.ownBlock = some k → w2.heap.size ≤ k) :
    NDx w0 (w3.setCell ⟨y, 0, none⟩ v') r y v' rv dv ⟨x.keys ++ [s], x.recs, x.kids⟩ ∧ FR (fun a => ob kv a + one1 y a) w (w3.setCell ⟨y, 0, none⟩ v') ∧ w3.heap[y]? = some (.cells #[kv, rv, dv] 69 (0, 0)) := by
  have H2 := h.up (FR.of_ext hx)
  have hny := h.nd y
  rw [one_self] at hny
  have hyl := (Array.getElem?_eq_some_iff.1 h.hy).1
  have hsz := hx.size
  have hk'y : ob v' y = 0 := by
    rcases hl with e | e
    · rw [ob_same e]; omega
    · exact if_neg (fun e2 => by have := e y e2; omega)
  have h3 : w3.heap[y]? = some (.cells #[kv, rv, dv] 69 (0, 0)) := (hg.block y (Array.getElem?_eq_some_iff.1 H2.hy).1 (fun e => by rw [ob_some e.symm] at hny; omega)).trans H2.hy
  have hF : FR (fun a => ob kv a + one1 y a) w (w3.setCell ⟨y, 0, none⟩ v') := ((FR.of_ext hx).trans ((FR.of_grown hg (f := ob kv) (fun k e => by rw [ob_some (by first | exact e | exact e.symm)]; exact Nat.one_pos)).mono (f' := fun a => ob kv a + one1 y a) (fun k _ h0 => by show ob kv k = 0; omega)) (fun k _ h0 => h0)).trans (fr_set (b := y)) (fun k _ h0 => by show one1 y k = 0; omega)
  refine ⟨⟨nd3_set0 h3 _, own_set ho (ob_zero hk'y) _ _, own_set (own_ne H2.or_ hg (fun k e e2 => by have := h.nd k; rw [ob_some e, ob_some e2] at this; omega)) (fun e => by have := h.nd y; rw [ob_some e, one_self] at this; omega) _ _, own_set (own_ne H2.od hg (fun k e e2 => by have := h.nd k; rw [ob_some e, ob_some e2] at this; omega)) (fun e => by have := h.nd y; rw [ob_some e, one_self] at this; omega) _ _, fun a => ?_, h.yl, h.fr.trans hF (fun k hk h0 => ?_), h.rl⟩, hF, h3⟩
  · have hn := h.nd a
    rcases hl with e | e
    · rw [ob_same e]; exact hn
    · by_cases e2 : v'.ownBlock = some a
      · have ha := e a e2
        have := own_bound h.ok (show w.heap.size ≤ a by omega)
        have := own_bound h.or_ (show w.heap.size ≤ a by omega)
        have := own_bound h.od (show w.heap.size ≤ a by omega)
        have : one1 y a = 0 := if_neg (by omega)
        have : ob v' a ≤ 1 := by unfold ob; split <;> omega
        omega
      · rw [show ob v' a = 0 from if_neg e2]; omega
  · have : ob kv k = 0 := if_neg (fun e => by have := own_freshB h.ok _ e; omega)
    have : one1 y k = 0 := if_neg (by have := h.yl; omega)
    show ob kv k + one1 y k = 0
    omega
theorem NDx.add1 (h : NDx w0 w r y kv rv dv x) {w2 w3 : World} {v' : Value} {s : Int} (hx : Ext w w2) (hg : w2.grownBy w3 rv.ownBlock) (ho : w3.ownsRow w0.heap.size 3 1 v' (x.recs ++ [s]).length (ints (x.recs ++ [s]))) (hl : v'.ownBlock = rv.ownBlock ∨ ∀ k, v'.ownBlock = some k → w2.heap.size ≤ k) :
    NDx w0 (w3.setCell ⟨y, 1, none⟩ v') r y kv v' dv ⟨x.keys, x.recs ++ [s], x.kids⟩ ∧ FR (fun a => ob rv a + one1 y a) w (w3.setCell ⟨y, 1, none⟩ v') ∧ w3.heap[y]? = some (.cells #[kv, rv, dv] 69 (0, 0)) := by
  have H2 := h.up (FR.of_ext hx)
  have hny := h.nd y
  rw [one_self] at hny
  have hyl := (Array.getElem?_eq_some_iff.1 h.hy).1
  have hsz := hx.size
  have hk'y : ob v' y = 0 := by
    rcases hl with e | e
    · rw [ob_same e]; omega
    · exact if_neg (fun e2 => by have := e y e2; omega)
  have h3 : w3.heap[y]? = some (.cells #[kv, rv, dv] 69 (0, 0)) := (hg.block y (Array.getElem?_eq_some_iff.1 H2.hy).1 (fun e => by rw [ob_some e.symm] at hny; omega)).trans H2.hy
  have hF : FR (fun a => ob rv a + one1 y a) w (w3.setCell ⟨y, 1, none⟩ v') := ((FR.of_ext hx).trans ((FR.of_grown hg (f := ob rv) (fun k e => by rw [ob_some (by first | exact e | exact e.symm)]; exact Nat.one_pos)).mono (f' := fun a => ob rv a + one1 y a) (fun k _ h0 => by show ob rv k = 0; omega)) (fun k _ h0 => h0)).trans (fr_set (b := y)) (fun k _ h0 => by show one1 y k = 0; omega)
  refine ⟨⟨nd3_set1 h3 _, own_set (own_ne H2.ok hg (fun k e e2 => by have := h.nd k; rw [ob_some e, ob_some e2] at this; omega)) (fun e => by have := h.nd y; rw [ob_some e, one_self] at this; omega) _ _, own_set ho (ob_zero hk'y) _ _, own_set (own_ne H2.od hg (fun k e e2 => by have := h.nd k; rw [ob_some e, ob_some e2] at this; omega)) (fun e => by have := h.nd y; rw [ob_some e, one_self] at this; omega) _ _, fun a => ?_, h.yl, h.fr.trans hF (fun k hk h0 => ?_), h.rl⟩, hF, h3⟩
  · have hn := h.nd a
    rcases hl with e | e
    · rw [ob_same e]; exact hn
    · by_cases e2 : v'.ownBlock = some a
      · have ha := e a e2
        have := own_bound h.ok (show w.heap.size ≤ a by omega)
        have := own_bound h.or_ (show w.heap.size ≤ a by omega)
        have := own_bound h.od (show w.heap.size ≤ a by omega)
        have : one1 y a = 0 := if_neg (by omega)
        have : ob v' a ≤ 1 := by unfold ob; split <;> omega
        omega
      · rw [show ob v' a = 0 from if_neg e2]; omega
  · have : ob rv k = 0 := if_neg (fun e => by have := own_freshB h.or_ _ e; omega)
    have : one1 y k = 0 := if_neg (by have := h.yl; omega)
    show ob rv k + one1 y k = 0
    omega
theorem NDx.add2 (h : NDx w0 w r y kv rv dv x) {w2 w3 : World} {v' : Value} {s : Int} (hx : Ext w w2) (hg : w2.grownBy w3 dv.ownBlock) (ho : w3.ownsRow w0.heap.size 3 1 v' (x.kids ++ [s]).length (ints (x.kids ++ [s]))) (hl : v'.ownBlock = dv.ownBlock ∨ ∀ k, v'.ownBlock = some k → w2.heap.size ≤ k) :
    NDx w0 (w3.setCell ⟨y, 2, none⟩ v') r y kv rv v' ⟨x.keys, x.recs, x.kids ++ [s]⟩ ∧ FR (fun a => ob dv a + one1 y a) w (w3.setCell ⟨y, 2, none⟩ v') ∧ w3.heap[y]? = some (.cells #[kv, rv, dv] 69 (0, 0)) := by
  have H2 := h.up (FR.of_ext hx)
  have hny := h.nd y
  rw [one_self] at hny
  have hyl := (Array.getElem?_eq_some_iff.1 h.hy).1
  have hsz := hx.size
  have hk'y : ob v' y = 0 := by
    rcases hl with e | e
    · rw [ob_same e]; omega
    · exact if_neg (fun e2 => by have := e y e2; omega)
  have h3 : w3.heap[y]? = some (.cells #[kv, rv, dv] 69 (0, 0)) := (hg.block y (Array.getElem?_eq_some_iff.1 H2.hy).1 (fun e => by rw [ob_some e.symm] at hny; omega)).trans H2.hy
  have hF : FR (fun a => ob dv a + one1 y a) w (w3.setCell ⟨y, 2, none⟩ v') := ((FR.of_ext hx).trans ((FR.of_grown hg (f := ob dv) (fun k e => by rw [ob_some (by first | exact e | exact e.symm)]; exact Nat.one_pos)).mono (f' := fun a => ob dv a + one1 y a) (fun k _ h0 => by show ob dv k = 0; omega)) (fun k _ h0 => h0)).trans (fr_set (b := y)) (fun k _ h0 => by show one1 y k = 0; omega)
  refine ⟨⟨nd3_set2 h3 _, own_set (own_ne H2.ok hg (fun k e e2 => by have := h.nd k; rw [ob_some e, ob_some e2] at this; omega)) (fun e => by have := h.nd y; rw [ob_some e, one_self] at this; omega) _ _, own_set (own_ne H2.or_ hg (fun k e e2 => by have := h.nd k; rw [ob_some e, ob_some e2] at this; omega)) (fun e => by have := h.nd y; rw [ob_some e, one_self] at this; omega) _ _, own_set ho (ob_zero hk'y) _ _, fun a => ?_, h.yl, h.fr.trans hF (fun k hk h0 => ?_), h.rl⟩, hF, h3⟩
  · have hn := h.nd a
    rcases hl with e | e
    · rw [ob_same e]; exact hn
    · by_cases e2 : v'.ownBlock = some a
      · have ha := e a e2
        have := own_bound h.ok (show w.heap.size ≤ a by omega)
        have := own_bound h.or_ (show w.heap.size ≤ a by omega)
        have := own_bound h.od (show w.heap.size ≤ a by omega)
        have : one1 y a = 0 := if_neg (by omega)
        have : ob v' a ≤ 1 := by unfold ob; split <;> omega
        omega
      · rw [show ob v' a = 0 from if_neg e2]; omega
  · have : ob dv k = 0 := if_neg (fun e => by have := own_freshB h.od _ e; omega)
    have : one1 y k = 0 := if_neg (by have := h.yl; omega)
    show ob dv k + one1 y k = 0
    omega
end
theorem conv_nil (c : Nat) (w : World) : (convert 43 9 (.slice none 0 c)).run Try.prog w = .ok (.string (strI [])) w := by
  have hu := Try.runUnderlying43
  have hu2 := Try.runUnderlying9
  have hu3 := Try.runUnderlying5
  simp [convert, hu, hu2, hu3, strI, Conv.bytesToString, Builtin.firstCells]
  rfl
theorem conv_any {w : World} {A : Option Addr} {n c : Nat} {l : List Int} (h : RdB w A n c l) : (convert 43 9 (.slice A n c)).run Try.prog w = .ok (.string (strI l)) w := by
  cases A with
  | some a => exact conv_rd h
  | none =>
    have hn : n = 0 := by
      rcases Nat.eq_zero_or_pos n with h0 | h0
      · exact h0
      · obtain ⟨ad, e, _⟩ := h.1.2.2.2 h0
        cases e
    subst hn
    have hl : l = [] := List.eq_nil_of_length_eq_zero h.len
    subst hl
    exact conv_nil c w
theorem put3 {w : World} {b : Nat} {a0 a1 a2 : Value} {t : TypeId} (h : w.heap[b]? = some (.cells #[a0, a1, a2] t (0, 0))) (v0 v1 v2 : Value) : (((w.setCell ⟨b, 0, none⟩ v0).setCell ⟨b, 1, none⟩ v1).setCell ⟨b, 2, none⟩ v2).heap[b]? = some (.cells #[v0, v1, v2] t (0, 0)) := nd3_set2 (nd3_set1 (nd3_set0 h v0) v1) v2
/-- It returns a node that has been read. -/
def GiveNd (B r : Nat) (x : Nx) (s' : St) (w : World) (e : Ending) (w' : World) : Prop := ∃ kv rv dv g, e = .returned (.agg #[kv, rv, dv]) ∧ NR w' w.heap.size ⟨kv, rv, dv⟩ x g ∧ (∀ a, g a ≤ 1) ∧ RP B w' r s' ∧ FR (one1 r) w w'
set_option maxRecDepth 100000 in
set_option maxHeartbeats 16000000 in
theorem node_any (B r : Nat) (s0 : St) (w : World) (h : RP B w r s0) (hB : B ≤ w.heap.size) : Calls Try.prog 53 #[.pointer (some ⟨r, 0, none⟩)] w (GiveNd B r (nodeF false s0).1 (nodeF false s0).2 w) := by
  obtain ⟨iS, hS0, hS1, hS2, hS3⟩ := info_parts infoS
  obtain ⟨iI, hI0, hI1, hI2, hI3⟩ := info_parts infoI
  have hisB := h.isB
  have hr1 := one_rng hisB
  have hr2 := one_rng (tk_isB (n := 1) hisB).2
  have hb2 := (tk_isB (n := 1) (tk_isB (n := 1) hisB).2).2
  obtain ⟨k1, hk1⟩ : ∃ k1, (oneV s0).toNat = k1 := ⟨_, rfl⟩
  obtain ⟨k2, hk2⟩ : ∃ k2, (oneV (tk 1 s0).2).toNat = k2 := ⟨_, rfl⟩
  have ho1 : oneV s0 = (k1 : Int) := by omega
  have ho2 : oneV (tk 1 s0).2 = (k2 : Int) := by omega
  have hk1b : k1 ≤ 255 := by omega
  have hk2b : k2 ≤ 255 := by omega
  have hNF : Hid (nodeF false s0 = itG false dStep k2 (itG false kStep k1 (node0 s0))) := by unfold Hid nodeF; rw [hk1, hk2]
  have hp0 : Hid ((node0 s0).2 = (tk 1 (tk 1 s0).2).2 ∧ (node0 s0).1 = ⟨[], [], []⟩ ∧ isB (node0 s0).2.l) := ⟨rfl, rfl, hb2⟩
  generalize nodeF false s0 = NF at *
  generalize node0 s0 = p0 at *
  have hc1 := hid (fun w' (hx : Ext w w') => one_any B r s0 w' (h.ext hx))
  rw [ho1] at hc1
  have hrB : r < B := by obtain ⟨_, _, _, _, _, _, h5⟩ := h; exact h5
  clear h hk1 hk2 ho1 hr1 hr2 hisB hb2
  replace ho2 := hid ho2
  have hq0 := heap_alloc_new w (.cells #[.slice none 0 0, .slice none 0 0, .slice none 0 0] 69)
  have hxq := hid ((Ext.refl w).alloc_right (.cells #[.slice none 0 0, .slice none 0 0, .slice none 0 0] 69))
  have hwq : Hid ((w.alloc (.cells #[.slice none 0 0, .slice none 0 0, .slice none 0 0] 69)).heap.size = w.heap.size + 1) := World.size_alloc _ _
  have hN0 := hid (NDx.start (r := r) (w.alloc (.cells #[.slice none 0 0, .slice none 0 0, .slice none 0 0] 69)) (by rw [hwq.out]; omega))
  have hxy := (Ext.refl (w.alloc (.cells #[.slice none 0 0, .slice none 0 0, .slice none 0 0] 69))).alloc_right (.cells #[.slice none 0 0, .slice none 0 0, .slice none 0 0] 69)
  replace hxy := hid (hxq.out.trans hxy)
  rw [hwq.out] at hN0
  replace hq0 := hid hq0
  go_enter Try.func53, Try.ntmps53
  go_upto_region 2 with fail
  obtain ⟨q, hq⟩ : ∃ q, q = w.heap.size := ⟨_, rfl⟩
  obtain ⟨y, hy⟩ : ∃ y, y = q + 1 := ⟨_, rfl⟩
  try simp only [World.size_alloc]
  rw [← hq] at hN0 hq0 hwq
  simp only [← hq]
  rw [← hy] at hN0 hwq
  simp only [← hy]
  generalize w.alloc (.cells #[.slice none 0 0, .slice none 0 0, .slice none 0 0] 69) = w0 at *
  generalize w0.alloc (.cells #[.slice none 0 0, .slice none 0 0, .slice none 0 0] 69) = w1 at *
  have hB0 : B ≤ w0.heap.size := by have := hwq.out; omega
  replace hq := hid hq
  replace hy := hid hy
  replace hwq := hid hwq.out
  go_wp2_with fail
  refine (hc1.out _ hxy.out).mono ?_
  rintro e w2 ⟨rfl, hP2, hF2⟩
  have hO2 := one_any B r _ w2 hP2
  rw [ho2.out, ← hp0.out.1] at hO2
  replace hN0 := hid (hN0.out.up hF2)
  replace hO2 := hid hO2
  clear hc1 hP2 hF2
  go_wp2_with fail
  refine hO2.out.mono ?_
  rintro e w3 ⟨rfl, hP3, hF3⟩
  replace hN0 := hid (hN0.out.up hF3)
  rw [← hp0.out.2.1] at hN0
  replace hP3 := hid hP3
  clear hF3 hO2 hxy
  have hL1 := hid (fun q => it_len (g := false) (F := kStep) (Q := fun x => x.keys.length) (fun p => (k_len p).1) (p := p0) q)
  have hL2 := hid (fun q => it_len (g := false) (F := kStep) (Q := fun x => x.recs.length) (fun p => (k_len p).2.1) (p := p0) q)
  go_wp2_with fail
  go_loopw [11] (fun i wr => ∃ (j : Nat) (kv rv dv : Value), j ≤ k1 ∧ i = .int .i64 j ∧ Hid (NDx w0 wr r y kv rv dv (itG false kStep j p0).1) ∧ Hid (RP B wr r (itG false kStep j p0).2)) (fun i _ => k1 - (intOf i).toNat)
  case atStart => exact ⟨0, _, _, _, by omega, rfl, hN0, hP3⟩
  case round =>
    clear hN0 hP3
    obtain ⟨j, kv, rv, dv, hj, rfl, hN, hP⟩ := hrel
    by_cases hlt : j < k1
    · have hl1 := hL1.out j
      have hl2 := hL2.out j
      rw [hp0.out.2.1] at hl1 hl2
      dsimp only [List.length_nil] at hl1 hl2
      have hst : Hid (itG false kStep (j + 1) p0 = kStep (itG false kStep j p0)) := rfl
      have hji : (j : Int) < (k1 : Int) := by omega
      generalize itG false kStep j p0 = p at *
      obtain ⟨s, hs⟩ : ∃ s, s = p.2 := ⟨_, rfl⟩
      have hr9 := one_rng (hP.out.isB)
      rw [← hs] at hr9 hP
      obtain ⟨m, hm⟩ : ∃ m : Nat, oneV s = (m : Int) := ⟨(oneV s).toNat, by omega⟩
      have hmb : m ≤ 255 := by omega
      have hkS : Hid (kStep p = (⟨p.1.keys ++ [strI (tk m (tk 1 s).2).1], p.1.recs ++ [twoV (tk m (tk 1 s).2).2], p.1.kids⟩, (tk 2 (tk m (tk 1 s).2).2).2)) := by
        have e : (oneV p.2).toNat = m := by rw [← hs]; omega
        unfold Hid kStep
        rw [e, ← hs]
      replace hm := hid hm
      replace hs := hid hs
      obtain ⟨Ak, ck, rfl, -⟩ := own_form hN.out.ok
      obtain ⟨Ar, cr, rfl, -⟩ := own_form hN.out.or_
      clear hr9
      go_upto_region 5 with fail
      have I0 : (fun w' : World => w'.cell? ⟨y, 0, none⟩ = some (.slice Ak p.1.keys.length ck)) wr.drew := (nd3_c hN.out.hy).1
      refine region_J (fun w' : World => w'.cell? ⟨y, 0, none⟩ = some (.slice Ak p.1.keys.length ck)) 10 (by kernel_rfl) ?_
      replace hN := hid (hN.out.up (FR.of_ext ((Ext.refl wr).drew_right)))
      replace hP := hid (hP.out.ext ((Ext.refl wr).drew_right))
      generalize wr.drew = w9 at *
      refine J_take 0 (v := ?vka0) rfl (by kernel_rfl) (by kernel_rfl) (by kernel_rfl) (by kernel_rfl) (fun _ _ _ h => h) (Or.inl ⟨by rfl, ?yka0⟩) I0 ?rka0
      case yka0 => (intro w hSw; have := hSw; (go_simp; with_reducible rfl))
      simp only [Act.put, List.getElem_toArray, List.getElem_cons_zero, List.getElem_cons_succ, List.setIfInBounds_toArray, List.set_cons_zero, List.set_cons_succ]
      refine J_take 1 (v := ?vka1) rfl (by kernel_rfl) (by kernel_rfl) (by kernel_rfl) (by kernel_rfl) (fun _ _ _ h => h) (Or.inl ⟨by rfl, ?yka1⟩) I0 ?rka1
      case yka1 => (intro w hSw; have := hSw; (go_simp; with_reducible rfl))
      simp only [Act.put, List.getElem_toArray, List.getElem_cons_zero, List.getElem_cons_succ, List.setIfInBounds_toArray, List.set_cons_zero, List.set_cons_succ]
      refine J_take 2 (v := ?vka2) rfl (by kernel_rfl) (by kernel_rfl) (by kernel_rfl) (by kernel_rfl) (fun _ _ _ h => h) (Or.inl ⟨by rfl, ?yka2⟩) I0 ?rka2
      case yka2 => (intro w hSw; have := hSw; (go_simp; with_reducible rfl))
      simp only [Act.put, List.getElem_toArray, List.getElem_cons_zero, List.getElem_cons_succ, List.setIfInBounds_toArray, List.set_cons_zero, List.set_cons_succ]
      refine J_take 3 (v := ?vka3) rfl (by kernel_rfl) (by kernel_rfl) (by kernel_rfl) (by kernel_rfl) (fun _ _ _ h => h) (Or.inl ⟨by rfl, ?yka3⟩) I0 ?rka3
      case yka3 => (intro w hSw; have := hSw; (go_simp; with_reducible rfl))
      simp only [Act.put, List.getElem_toArray, List.getElem_cons_zero, List.getElem_cons_succ, List.setIfInBounds_toArray, List.set_cons_zero, List.set_cons_succ]
      refine J_one 4 rfl (by kernel_rfl) (fun K hK => ?_)
      go_simp
      have hO := one_any B r s w9 hP.out
      rw [hm.out] at hO
      refine hO.mono ?_
      rintro e' w10 ⟨rfl, hP10, hF10⟩
      clear hO
      have hN10 := hid (hN.out.up hF10)
      have I1 : (fun w' : World => w'.cell? ⟨y, 0, none⟩ = some (.slice Ak p.1.keys.length ck)) w10 := (nd3_c hN10.out.hy).1
      clear hN hP I0 hF10
      refine hK _ _ ⟨fun _ => I1, ?_⟩
      clear hK K
      try simp only [Act.put, List.getElem_toArray, List.getElem_cons_zero, List.getElem_cons_succ, List.setIfInBounds_toArray, List.set_cons_zero, List.set_cons_succ]
      refine J_one 5 rfl (by kernel_rfl) (fun K hK => ?_)
      go_simp
      refine (take_any B r m _ w10 hP10 (by omega)).mono ?_
      rintro e' w11 ⟨Ab, cb, rfl, hRb, hP11, hF11, -⟩
      have hN11 := hid (hN10.out.up hF11)
      have I2 : (fun w' : World => w'.cell? ⟨y, 0, none⟩ = some (.slice Ak p.1.keys.length ck)) w11 := (nd3_c hN11.out.hy).1
      have hcv := conv_any hRb
      replace hP11 := hid hP11
      clear hN10 hP10 I1 hF11 hRb
      refine hK _ _ ⟨fun _ => I2, ?_⟩
      clear hK K
      try simp only [Act.put, List.getElem_toArray, List.getElem_cons_zero, List.getElem_cons_succ, List.setIfInBounds_toArray, List.set_cons_zero, List.set_cons_succ]
      refine J_one 6 rfl (by kernel_rfl) (fun K hK => ?_)
      go_simp
      refine hK _ _ ⟨fun _ => I2, ?_⟩
      clear hK K hcv
      try simp only [Act.put, List.getElem_toArray, List.getElem_cons_zero, List.getElem_cons_succ, List.setIfInBounds_toArray, List.set_cons_zero, List.set_cons_succ]
      obtain ⟨S9, hS9⟩ : ∃ S9, S9 = strI (tk m (tk 1 s).2).1 := ⟨_, rfl⟩
      simp only [← hS9]
      replace hS9 := hid hS9
      have hxb := (Ext.refl w11).alloc_right (.cells #[.string S9] 9)
      have hRn : Rd (w11.alloc (.cells #[.string S9] 9)) 1 (some ⟨w11.heap.size, 0, none⟩) 1 1 (strv [S9]) := rd_new1 w11 _ _
      have hB9 : w0.heap.size ≤ (w11.alloc (.cells #[.string S9] 9)).heap.size := Nat.le_trans hN11.out.fr.2.2.2.1 hxb.size
      obtain ⟨kv', w12, happ, own3, hgr, hloc⟩ := app_at _ w0.heap.size 22 22 9 iS _ 1 16 Try.underlying22 hS0 hS1 hS2 hS3 rfl (by decide) _ _ _ (hxb.own hN11.out.ok) _ 1 1 _ hRn (strv_one [S9]) (by unfold maxLen; omega) (by omega) hB9
      rw [← strv_app] at own3
      have hlk : (p.1.keys ++ [S9]).length = p.1.keys.length + 1 := by simp
      obtain ⟨hNs, hFs, hy12⟩ := hN11.out.add0 (s := S9) hxb hgr (by rw [hlk]; exact own3) hloc
      have hPs := hid (hP11.out.fr hFs (fun a ha => by have h7 := own_freshB hN11.out.ok; have h6 := hN11.out.yl; show ob _ a + one1 y a = 0; rw [show ob _ a = 0 from if_neg (fun e => by have := h7 a e; omega), show one1 y a = 0 from if_neg (by omega)]))
      replace hNs := hid hNs
      obtain ⟨Ak', ck', rfl, -⟩ := own_form own3
      have I2' : (fun w' : World => w'.cell? ⟨y, 0, none⟩ = some (.slice Ak p.1.keys.length ck)) (w11.alloc (.cells #[.string S9] 9)) := hxb.cell I2
      have z12 := nd3_c hy12
      have I3 : (fun w' : World => w'.cell? ⟨y, 0, none⟩ = some (.slice Ak p.1.keys.length ck)) w12 := z12.1
      have f12 := Lib.frozen_of_heap hy12 0
      have l12 := (Array.getElem?_eq_some_iff.1 hy12).1
      replace happ := hid happ
      clear hRn own3 hgr hloc hFs hy12 hxb hN11 hP11 hB9
      refine J_one 7 rfl (by kernel_rfl) (fun K hK => ?_)
      go_simp
      refine hK _ _ ⟨fun _ => I2', ?_⟩
      clear hK K
      try simp only [Act.put, List.getElem_toArray, List.getElem_cons_zero, List.getElem_cons_succ, List.setIfInBounds_toArray, List.set_cons_zero, List.set_cons_succ]
      generalize w11.heap.size = qb at *
      generalize w11.alloc (.cells #[.string S9] 9) = w11' at *
      refine J_one 8 rfl (by kernel_rfl) (fun K hK => ?_)
      refine step_run rfl _ (ex_append _ _ _ _ rfl _ _ (by simp [Act.eval, Act.put]) (by simp [Act.eval, Act.put]) _ happ.out) ?_
      refine hK _ _ ⟨fun _ => I3, ?_⟩
      clear hK K happ I2 I2'
      try simp only [Act.put, List.getElem_toArray, List.getElem_cons_zero, List.getElem_cons_succ, List.setIfInBounds_toArray, List.set_cons_zero, List.set_cons_succ]
      refine J_one 9 rfl (by kernel_rfl) (fun K hK => ?_)
      go_simp
      refine hK _ _ ⟨fun _ => I3, ?_⟩
      clear hK K
      try simp only [Act.put, List.getElem_toArray, List.getElem_cons_zero, List.getElem_cons_succ, List.setIfInBounds_toArray, List.set_cons_zero, List.set_cons_succ]
      obtain ⟨z12, -, -⟩ := z12
      refine J_one 10 rfl (by kernel_rfl) (fun K hK => ?_)
      go_simp
      refine hK _ _ ⟨fun h => absurd rfl h, ?_⟩
      clear hK K
      refine J_done (by kernel_rfl) (OnlyOn.normal ?_)
      clear I3 z12 f12 l12
      have hN := hNs
      have hP := hPs
      clear hNs hPs
      generalize w12.setCell ⟨y, 0, none⟩ (.slice Ak' (p.1.keys.length + 1) ck') = wr at *
      clear hlk
      go_upto_region 6 with fail
      have I0 : (fun w' : World => w'.cell? ⟨y, 1, none⟩ = some (.slice Ar p.1.recs.length cr)) wr.drew := (nd3_c hN.out.hy).2.1
      refine region_J (fun w' : World => w'.cell? ⟨y, 1, none⟩ = some (.slice Ar p.1.recs.length cr)) 7 (by kernel_rfl) ?_
      replace hN := hid (hN.out.up (FR.of_ext ((Ext.refl wr).drew_right)))
      replace hP := hid (hP.out.ext ((Ext.refl wr).drew_right))
      generalize wr.drew = w9 at *
      refine J_take 0 (v := ?via0) rfl (by kernel_rfl) (by kernel_rfl) (by kernel_rfl) (by kernel_rfl) (fun _ _ _ h => h) (Or.inl ⟨by rfl, ?yia0⟩) I0 ?ria0
      case yia0 => (intro w hSw; have := hSw; (go_simp; with_reducible rfl))
      simp only [Act.put, List.getElem_toArray, List.getElem_cons_zero, List.getElem_cons_succ, List.setIfInBounds_toArray, List.set_cons_zero, List.set_cons_succ]
      refine J_take 1 (v := ?via1) rfl (by kernel_rfl) (by kernel_rfl) (by kernel_rfl) (by kernel_rfl) (fun _ _ _ h => h) (Or.inl ⟨by rfl, ?yia1⟩) I0 ?ria1
      case yia1 => (intro w hSw; have := hSw; (go_simp; with_reducible rfl))
      simp only [Act.put, List.getElem_toArray, List.getElem_cons_zero, List.getElem_cons_succ, List.setIfInBounds_toArray, List.set_cons_zero, List.set_cons_succ]
      refine J_take 2 (v := ?via2) rfl (by kernel_rfl) (by kernel_rfl) (by kernel_rfl) (by kernel_rfl) (fun _ _ _ h => h) (Or.inl ⟨by rfl, ?yia2⟩) I0 ?ria2
      case yia2 => (intro w hSw; have := hSw; (go_simp; with_reducible rfl))
      simp only [Act.put, List.getElem_toArray, List.getElem_cons_zero, List.getElem_cons_succ, List.setIfInBounds_toArray, List.set_cons_zero, List.set_cons_succ]
      refine J_one 3 rfl (by kernel_rfl) (fun K hK => ?_)
      go_simp
      refine (two_any B r (tk m (tk 1 s).2).2 w9 hP.out).mono ?_
      rintro e' w10 ⟨rfl, hP10, hF10⟩
      have hN10 := hid (hN.out.up hF10)
      replace hP10 := hid hP10
      have I1 : (fun w' : World => w'.cell? ⟨y, 1, none⟩ = some (.slice Ar p.1.recs.length cr)) w10 := (nd3_c hN10.out.hy).2.1
      clear hN hP I0 hF10
      refine hK _ _ ⟨fun _ => I1, ?_⟩
      clear hK K
      try simp only [Act.put, List.getElem_toArray, List.getElem_cons_zero, List.getElem_cons_succ, List.setIfInBounds_toArray, List.set_cons_zero, List.set_cons_succ]
      obtain ⟨Z9, hZ9⟩ : ∃ Z9, Z9 = twoV (tk m (tk 1 s).2).2 := ⟨_, rfl⟩
      simp only [← hZ9]
      replace hZ9 := hid hZ9
      have hxb := (Ext.refl w10).alloc_right (.cells #[.int .i64 Z9] 3)
      have hRn : RdI (w10.alloc (.cells #[.int .i64 Z9] 3)) (some ⟨w10.heap.size, 0, none⟩) 1 1 [Z9] := rd_new1 w10 _ _
      have hB9 : w0.heap.size ≤ (w10.alloc (.cells #[.int .i64 Z9] 3)).heap.size := Nat.le_trans hN10.out.fr.2.2.2.1 hxb.size
      have how9 : (w10.alloc (.cells #[.int .i64 Z9] 3)).ownsRow w0.heap.size 3 1 (.slice Ar p.1.recs.length cr) p.1.recs.length (ints p.1.recs) := hxb.own hN10.out.or_
      obtain ⟨v', w12, happ, own3, hgr, hloc⟩ := app_at _ w0.heap.size 23 23 3 iI _ 1 8 Try.underlying23 hI0 hI1 hI2 hI3 rfl (by decide) _ _ _ how9 _ 1 1 _ hRn (ints_one [Z9]) (by unfold maxLen; omega) (by omega) hB9
      rw [← ints_append] at own3
      have hlk : (p.1.recs ++ [Z9]).length = p.1.recs.length + 1 := by simp
      obtain ⟨hNs, hFs, hy12⟩ := hN10.out.add1 (s := Z9) hxb hgr (by rw [hlk]; exact own3) hloc
      have hPs := hid (hP10.out.fr hFs (fun a ha => by have h7 := own_freshB hN10.out.or_; have h6 := hN10.out.yl; show ob _ a + one1 y a = 0; rw [show ob _ a = 0 from if_neg (fun e => by have := h7 a e; omega), show one1 y a = 0 from if_neg (by omega)]))
      replace hNs := hid hNs
      obtain ⟨A9, c9, rfl, -⟩ := own_form own3
      have I2' : (fun w' : World => w'.cell? ⟨y, 1, none⟩ = some (.slice Ar p.1.recs.length cr)) (w10.alloc (.cells #[.int .i64 Z9] 3)) := hxb.cell I1
      have z12 := (nd3_c hy12).2.1
      have I3 : (fun w' : World => w'.cell? ⟨y, 1, none⟩ = some (.slice Ar p.1.recs.length cr)) w12 := z12
      have f12 := Lib.frozen_of_heap hy12 1
      have l12 := (Array.getElem?_eq_some_iff.1 hy12).1
      replace happ := hid happ
      clear hRn own3 hgr hloc hFs hy12 hxb hN10 hP10 hB9 how9
      refine J_one 4 rfl (by kernel_rfl) (fun K hK => ?_)
      go_simp
      refine hK _ _ ⟨fun _ => I2', ?_⟩
      clear hK K
      try simp only [Act.put, List.getElem_toArray, List.getElem_cons_zero, List.getElem_cons_succ, List.setIfInBounds_toArray, List.set_cons_zero, List.set_cons_succ]
      generalize w10.heap.size = qb at *
      generalize w10.alloc (.cells #[.int .i64 Z9] 3) = w11' at *
      refine J_one 5 rfl (by kernel_rfl) (fun K hK => ?_)
      refine step_run rfl _ (ex_append _ _ _ _ rfl _ _ (by simp [Act.eval, Act.put]) (by simp [Act.eval, Act.put]) _ happ.out) ?_
      refine hK _ _ ⟨fun _ => I3, ?_⟩
      clear hK K happ I1 I2'
      try simp only [Act.put, List.getElem_toArray, List.getElem_cons_zero, List.getElem_cons_succ, List.setIfInBounds_toArray, List.set_cons_zero, List.set_cons_succ]
      refine J_one 6 rfl (by kernel_rfl) (fun K hK => ?_)
      go_simp
      refine hK _ _ ⟨fun _ => I3, ?_⟩
      clear hK K
      try simp only [Act.put, List.getElem_toArray, List.getElem_cons_zero, List.getElem_cons_succ, List.setIfInBounds_toArray, List.set_cons_zero, List.set_cons_succ]
      refine J_one 7 rfl (by kernel_rfl) (fun K hK => ?_)
      go_simp
      refine hK _ _ ⟨fun h => absurd rfl h, ?_⟩
      clear hK K
      refine J_done (by kernel_rfl) (OnlyOn.normal ?_)
      clear I3 z12 f12 l12
      have hNe : Hid (NDx w0 (w12.setCell ⟨y, 1, none⟩ (.slice A9 (p.1.recs.length + 1) c9)) r y (.slice Ak' (p.1.keys.length + 1) ck') (.slice A9 (p.1.recs.length + 1) c9) dv (itG false kStep (j + 1) p0).1) := by
        rw [hst.out, hkS.out, ← hS9.out, ← hZ9.out]
        exact hNs
      have hPe : Hid (RP B (w12.setCell ⟨y, 1, none⟩ (.slice A9 (p.1.recs.length + 1) c9)) r (itG false kStep (j + 1) p0).2) := by
        rw [hst.out, hkS.out]
        exact hPs
      clear hNs hPs hS9 hZ9 hlk hkS hst
      go_wp2_with fail
      go_roundw
      case rel => exact ⟨j + 1, _, _, _, by omega, by go_num, hNe, hPe⟩
      case measure => simp [intOf]; omega
    · obtain rfl : j = k1 := by omega
      have hP1i : Hid ((itG false kStep j p0).1.kids.length = 0) := by
        have key : ∀ n, (itG false kStep n p0).1.kids = p0.1.kids := fun n => by
          induction n with
          | zero => rfl
          | succ n ih => show (kStep (itG false kStep n p0)).1.kids = _; rw [(k_len _).2.2, ih]
        unfold Hid
        rw [key, hp0.out.2.1]
        rfl
      clear hL1 hL2
      generalize itG false kStep j p0 = P1 at *
      have hL3 := hid (fun q => it_len (g := false) (F := dStep) (Q := fun x => x.kids.length) (fun p => (d_len p).1) (p := P1) q)
      go_wp2_with fail
      go_loopw [32] (fun i wr => ∃ (j : Nat) (kv rv dv : Value), j ≤ k2 ∧ i = .int .i64 j ∧ Hid (NDx w0 wr r y kv rv dv (itG false dStep j P1).1) ∧ Hid (RP B wr r (itG false dStep j P1).2)) (fun i _ => k2 - (intOf i).toNat)
      case atStart => exact ⟨0, _, _, _, by omega, rfl, hN, hP⟩
      case round =>
        clear hN hP hlt
        rename Nat => jj
        obtain ⟨j, kv, rv, dv, hj, rfl, hN, hP⟩ := hrel
        by_cases hlt : j < k2
        · have hl3 := hL3.out j
          try dsimp only at hl3
          rw [hP1i.out] at hl3
          have hst : Hid (itG false dStep (j + 1) P1 = dStep (itG false dStep j P1)) := rfl
          have hji : (j : Int) < (k2 : Int) := by omega
          generalize itG false dStep j P1 = p at *
          have hkS : Hid (dStep p = (⟨p.1.keys, p.1.recs, p.1.kids ++ [twoV p.2]⟩, (tk 2 p.2).2)) := rfl
          obtain ⟨Ad, cd, rfl, -⟩ := own_form hN.out.od
          go_upto_region 10 with fail
          have I0 : (fun w' : World => w'.cell? ⟨y, 2, none⟩ = some (.slice Ad p.1.kids.length cd)) wr.drew := (nd3_c hN.out.hy).2.2
          refine region_J (fun w' : World => w'.cell? ⟨y, 2, none⟩ = some (.slice Ad p.1.kids.length cd)) 7 (by kernel_rfl) ?_
          replace hN := hid (hN.out.up (FR.of_ext ((Ext.refl wr).drew_right)))
          replace hP := hid (hP.out.ext ((Ext.refl wr).drew_right))
          generalize wr.drew = w9 at *
          refine J_take 0 (v := ?vib0) rfl (by kernel_rfl) (by kernel_rfl) (by kernel_rfl) (by kernel_rfl) (fun _ _ _ h => h) (Or.inl ⟨by rfl, ?yib0⟩) I0 ?rib0
          case yib0 => (intro w hSw; have := hSw; (go_simp; with_reducible rfl))
          simp only [Act.put, List.getElem_toArray, List.getElem_cons_zero, List.getElem_cons_succ, List.setIfInBounds_toArray, List.set_cons_zero, List.set_cons_succ]
          refine J_take 1 (v := ?vib1) rfl (by kernel_rfl) (by kernel_rfl) (by kernel_rfl) (by kernel_rfl) (fun _ _ _ h => h) (Or.inl ⟨by rfl, ?yib1⟩) I0 ?rib1
          case yib1 => (intro w hSw; have := hSw; (go_simp; with_reducible rfl))
          simp only [Act.put, List.getElem_toArray, List.getElem_cons_zero, List.getElem_cons_succ, List.setIfInBounds_toArray, List.set_cons_zero, List.set_cons_succ]
          refine J_take 2 (v := ?vib2) rfl (by kernel_rfl) (by kernel_rfl) (by kernel_rfl) (by kernel_rfl) (fun _ _ _ h => h) (Or.inl ⟨by rfl, ?yib2⟩) I0 ?rib2
          case yib2 => (intro w hSw; have := hSw; (go_simp; with_reducible rfl))
          simp only [Act.put, List.getElem_toArray, List.getElem_cons_zero, List.getElem_cons_succ, List.setIfInBounds_toArray, List.set_cons_zero, List.set_cons_succ]
          refine J_one 3 rfl (by kernel_rfl) (fun K hK => ?_)
          go_simp
          refine (two_any B r p.2 w9 hP.out).mono ?_
          rintro e' w10 ⟨rfl, hP10, hF10⟩
          have hN10 := hid (hN.out.up hF10)
          replace hP10 := hid hP10
          have I1 : (fun w' : World => w'.cell? ⟨y, 2, none⟩ = some (.slice Ad p.1.kids.length cd)) w10 := (nd3_c hN10.out.hy).2.2
          clear hN hP I0 hF10
          refine hK _ _ ⟨fun _ => I1, ?_⟩
          clear hK K
          try simp only [Act.put, List.getElem_toArray, List.getElem_cons_zero, List.getElem_cons_succ, List.setIfInBounds_toArray, List.set_cons_zero, List.set_cons_succ]
          obtain ⟨Z9, hZ9⟩ : ∃ Z9, Z9 = twoV p.2 := ⟨_, rfl⟩
          simp only [← hZ9]
          replace hZ9 := hid hZ9
          have hxb := (Ext.refl w10).alloc_right (.cells #[.int .i64 Z9] 3)
          have hRn : RdI (w10.alloc (.cells #[.int .i64 Z9] 3)) (some ⟨w10.heap.size, 0, none⟩) 1 1 [Z9] := rd_new1 w10 _ _
          have hB9 : w0.heap.size ≤ (w10.alloc (.cells #[.int .i64 Z9] 3)).heap.size := Nat.le_trans hN10.out.fr.2.2.2.1 hxb.size
          have how9 : (w10.alloc (.cells #[.int .i64 Z9] 3)).ownsRow w0.heap.size 3 1 (.slice Ad p.1.kids.length cd) p.1.kids.length (ints p.1.kids) := hxb.own hN10.out.od
          obtain ⟨v', w12, happ, own3, hgr, hloc⟩ := app_at _ w0.heap.size 23 23 3 iI _ 1 8 Try.underlying23 hI0 hI1 hI2 hI3 rfl (by decide) _ _ _ how9 _ 1 1 _ hRn (ints_one [Z9]) (by unfold maxLen; omega) (by omega) hB9
          rw [← ints_append] at own3
          have hlk : (p.1.kids ++ [Z9]).length = p.1.kids.length + 1 := by simp
          obtain ⟨hNs, hFs, hy12⟩ := hN10.out.add2 (s := Z9) hxb hgr (by rw [hlk]; exact own3) hloc
          have hPs := hid (hP10.out.fr hFs (fun a ha => by have h7 := own_freshB hN10.out.od; have h6 := hN10.out.yl; show ob _ a + one1 y a = 0; rw [show ob _ a = 0 from if_neg (fun e => by have := h7 a e; omega), show one1 y a = 0 from if_neg (by omega)]))
          replace hNs := hid hNs
          obtain ⟨A9, c9, rfl, -⟩ := own_form own3
          have I2' : (fun w' : World => w'.cell? ⟨y, 2, none⟩ = some (.slice Ad p.1.kids.length cd)) (w10.alloc (.cells #[.int .i64 Z9] 3)) := hxb.cell I1
          have z12 := (nd3_c hy12).2.2
          have I3 : (fun w' : World => w'.cell? ⟨y, 2, none⟩ = some (.slice Ad p.1.kids.length cd)) w12 := z12
          have f12 := Lib.frozen_of_heap hy12 2
          have l12 := (Array.getElem?_eq_some_iff.1 hy12).1
          replace happ := hid happ
          clear hRn own3 hgr hloc hFs hy12 hxb hN10 hP10 hB9 how9
          refine J_one 4 rfl (by kernel_rfl) (fun K hK => ?_)
          go_simp
          refine hK _ _ ⟨fun _ => I2', ?_⟩
          clear hK K
          try simp only [Act.put, List.getElem_toArray, List.getElem_cons_zero, List.getElem_cons_succ, List.setIfInBounds_toArray, List.set_cons_zero, List.set_cons_succ]
          generalize w10.heap.size = qb at *
          generalize w10.alloc (.cells #[.int .i64 Z9] 3) = w11' at *
          refine J_one 5 rfl (by kernel_rfl) (fun K hK => ?_)
          refine step_run rfl _ (ex_append _ _ _ _ rfl _ _ (by simp [Act.eval, Act.put]) (by simp [Act.eval, Act.put]) _ happ.out) ?_
          refine hK _ _ ⟨fun _ => I3, ?_⟩
          clear hK K happ I1 I2'
          try simp only [Act.put, List.getElem_toArray, List.getElem_cons_zero, List.getElem_cons_succ, List.setIfInBounds_toArray, List.set_cons_zero, List.set_cons_succ]
          refine J_one 6 rfl (by kernel_rfl) (fun K hK => ?_)
          go_simp
          refine hK _ _ ⟨fun _ => I3, ?_⟩
          clear hK K
          try simp only [Act.put, List.getElem_toArray, List.getElem_cons_zero, List.getElem_cons_succ, List.setIfInBounds_toArray, List.set_cons_zero, List.set_cons_succ]
          refine J_one 7 rfl (by kernel_rfl) (fun K hK => ?_)
          go_simp
          refine hK _ _ ⟨fun h => absurd rfl h, ?_⟩
          clear hK K
          refine J_done (by kernel_rfl) (OnlyOn.normal ?_)
          clear I3 z12 f12 l12
          have hNe : Hid (NDx w0 (w12.setCell ⟨y, 2, none⟩ (.slice A9 (p.1.kids.length + 1) c9)) r y kv rv (.slice A9 (p.1.kids.length + 1) c9) (itG false dStep (j + 1) P1).1) := by
            rw [hst.out, hkS.out, ← hZ9.out]
            exact hNs
          have hPe : Hid (RP B (w12.setCell ⟨y, 2, none⟩ (.slice A9 (p.1.kids.length + 1) c9)) r (itG false dStep (j + 1) P1).2) := by
            rw [hst.out, hkS.out]
            exact hPs
          clear hNs hPs hZ9 hlk hkS hst
          go_wp2_with fail
          go_roundw
          case rel => exact ⟨j + 1, _, _, _, by omega, by go_num, hNe, hPe⟩
          case measure => simp [intOf]; omega
        · obtain rfl : j = k2 := by omega
          rw [← hNF.out] at hN hP
          obtain ⟨A7, c7, rfl, -⟩ := own_form hN.out.ok
          obtain ⟨A8, c8, rfl, -⟩ := own_form hN.out.or_
          obtain ⟨A9, c9, rfl, -⟩ := own_form hN.out.od
          have hwq2 := hwq.out
          have hqlt : q < w0.heap.size := by have := hy.out; omega
          have hqr := (hN.out.fr.2.2.2.2 q hqlt (if_neg (by have := hq.out; omega))).trans hq0.out
          have c0 := nd3_c hN.out.hy
          have hq1 := nd3_c hqr
          have fq0 := Lib.frozen_of_heap hqr 0
          have fq1 := Lib.frozen_of_heap hqr 1
          have fq2 := Lib.frozen_of_heap hqr 2
          have ly := (Array.getElem?_eq_some_iff.1 hN.out.hy).1
          have lq := (Array.getElem?_eq_some_iff.1 hqr).1
          have hp3 := hid (put3 hqr (.slice A7 NF.1.keys.length c7) (.slice A8 NF.1.recs.length c8) (.slice A9 NF.1.kids.length c9))
          have kk := nd3_c hp3.out
          have hfin : Hid (GiveNd B r NF.1 NF.2 w (.returned (.agg #[(.slice A7 NF.1.keys.length c7), (.slice A8 NF.1.recs.length c8), (.slice A9 NF.1.kids.length c9)])) (((wr.setCell ⟨q, 0, none⟩ (.slice A7 NF.1.keys.length c7)).setCell ⟨q, 1, none⟩ (.slice A8 NF.1.recs.length c8)).setCell ⟨q, 2, none⟩ (.slice A9 NF.1.kids.length c9))) := by
            have h9 : ∀ {v : Value} {n z : Nat} {xs : List Value} {t : TypeId}, wr.ownsRow w0.heap.size t z v n xs → v.ownBlock ≠ some q := fun h e => by have := own_freshB h _ e; omega
            have hsz := hxq.out.size
            refine ⟨_, _, _, fun a => ob (.slice A7 NF.1.keys.length c7) a + ob (.slice A8 NF.1.recs.length c8) a + ob (.slice A9 NF.1.kids.length c9) a, rfl, ⟨?_, ?_, ?_, fun a => rfl⟩, fun a => by have := hN.out.nd a; show ob (.slice A7 NF.1.keys.length c7) a + ob (.slice A8 NF.1.recs.length c8) a + ob (.slice A9 NF.1.kids.length c9) a ≤ 1; omega, ?_, ?_⟩
            · exact own_baseK (own_set (own_set (own_set hN.out.ok (h9 hN.out.ok) _ _) (h9 hN.out.ok) _ _) (h9 hN.out.ok) _ _) hsz
            · exact own_baseK (own_set (own_set (own_set hN.out.or_ (h9 hN.out.or_) _ _) (h9 hN.out.or_) _ _) (h9 hN.out.or_) _ _) hsz
            · exact own_baseK (own_set (own_set (own_set hN.out.od (h9 hN.out.od) _ _) (h9 hN.out.od) _ _) (h9 hN.out.od) _ _) hsz
            · have hz : ∀ a, a < B → one1 q a = 0 := fun a ha => if_neg (by have := hq.out; omega)
              exact ((hP.out.fr fr_set hz).fr fr_set hz).fr fr_set hz
            · have hz : ∀ k, k < w.heap.size → one1 r k = 0 → one1 q k = 0 := fun k hk _ => if_neg (by have := hq.out; omega)
              exact ((((FR.of_ext hxq.out).trans hN.out.fr (fun _ _ h => h)).trans fr_set hz).trans fr_set hz).trans fr_set hz
          obtain ⟨c0, c1, c2⟩ := c0
          obtain ⟨g0, g1, g2⟩ := hq1
          obtain ⟨k0, k1', k2'⟩ := kk
          clear hqr hN hP hp3 hL3
          go_wp2
          exact bodyPost_ret (v := .agg #[(.slice A7 NF.1.keys.length c7), (.slice A8 NF.1.recs.length c8), (.slice A9 NF.1.kids.length c9)]) (by simp [results, Try.results53, go_sem, k0, k1', k2']) rfl hfin.out
end Go.Proofs.Ytpijfiaecicpfaa
