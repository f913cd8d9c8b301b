/-
  All entries of a tree, in order; Putting an entry into a node; Regions that draw their order and store more than once: what is asked of the world ahead of the stores, and all along. Two rows that grow side by side. Bound to no program; Trees in memory: opened, shut, cut.
-/
import Derived.Test.YtpijfiaecicpfaaGreatP3
namespace Go.Proofs.YtpijfiaecicpfaaGreat
open Go.RowKit Go.Shelf
set_option linter.unusedVariables false
set_option linter.unusedSimpArgs false
/-- The kids of a node of a height. -/
def Kd (w : World) : Nat → List Nat → List BT → (Nat → Nat) → Prop
  | 0, ps, ks, g => ks = [] ∧ ps = [] ∧ ∀ a, g a = 0
  | h + 1, ps, ks, g => Ks (TN w h) ps ks g
theorem TN.opn {w : World} {h p : Nat} {l : List Te} {ks : List BT} {f : Nat → Nat} (hT : TN w h p (.nd l ks) f) : ∃ lv kv ps g, w.heap[p]? = some (.cells #[lv, kv] 55 (0, 0)) ∧ w.ownsRow 0 83 2 lv l.length (tents l) ∧ w.ownsRow 0 51 1 kv ps.length (ptrs ps) ∧ Kd w h ps ks g ∧ ∀ a, f a = one1 p a + ob lv a + ob kv a + g a := by
  cases h with
  | zero =>
    obtain ⟨hk, lv, kv, e1, e2, e3, e4⟩ := hT
    exact ⟨lv, kv, [], fun _ => 0, e1, e2, e3, ⟨hk, rfl, fun _ => rfl⟩, e4⟩
  | succ h =>
    obtain ⟨lv, kv, ps, g, e1, e2, e3, e5, e4⟩ := hT
    exact ⟨lv, kv, ps, g, e1, e2, e3, e5, e4⟩
theorem TN.shut {w : World} {h p : Nat} {l : List Te} {ks : List BT} {f : Nat → Nat} {lv kv : Value} {ps : List Nat} {g : Nat → Nat} (e1 : w.heap[p]? = some (.cells #[lv, kv] 55 (0, 0))) (e2 : w.ownsRow 0 83 2 lv l.length (tents l)) (e3 : w.ownsRow 0 51 1 kv ps.length (ptrs ps)) (e5 : Kd w h ps ks g) (e4 : ∀ a, f a = one1 p a + ob lv a + ob kv a + g a) : TN w h p (.nd l ks) f := by
  cases h with
  | zero =>
    obtain ⟨hk, rfl, hg⟩ := e5
    exact ⟨hk, lv, kv, e1, e2, e3, fun a => by rw [e4 a, hg a]; omega⟩
  | succ h => exact ⟨lv, kv, ps, g, e1, e2, e3, e5, e4⟩
theorem Kd.len {w : World} {h : Nat} {ps : List Nat} {ks : List BT} {g : Nat → Nat} (k : Kd w h ps ks g) : ps.length = ks.length := by
  cases h with
  | zero => obtain ⟨rfl, rfl, _⟩ := k; rfl
  | succ h => exact Ks.len k
theorem Kd.frame {w w' : World} {f : Nat → Nat} (hF : FR f w w') {h : Nat} {ps : List Nat} {ks : List BT} {g : Nat → Nat} (k : Kd w h ps ks g) (hg : ∀ a, 0 < g a → f a = 0) : Kd w' h ps ks g := by
  cases h with
  | zero => exact k
  | succ h => exact Ks.frame (fun p T g h1 h2 => TN.frame hF h1 h2) k hg
theorem Kd.same {w : World} {h : Nat} {ps : List Nat} {ks : List BT} {f g : Nat → Nat} (k : Kd w h ps ks f) (e : ∀ a, g a = f a) : Kd w h ps ks g := by
  have : g = f := funext e
  rw [this]
  exact k
theorem Kd.parts {w : World} {h : Nat} : ∀ {m : Nat} {ps : List Nat} {ks : List BT} {g : Nat → Nat}, Kd w h ps ks g → ∃ g1 g2, Kd w h (ps.take m) (ks.take m) g1 ∧ Kd w h (ps.drop m) (ks.drop m) g2 ∧ ∀ a, g a = g1 a + g2 a := by
  cases h with
  | zero =>
    intro m ps ks g k
    obtain ⟨rfl, rfl, hg⟩ := k
    exact ⟨fun _ => 0, fun _ => 0, ⟨by simp, by simp, fun _ => rfl⟩, ⟨by simp, by simp, fun _ => rfl⟩, fun a => by show g a = 0 + 0; rw [hg a]⟩
  | succ h =>
    intro m
    induction m with
    | zero => intro ps ks g k; exact ⟨fun _ => 0, g, by rw [List.take_zero, List.take_zero]; exact fun _ => rfl, by rw [List.drop_zero, List.drop_zero]; exact k, fun a => by show g a = 0 + g a; omega⟩
    | succ m ih =>
      intro ps ks g k
      match ps, ks, k with
      | [], [], k => exact ⟨fun _ => 0, g, fun _ => rfl, k, fun a => by show g a = 0 + g a; omega⟩
      | p :: ps, T :: ks, ⟨f1, f2, h1, h2, h3⟩ =>
        obtain ⟨g1, g2, k1, k2, k3⟩ := ih h2
        exact ⟨fun a => f1 a + g1 a, g2, ⟨f1, g1, h1, k1, fun _ => rfl⟩, k2, fun a => by show g a = f1 a + g1 a + g2 a; rw [h3 a, k3 a]; omega⟩
      | [], _ :: _, k => exact k.elim
      | _ :: _, [], k => exact k.elim
theorem Ks.bound {R : Nat → BT → (Nat → Nat) → Prop} {m : Nat} (hR : ∀ p T g, R p T g → ∀ a, m ≤ a → g a = 0) : ∀ {ps : List Nat} {ks : List BT} {g : Nat → Nat}, Ks R ps ks g → ∀ a, m ≤ a → g a = 0
  | [], [], g, h, a, _ => h a
  | p :: ps, T :: ks, g, ⟨f1, f2, h1, h2, h3⟩, a, ha => by rw [h3 a, hR _ _ _ h1 a ha, Ks.bound hR h2 a ha]
  | [], _ :: _, g, h, _, _ => h.elim
  | _ :: _, [], g, h, _, _ => h.elim
theorem TN.bound {w : World} : ∀ {h p : Nat} {T : BT} {f : Nat → Nat}, TN w h p T f → ∀ a, w.heap.size ≤ a → f a = 0
  | 0, p, .nd l ks, f, ⟨_, lv, kv, e1, e2, e3, e4⟩, a, ha => by rw [e4 a, one_bound e1 ha, own_bound e2 ha, own_bound e3 ha]
  | h + 1, p, .nd l ks, f, ⟨lv, kv, ps, g, e1, e2, e3, e5, e4⟩, a, ha => by rw [e4 a, one_bound e1 ha, own_bound e2 ha, own_bound e3 ha, Ks.bound (fun p T g h1 => TN.bound h1) e5 a ha]
theorem Kd.bound {w : World} {h : Nat} {ps : List Nat} {ks : List BT} {g : Nat → Nat} (k : Kd w h ps ks g) : ∀ a, w.heap.size ≤ a → g a = 0 := by
  cases h with
  | zero => exact fun a _ => k.2.2 a
  | succ h => exact Ks.bound (fun p T g h1 => TN.bound h1) k
/-- What a call has made of a tree: another one, in the blocks that were its own, and new ones. -/
def Turned (w w' : World) (h p : Nat) (f : Nat → Nat) (T' : BT) : Prop := ∃ f', TN w' h p T' f' ∧ (∀ a, f' a ≤ 1) ∧ (∀ a, a < w.heap.size → f' a ≤ f a) ∧ FR f w w'
theorem Turned.left {u w w' : World} {h p : Nat} {f : Nat → Nat} {T' : BT} (ht : Turned w w' h p f T') (hx : Ext u w) : Turned u w' h p f T' := by
  obtain ⟨f', h1, h2, h3, h4⟩ := ht
  exact ⟨f', h1, h2, fun a ha => h3 a (Nat.lt_of_lt_of_le ha hx.size), (FR.of_ext (f := f) hx).trans h4 (fun _ _ h => h)⟩
/-- A node with a kid that has been turned. -/
theorem kid_turned {w w' : World} {h p q i : Nat} {l : List Te} {ks : List BT} {ps : List Nat} {lv kv : Value} {g0 g1 g2 f : Nat → Nat} {K K' : BT} (e1 : w.heap[p]? = some (.cells #[lv, kv] 55 (0, 0))) (e2 : w.ownsRow 0 83 2 lv l.length (tents l)) (e3 : w.ownsRow 0 51 1 kv ps.length (ptrs ps))
    (hp : ps[i]? = some q) (hk : ks[i]? = some K) (k0 : Ks (TN w h) (ps.take i) (ks.take i) g0) (k2 : Ks (TN w h) (ps.drop (i + 1)) (ks.drop (i + 1)) g2) (hf : ∀ a, f a = one1 p a + ob lv a + ob kv a + (g0 a + g1 a + g2 a)) (hn : ∀ a, f a ≤ 1) (kb : ∀ a, w.heap.size ≤ a → f a = 0) (ht : Turned w w' h q g1 K') :
    ∃ g1', TN w' h q K' g1' ∧ w'.heap[p]? = some (.cells #[lv, kv] 55 (0, 0)) ∧ w'.ownsRow 0 83 2 lv l.length (tents l) ∧ w'.ownsRow 0 51 1 kv ps.length (ptrs ps) ∧ Ks (TN w' h) (ps.take i) (ks.take i) g0 ∧ Ks (TN w' h) (ps.drop (i + 1)) (ks.drop (i + 1)) g2 ∧
      (∀ a, one1 p a + ob lv a + ob kv a + (g0 a + g1' a + g2 a) ≤ 1) ∧ (∀ a, a < w.heap.size → one1 p a + ob lv a + ob kv a + (g0 a + g1' a + g2 a) ≤ f a) ∧ FR f w w' := by
  obtain ⟨g1', t1, t2, t3, t4⟩ := ht
  refine ⟨g1', t1, (t4.2.2.2.2 p (Array.getElem?_eq_some_iff.1 e1).1 ?_).trans e1, t4.own e2 (fun k e => ?_), t4.own e3 (fun k e => ?_), Ks.frame (fun p T g h1 h2 => TN.frame t4 h1 h2) k0 (fun a ha => ?_), Ks.frame (fun p T g h1 h2 => TN.frame t4 h1 h2) k2 (fun a ha => ?_), fun a => ?_, fun a ha => ?_, t4.mono (fun k hk h0 => ?_)⟩
  · have := hn p; rw [hf p, one_self] at this; omega
  · have := hn k; rw [hf k, ob_some e] at this; omega
  · have := hn k; rw [hf k, ob_some e] at this; omega
  · have := hn a; rw [hf a] at this; omega
  · have := hn a; rw [hf a] at this; omega
  · by_cases ha : a < w.heap.size
    · have := hn a; have h3 := t3 a ha; rw [hf a] at this; omega
    · have := kb a (by omega); rw [hf a] at this; have := t2 a; omega
  · rw [hf a]; have := t3 a ha; omega
  · rw [hf k] at h0; omega
theorem set_cut {α : Type} {l : List α} {i : Nat} (hi : i < l.length) (x : α) : l.set i x = l.take i ++ x :: l.drop (i + 1) := by
  rw [List.set_eq_take_append_cons_drop, if_pos hi]
/-- Kids with one in the middle. -/
theorem Ks.mid {R : Nat → BT → (Nat → Nat) → Prop} {ps qs : List Nat} {ks ms : List BT} {q : Nat} {K : BT} {g0 g1 g2 : Nat → Nat} (h0 : Ks R ps ks g0) (h1 : R q K g1) (h2 : Ks R qs ms g2) : Ks R (ps ++ q :: qs) (ks ++ K :: ms) (fun a => g0 a + g1 a + g2 a) := by
  have h12 : Ks R (q :: qs) (K :: ms) (fun a => g1 a + g2 a) := ⟨g1, g2, h1, h2, fun _ => rfl⟩
  exact (Ks.app h0 h12).same (fun a => by show g0 a + g1 a + g2 a = g0 a + (g1 a + g2 a); omega)
end Go.Proofs.YtpijfiaecicpfaaGreat

namespace Go.Proofs.YtpijfiaecicpfaaGreat
open Go.RowKit Go.Shelf
set_option linter.unusedVariables false
set_option linter.unusedSimpArgs false
theorem rd_ptr {w : World} {n c i q : Nat} {ps : List Nat} {ad : Addr} (h : Rd w 1 (some ad) n c (ptrs ps)) (hp : ps[i]? = some q) : w.cell? (ad.add i) = some (.pointer (some ⟨q, 0, none⟩)) := by
  have hi : i < ps.length := (List.getElem?_eq_some_iff.1 hp).1
  have hn : 0 < n := by have := h.1; rw [ptrs_len] at this; omega
  obtain ⟨ad', e, hc⟩ := h.2.2.2 hn
  obtain rfl := Option.some.inj e
  exact hc i _ (by unfold ptrs; rw [List.getElem?_map, hp]; rfl)
theorem leaf_put {w W W2 : World} {p : Nat} {l l' : List Te} {lv kv v' : Value} {f : Nat → Nat} (hx : Ext w W) (e1 : W.heap[p]? = some (.cells #[lv, kv] 55 (0, 0))) (e2 : W.ownsRow 0 83 2 lv l.length (tents l)) (e3 : W.ownsRow 0 51 1 kv 0 (ptrs [])) (e4 : ∀ a, f a = one1 p a + ob lv a + ob kv a) (hn : ∀ a, f a ≤ 1)
    (hrw : Rw lv v' W W2) (ho : W2.ownsRow 0 83 2 v' l'.length (tents l')) : Turned w (W2.setCell ⟨p, 0, none⟩ v') 0 p f (.nd l' []) := by
  obtain ⟨hg, hv⟩ := hrw
  have hsz := hx.size
  have hlt := (Array.getElem?_eq_some_iff.1 e1).1
  have hv'p : v'.ownBlock ≠ some p := fun e => by
    rcases hv with h1 | h1
    · have := hn p; rw [e4 p, ob_some (v := lv) (h1.symm.trans e), one_self] at this; omega
    · have := h1 p e; omega
  have bp := (hg.block p hlt (fun e0 => by have := hn p; rw [e4 p, ob_some e0.symm, one_self] at this; omega)).trans e1
  refine ⟨fun a => one1 p a + ob v' a + ob kv a, ⟨rfl, v', kv, node_set0 bp _, own_set ho hv'p 0 _, own_set (own_ne e3 hg (fun k e e2 => by have := hn k; rw [e4 k, ob_some e, ob_some e2] at this; omega)) (fun e => by have := hn p; rw [e4 p, ob_some e, one_self] at this; omega) 0 _, fun _ => rfl⟩, fun a => ?_, fun a ha => ?_, fr_step (FR.of_ext hx) hg (fun k e hk h0 => by rw [e4 k, ob_some e] at h0; omega) (fun hk h0 => by rw [e4 p, one_self] at h0; omega) 0 _⟩
  · show one1 p a + ob v' a + ob kv a ≤ 1
    have h0 := hn a
    rw [e4 a] at h0
    rcases hv with h1 | h1
    · rw [ob_same h1]; exact h0
    · by_cases hs : a < W.heap.size
      · rw [show ob v' a = 0 from if_neg (fun e => by have := h1 a e; omega)]; omega
      · rw [one_bound e1 (Nat.le_of_not_lt hs), own_bound e3 (Nat.le_of_not_lt hs)]
        have : ob v' a ≤ 1 := by unfold ob; split <;> omega
        omega
  · show one1 p a + ob v' a + ob kv a ≤ f a
    rw [e4 a]
    rcases hv with h1 | h1
    · rw [ob_same h1]; omega
    · rw [show ob v' a = 0 from if_neg (fun e => by have := h1 a e; omega)]; omega
theorem split_done {w w5 w6 : World} {h p q r i : Nat} {l lk : List Te} {ks kk : List BT} {ps pk : List Nat} {lv kv lq kq lv' kv' lq' kq' lr kr : Value} {f f2 g0 gk g2 : Nat → Nat} (hi : i < ps.length) (hl5 : lk.length = 5) (hfr : FR f w w5)
    (hpi : ps[i]? = some q)
    (hle : ∀ a, a < w.heap.size → one1 p a + ob lv a + ob kv a + (g0 a + (one1 q a + ob lq a + ob kq a + gk a) + g2 a) ≤ f a) (hn5 : ∀ a, one1 p a + ob lv a + ob kv a + (g0 a + (one1 q a + ob lq a + ob kq a + gk a) + g2 a) ≤ 1)
    (k0 : Ks (TN w5 h) (ps.take i) (ks.take i) g0) (k2 : Ks (TN w5 h) (ps.drop (i + 1)) (ks.drop (i + 1)) g2) (k1 : Kd w5 h pk kk gk) (hf2 : ∀ a, f2 a = one1 p a + ob lv a + ob kv a + one1 q a + ob lq a + ob kq a)
    (tri : Tri f2 w5 w6 p q r lv' kv' lq' kq' lr kr (l.length + 1) (ps.length + 1) 2 (pk.take 3).length 2 (pk.drop 3).length (tents (l.take i ++ tth lk 2 :: l.drop i)) (ptrs (ps.take (i + 1) ++ r :: ps.drop (i + 1))) (tents (lk.take 2)) (ptrs (pk.take 3)) (tents (lk.drop 3)) (ptrs (pk.drop 3))) (hil : i ≤ l.length) :
    Turned w w6 (h + 1) p f (splitT l ks i (.nd lk kk)) := by
  obtain ⟨gk1, gk2, kk1, kk2, hgk⟩ := k1.parts (m := 3)
  have b0 := Ks.bound (fun p T g h1 => TN.bound h1) k0
  have b2 := Ks.bound (fun p T g h1 => TN.bound h1) k2
  have b1 := k1.bound
  have hsz := hfr.2.2.2.1
  have z : ∀ a, 0 < g0 a + g2 a + gk a → f2 a = 0 := fun a ha => by have := hn5 a; rw [hf2 a]; omega
  have k0' := Ks.frame (fun p T g h1 h2 => TN.frame tri.fr h1 h2) k0 (fun a ha => z a (by omega))
  have k2' := Ks.frame (fun p T g h1 h2 => TN.frame tri.fr h1 h2) k2 (fun a ha => z a (by omega))
  have kk1' := kk1.frame tri.fr (fun a ha => z a (by rw [hgk a]; omega))
  have kk2' := kk2.frame tri.fr (fun a ha => z a (by rw [hgk a]; omega))
  have hm : (BT.nd lk kk).l.length / 2 = 2 := by show lk.length / 2 = 2; omega
  have hps : ps.take (i + 1) ++ r :: ps.drop (i + 1) = ps.take i ++ q :: (r :: ps.drop (i + 1)) := by
    rw [List.take_add_one, hpi]
    simp
  have hT : splitT l ks i (.nd lk kk) = .nd (l.take i ++ tth lk 2 :: l.drop i) (ks.take i ++ .nd (lk.take 2) (kk.take 3) :: (.nd (lk.drop 3) (kk.drop 3) :: ks.drop (i + 1))) := by
    unfold splitT
    rw [hm]
    rfl
  have nq : TN w6 h q (.nd (lk.take 2) (kk.take 3)) (fun a => one1 q a + ob lq' a + ob kq' a + gk1 a) := TN.shut tri.hq (by rw [show (lk.take 2).length = 2 by rw [List.length_take]; omega]; exact tri.o3) tri.o4 kk1' (fun _ => rfl)
  have nr : TN w6 h r (.nd (lk.drop 3) (kk.drop 3)) (fun a => one1 r a + ob lr a + ob kr a + gk2 a) := TN.shut tri.hr (by rw [show (lk.drop 3).length = 2 by rw [List.length_drop]; omega]; exact tri.o5) tri.o6 kk2' (fun _ => rfl)
  have kr2 : Ks (TN w6 h) (r :: ps.drop (i + 1)) (.nd (lk.drop 3) (kk.drop 3) :: ks.drop (i + 1)) (fun a => (one1 r a + ob lr a + ob kr a + gk2 a) + g2 a) := ⟨_, _, nr, k2', fun _ => rfl⟩
  have kall := Ks.mid k0' nq kr2
  have hlen : (l.take i ++ tth lk 2 :: l.drop i).length = l.length + 1 := by simp; omega
  have hpl : (ps.take i ++ q :: (r :: ps.drop (i + 1))).length = ps.length + 1 := by simp; omega
  have o2' := tri.o2
  rw [hps] at o2'
  rw [hT]
  refine ⟨_, TN.shut tri.hp (by rw [hlen]; exact tri.o1) (by rw [hpl]; exact o2') kall (fun _ => rfl), fun a => ?_, fun a ha => ?_, hfr.trans tri.fr (fun k hk h0 => ?_)⟩
  · by_cases hs : a < w5.heap.size
    · have h1 := tri.le a hs
      have h2 := hn5 a
      have h3 := hgk a
      rw [hf2 a] at h1
      show one1 p a + ob lv' a + ob kv' a + (g0 a + (one1 q a + ob lq' a + ob kq' a + gk1 a) + (one1 r a + ob lr a + ob kr a + gk2 a + g2 a)) ≤ 1
      omega
    · have h1 := tri.nd a
      have h2 := b0 a (by omega)
      have h3 := b1 a (by omega)
      have h4 := b2 a (by omega)
      have h5 := hgk a
      show one1 p a + ob lv' a + ob kv' a + (g0 a + (one1 q a + ob lq' a + ob kq' a + gk1 a) + (one1 r a + ob lr a + ob kr a + gk2 a + g2 a)) ≤ 1
      omega
  · have h1 := tri.le a (by omega)
    have h2 := hle a ha
    have h3 := hgk a
    rw [hf2 a] at h1
    show one1 p a + ob lv' a + ob kv' a + (g0 a + (one1 q a + ob lq' a + ob kq' a + gk1 a) + (one1 r a + ob lr a + ob kr a + gk2 a + g2 a)) ≤ f a
    omega
  · have h2 := hle k hk
    rw [hf2 k]
    omega
set_option maxRecDepth 100000 in
set_option maxHeartbeats 4000000 in
theorem put_any : ∀ (h p : Nat) (T : BT) (f : Nat → Nat) (w : World) (e : Te), TN w h p T f → (∀ a, f a ≤ 1) → Shp h T → Srt (flat h T) → e ∉ flat h T → T.l.length ≤ 4 → Calls Tryz.prog 66 #[.pointer (some ⟨p, 0, none⟩), .agg #[.string e.key, .int .i64 e.no]] w fun e' w' => e' = .returned (.tuple #[]) ∧ Turned w w' h p f (putT h T e) := by
  intro h
  induction h with
  | zero =>
    intro p T f w e hT hn hs hS hne0 hl
    have hSl : Srt T.l := by obtain ⟨l, ks⟩ := T; exact hS
    obtain ⟨l, ks⟩ := T
    replace hSl : Srt l := hSl
    obtain ⟨lv, kv, ps, g, e1, e2, e3, e5, e4⟩ := hT.opn
    obtain ⟨A, c, rfl, hr⟩ := own_rd e2
    have hml := Rd.max hr
    have hl4 : l.length ≤ 4 := hl
    have ha := heap_alloc_new w (.cells #[.string e.key, .int .i64 e.no] 83)
    have hx1 := hid ((Ext.refl w).alloc_right (.cells #[.string e.key, .int .i64 e.no] 83))
    have z0 : (w.alloc (.cells #[.string e.key, .int .i64 e.no] 83)).cell? ⟨w.heap.size, 0, none⟩ = some (.string e.key) := by rw [Lib.cell_of_heap ha]; rfl
    have z1 : (w.alloc (.cells #[.string e.key, .int .i64 e.no] 83)).cell? ⟨w.heap.size, 1, none⟩ = some (.int .i64 e.no) := by rw [Lib.cell_of_heap ha]; rfl
    have zp := hx1.out.cell (node_c0 e1)
    have lp := World.block_lt_of_cell? _ _ zp
    dsimp only at lp
    have hP := hid (place_any p A l.length c l e _ zp (hr.ext hx1.out) hSl (by omega))
    have hil := (rank_cut hSl e).1
    have hbs : Hid (∀ a, f a ≠ 0 → a < w.heap.size) := fun a h0 => Nat.lt_of_not_le (fun h1 => h0 (hT.bound a h1))
    obtain ⟨rfl, rfl, hg0⟩ := e5
    replace e4 : ∀ a, f a = one1 p a + ob (.slice A l.length c) a + ob kv a := fun a => by rw [e4 a, hg0 a]; omega
    obtain ⟨kA, kc, rfl, -⟩ := own_rd e3
    have hii := hid (show tents (insT l e) = (tents l).take (rankT l e * 2) ++ ([.string e.key, .int .i64 e.no] ++ (tents l).drop (rankT l e * 2)) by rw [ins_cut hSl e, tents_append, tents_take, tents_drop]; rfl)
    replace hii := hid hii.out.symm
    show Calls Tryz.prog _ _ w (fun e' w' => e' = .returned (.tuple #[]) ∧ Turned w w' 0 p f (.nd (insT l e) []))
    clear ha zp hr
    go_enter Tryz.func66, Tryz.ntmps66
    go_upto_region 1 with fail
    obtain ⟨b, hb0⟩ : ∃ b, b = w.heap.size := ⟨_, rfl⟩
    rw [← hb0] at z0 z1
    simp only [← hb0]
    replace hb0 := hid hb0
    generalize w.alloc (.cells #[.string e.key, .int .i64 e.no] 83) = w1 at *
    generalize rankT l e = i at *
    generalize memT l e = mm at *
    go_wp2_with fail
    refine hP.out.mono ?_
    rintro e' w2 ⟨rfl, hx2⟩
    replace z0 := hx2.cell z0
    replace z1 := hx2.cell z1
    replace hx1 := hid (hx1.out.trans hx2)
    clear hx2 hP
    replace e1 := (hx1.out.block (Array.getElem?_eq_some_iff.1 e1).1).trans e1
    replace e2 := hx1.out.own e2
    replace e3 := hx1.out.own e3
    have lp2 := (Array.getElem?_eq_some_iff.1 e1).1
    have zk := node_c1 e1
    have zp := node_c0 e1
    have hb : Hid (∀ W1 W2 : World, W1.cell? ⟨b, 0, none⟩ = some (.string e.key) → W1.cell? ⟨b, 1, none⟩ = some (.int .i64 e.no) → ∀ v', Rw (.slice A l.length c) v' W1 W2 → W2.cell? ⟨b, 0, none⟩ = some (.string e.key) ∧ W2.cell? ⟨b, 1, none⟩ = some (.int .i64 e.no)) := fun W1 W2 q0 q1 v' hrw => by
      have hlt := World.block_lt_of_cell? _ _ q0
      have hbl : b ≥ w.heap.size := by have := hb0.out; omega
      have hne : some b ≠ (Value.slice A l.length c).ownBlock := fun e0 => by
        have := hbs.out b (by rw [e4 b, ob_some e0.symm]; omega)
        omega
      exact ⟨by rw [World.cell?_of_block (hrw.1.block b hlt hne)]; exact q0, by rw [World.cell?_of_block (hrw.1.block b hlt hne)]; exact q1⟩
    go_upto_region 3 with fail
    have I0 : (fun w' : World => w'.cell? ⟨p, 0, none⟩ = some (.slice A l.length c) ∧ w'.cell? ⟨b, 0, none⟩ = some (.string e.key) ∧ w'.cell? ⟨b, 1, none⟩ = some (.int .i64 e.no)) w2.drew := ⟨zp, z0, z1⟩
    have hx4 := hid (hx1.out.drew_right)
    refine region_J (fun w' : World => w'.cell? ⟨p, 0, none⟩ = some (.slice A l.length c) ∧ w'.cell? ⟨b, 0, none⟩ = some (.string e.key) ∧ w'.cell? ⟨b, 1, none⟩ = some (.int .i64 e.no)) 11 (by kernel_rfl) ?_
    replace e1 : w2.drew.heap[p]? = _ := e1
    replace e2 : w2.drew.ownsRow _ _ _ _ _ _ := (Ext.refl w2).drew_right.own e2
    replace e3 : w2.drew.ownsRow _ _ _ _ _ _ := (Ext.refl w2).drew_right.own e3
    clear zp z0 z1 zk
    generalize w2.drew = W at *
    refine J_take 0 (v := ?vc0) rfl (by kernel_rfl) (by kernel_rfl) (by kernel_rfl) (by kernel_rfl) (fun _ _ _ h => h) (Or.inl ⟨by rfl, ?yc0⟩) I0 ?rc0
    case yc0 => (intro w hSw; obtain ⟨_, _, _⟩ := hSw; (go_simp; with_reducible rfl))
    simp only [Act.put, List.getElem_toArray, List.getElem_cons_zero, List.getElem_cons_succ, List.setIfInBounds_toArray, List.set_cons_zero, List.set_cons_succ]
    refine J_take 1 (v := ?vc1) rfl (by kernel_rfl) (by kernel_rfl) (by kernel_rfl) (by kernel_rfl) (fun _ _ _ h => h) (Or.inl ⟨by rfl, ?yc1⟩) I0 ?rc1
    case yc1 => (intro w hSw; obtain ⟨_, _, _⟩ := hSw; (go_simp; with_reducible rfl))
    simp only [Act.put, List.getElem_toArray, List.getElem_cons_zero, List.getElem_cons_succ, List.setIfInBounds_toArray, List.set_cons_zero, List.set_cons_succ]
    refine J_take 2 (v := ?vc2) rfl (by kernel_rfl) (by kernel_rfl) (by kernel_rfl) (by kernel_rfl) (fun _ _ _ h => h) (Or.inl ⟨by rfl, ?yc2⟩) I0 ?rc2
    case yc2 => (intro w hSw; obtain ⟨_, _, _⟩ := hSw; (go_simp; with_reducible rfl))
    simp only [Act.put, List.getElem_toArray, List.getElem_cons_zero, List.getElem_cons_succ, List.setIfInBounds_toArray, List.set_cons_zero, List.set_cons_succ]
    refine J_take 3 (v := ?vc3) rfl (by kernel_rfl) (by kernel_rfl) (by kernel_rfl) (by kernel_rfl) (fun _ _ _ h => h) (Or.inl ⟨by rfl, ?yc3⟩) I0 ?rc3
    case yc3 => (intro w hSw; obtain ⟨_, _, _⟩ := hSw; (go_simp; with_reducible rfl))
    simp only [Act.put, List.getElem_toArray, List.getElem_cons_zero, List.getElem_cons_succ, List.setIfInBounds_toArray, List.set_cons_zero, List.set_cons_succ]
    refine J_take 4 (v := ?vc4) rfl (by kernel_rfl) (by kernel_rfl) (by kernel_rfl) (by kernel_rfl) (fun _ _ _ h => h) (Or.inl ⟨by rfl, ?yc4⟩) I0 ?rc4
    case yc4 => (intro w hSw; obtain ⟨_, _, _⟩ := hSw; (go_simp; with_reducible rfl))
    simp only [Act.put, List.getElem_toArray, List.getElem_cons_zero, List.getElem_cons_succ, List.setIfInBounds_toArray, List.set_cons_zero, List.set_cons_succ]
    refine J_take 5 (v := ?vc5) rfl (by kernel_rfl) (by kernel_rfl) (by kernel_rfl) (by kernel_rfl) (fun _ _ _ h => h) (Or.inl ⟨by rfl, ?yc5⟩) I0 ?rc5
    case yc5 => (intro w hSw; obtain ⟨_, _, _⟩ := hSw; (go_simp; with_reducible rfl))
    simp only [Act.put, List.getElem_toArray, List.getElem_cons_zero, List.getElem_cons_succ, List.setIfInBounds_toArray, List.set_cons_zero, List.set_cons_succ]
    refine J_take 6 (v := ?vc6) rfl (by kernel_rfl) (by kernel_rfl) (by kernel_rfl) (by kernel_rfl) (fun _ _ _ h => h) (Or.inl ⟨by rfl, ?yc6⟩) I0 ?rc6
    case yc6 => (intro w hSw; obtain ⟨_, _, _⟩ := hSw; (go_simp; with_reducible rfl))
    simp only [Act.put, List.getElem_toArray, List.getElem_cons_zero, List.getElem_cons_succ, List.setIfInBounds_toArray, List.set_cons_zero, List.set_cons_succ]
    refine J_one 7 rfl (by kernel_rfl) (fun K hK => ?_)
    go_simp
    have hx5 := (Ext.refl W).alloc_right (.cells #[.string e.key, .int .i64 e.no] 83)
    have hva := hid (heap_alloc_new W (.cells #[.string e.key, .int .i64 e.no] 83))
    have hne : Hid ((Value.slice A l.length c).ownBlock ≠ some W.heap.size) := fun e => by have := (e2.lt _ e).2; omega
    have I1 : (fun w' : World => w'.cell? ⟨p, 0, none⟩ = some (.slice A l.length c) ∧ w'.cell? ⟨b, 0, none⟩ = some (.string e.key) ∧ w'.cell? ⟨b, 1, none⟩ = some (.int .i64 e.no)) (W.alloc (.cells #[.string e.key, .int .i64 e.no] 83)) := ⟨hx5.cell I0.1, hx5.cell I0.2.1, hx5.cell I0.2.2⟩
    replace e1 := (hx5.block (Array.getElem?_eq_some_iff.1 e1).1).trans e1
    replace e2 := hx5.own e2
    replace e3 := hx5.own e3
    replace hx4 := hid (hx4.out.trans hx5)
    clear hx5
    generalize W.heap.size = va at *
    generalize W.alloc (.cells #[.string e.key, .int .i64 e.no] 83) = W1 at *
    refine hK _ _ ⟨fun _ => I1, ?_⟩
    clear hK K
    try simp only [Act.put, List.getElem_toArray, List.getElem_cons_zero, List.getElem_cons_succ, List.setIfInBounds_toArray, List.set_cons_zero, List.set_cons_succ]
    refine J_one 8 rfl (by kernel_rfl) (fun K hK => ?_)
    go_simp
    refine (ins_N l.length i _ (tents l) [.string e.key, .int .i64 e.no] va W1 hil (by omega) e2 (tents_one _) hva.out rfl (tents_one [e]) hne.out).mono ?_
    rintro e' W2 ⟨v', rfl, ho', hrw⟩
    have hpl : Hid ((Value.slice A l.length c).ownBlock ≠ some p) := fun e => by have := hn p; rw [e4 p, one_self, ob_some e] at this; omega
    have bp := (hrw.1.block p (Array.getElem?_eq_some_iff.1 e1).1 (fun e0 => hpl.out e0.symm)).trans e1
    have hp2 := node_c0 bp
    have hf2 := Lib.frozen_of_heap bp 0
    have hfin : ∀ u, u = v' → Turned w (W2.setCell ⟨p, 0, none⟩ u) 0 p f (.nd (insT l e) []) := fun u eu => by
      rw [eu]
      refine leaf_put hx4.out e1 e2 e3 e4 hn hrw ?_
      rw [len_ins, ← hii.out]
      exact ho'
    replace hfin := hid hfin
    obtain ⟨Av, cv, rfl, -⟩ := own_form ho'
    have lb : b < W2.heap.size := by have := World.block_lt_of_cell? _ _ I1.2.1; have := hrw.1.size; dsimp only at *; omega
    have I2 : (fun w' : World => w'.cell? ⟨p, 0, none⟩ = some (.slice A l.length c) ∧ w'.cell? ⟨b, 0, none⟩ = some (.string e.key) ∧ w'.cell? ⟨b, 1, none⟩ = some (.int .i64 e.no)) W2 := ⟨hp2, (hb.out W1 W2 I1.2.1 I1.2.2 _ hrw).1, (hb.out W1 W2 I1.2.1 I1.2.2 _ hrw).2⟩
    clear ho' hrw hva hne e1 e2 e3
    refine hK _ _ ⟨fun _ => I2, ?_⟩
    clear hK K
    try simp only [Act.put, List.getElem_toArray, List.getElem_cons_zero, List.getElem_cons_succ, List.setIfInBounds_toArray, List.set_cons_zero, List.set_cons_succ]
    refine J_one 9 rfl (by kernel_rfl) (fun K hK => ?_)
    go_simp
    refine hK _ _ ⟨fun _ => I2, ?_⟩
    clear hK K
    try simp only [Act.put, List.setIfInBounds_toArray, List.set_cons_zero, List.set_cons_succ]
    refine J_one 10 rfl (by kernel_rfl) (fun K hK => ?_)
    go_simp
    refine hK _ _ ⟨fun _ => I2, ?_⟩
    clear hK K
    try simp only [Act.put, List.setIfInBounds_toArray, List.set_cons_zero, List.set_cons_succ]
    refine J_one 11 rfl (by kernel_rfl) (fun K hK => ?_)
    go_simp
    refine hK _ _ ⟨fun h => absurd rfl h, ?_⟩
    clear hK K
    refine J_done (by kernel_rfl) (OnlyOn.normal ?_)
    replace hfin := hid (hfin.out _ rfl)
    clear hp2 hf2 I2
    go_wp2_with fail
    refine bodyPost_ret (results_none rfl _ _ _) rfl ?_
    exact ⟨rfl, hfin.out⟩
  | succ h ih =>
    intro p T f w e hT hn hs hS hne0 hl
    have hSl : Srt T.l := by obtain ⟨l, ks⟩ := T; exact (node_lt hs hS e).1
    obtain ⟨l, ks⟩ := T
    replace hSl : Srt l := hSl
    obtain ⟨lv, kv, ps, g, e1, e2, e3, e5, e4⟩ := hT.opn
    obtain ⟨A, c, rfl, hr⟩ := own_rd e2
    have hml := Rd.max hr
    have hl4 : l.length ≤ 4 := hl
    have ha := heap_alloc_new w (.cells #[.string e.key, .int .i64 e.no] 83)
    have hx1 := hid ((Ext.refl w).alloc_right (.cells #[.string e.key, .int .i64 e.no] 83))
    have z0 : (w.alloc (.cells #[.string e.key, .int .i64 e.no] 83)).cell? ⟨w.heap.size, 0, none⟩ = some (.string e.key) := by rw [Lib.cell_of_heap ha]; rfl
    have z1 : (w.alloc (.cells #[.string e.key, .int .i64 e.no] 83)).cell? ⟨w.heap.size, 1, none⟩ = some (.int .i64 e.no) := by rw [Lib.cell_of_heap ha]; rfl
    have zp := hx1.out.cell (node_c0 e1)
    have lp := World.block_lt_of_cell? _ _ zp
    dsimp only at lp
    have hP := hid (place_any p A l.length c l e _ zp (hr.ext hx1.out) hSl (by omega))
    have hil := (rank_cut hSl e).1
    have hbs : Hid (∀ a, f a ≠ 0 → a < w.heap.size) := fun a h0 => Nat.lt_of_not_le (fun h1 => h0 (hT.bound a h1))
    obtain ⟨-, K, hKi, hfl, hA, hB, hSK⟩ := node_lt hs hS e
    obtain ⟨q, g0, g1, g2, hpi, hKq, k0, k2, hg⟩ := Ks.cut (show Ks (TN w h) ps ks g from e5) hKi
    obtain ⟨s1, s2, s3⟩ := hs.2 K (List.mem_of_getElem? hKi)
    have hnK : e ∉ flat h K := fun hm => hne0 (by rw [hfl]; exact List.mem_append_right _ (List.mem_append_left _ hm))
    obtain ⟨o1, o2, o3, o4⟩ := putT_ok h K e s3 hSK hnK
    have hgK : ks.getD (rankT l e) default = K := by simp [List.getD, hKi]
    have hil2 : rankT l e < ps.length := (List.getElem?_eq_some_iff.1 hpi).1
    have hkl : ks.length = l.length + 1 := hs.1
    have hpsl : ps.length = ks.length := Ks.len (show Ks (TN w h) ps ks g from e5)
    have hn1 : ∀ a, g1 a ≤ 1 := fun a => by have := hn a; rw [e4 a, hg a] at this; omega
    have ih' := hid (fun W (hx : Ext w W) => ih q K g1 W e (hKq.ext hx) hn1 s3 hSK hnK (by omega))
    replace hkl := hid hkl
    replace hpsl := hid hpsl
    obtain ⟨kA, kc, rfl, hkr⟩ := own_rd e3
    have hkm := Rd.max hkr
    obtain ⟨ad, rfl, -⟩ := hkr.2.2.2 (by omega)
    obtain ⟨R, hR⟩ : ∃ R, R = putT (h + 1) (.nd l ks) e := ⟨_, rfl⟩
    rw [← hR]
    unfold putT at hR
    rw [hgK] at hR
    generalize putT h K e = K' at *
    obtain ⟨lk, kk⟩ := K'
    replace o3 : K.l.length ≤ lk.length := o3
    replace o4 : lk.length ≤ K.l.length + 1 := o4
    replace hR := hid (show R = if 4 < lk.length then splitT l ks (rankT l e) (.nd lk kk) else .nd l (ks.set (rankT l e) (.nd lk kk)) from hR)
    have hfb : Hid (∀ a, w.heap.size ≤ a → f a = 0) := hT.bound
    replace hn := hid hn
    replace e4 := hid e4
    replace hg := hid hg
    replace hpi := hid hpi
    replace hKi := hid hKi
    replace o1 := hid o1
    have hk6 : Hid (kk.length = 0 ∨ (kk.length = lk.length + 1)) := by
      cases h with
      | zero => left; have : kk = [] := o1.out; rw [this]; rfl
      | succ h => right; exact o1.out.1
    clear hKq e5 hfl hA hB hSK hs hS hne0 hl hT hgK hnK hSl o2 hkr s1 s3 hn1
    clear ha zp hr
    go_enter Tryz.func66, Tryz.ntmps66
    go_upto_region 1 with fail
    obtain ⟨b, hb0⟩ : ∃ b, b = w.heap.size := ⟨_, rfl⟩
    rw [← hb0] at z0 z1
    simp only [← hb0]
    replace hb0 := hid hb0
    generalize w.alloc (.cells #[.string e.key, .int .i64 e.no] 83) = w1 at *
    generalize rankT l e = i at *
    generalize memT l e = mm at *
    go_wp2_with fail
    refine hP.out.mono ?_
    rintro e' w2 ⟨rfl, hx2⟩
    replace z0 := hx2.cell z0
    replace z1 := hx2.cell z1
    replace hx1 := hid (hx1.out.trans hx2)
    clear hx2 hP
    replace e1 := (hx1.out.block (Array.getElem?_eq_some_iff.1 e1).1).trans e1
    replace e2 := hx1.out.own e2
    replace e3 := hx1.out.own e3
    have lp2 := (Array.getElem?_eq_some_iff.1 e1).1
    replace k0 := Ks.frame (fun p T g h1 (h2 : ∀ a, 0 < g a → (fun _ => 0) a = 0) => TN.ext h1 hx1.out) k0 (fun _ _ => rfl)
    replace k2 := Ks.frame (fun p T g h1 (h2 : ∀ a, 0 < g a → (fun _ => 0) a = 0) => TN.ext h1 hx1.out) k2 (fun _ _ => rfl)
    have zk := node_c1 e1
    have zq := rd_ptr (Rd.of_own e3) hpi.out
    have hn0 : ((ps.length : Int) == 0) = false := by rw [beq_eq_false_iff_ne]; omega
    have hki : (i : Int) < (ps.length : Int) := by omega
    go_upto_region 4 with fail
    have I0 : (fun w' : World => w'.cell? ⟨p, 1, none⟩ = some (.slice (some ad) ps.length kc) ∧ w'.cell? (ad.add i) = some (.pointer (some ⟨q, 0, none⟩)) ∧ w'.cell? ⟨b, 0, none⟩ = some (.string e.key) ∧ w'.cell? ⟨b, 1, none⟩ = some (.int .i64 e.no)) w2.drew := ⟨zk, zq, z0, z1⟩
    have hxW := hid (hx1.out.drew_right)
    refine region_J (fun w' : World => w'.cell? ⟨p, 1, none⟩ = some (.slice (some ad) ps.length kc) ∧ w'.cell? (ad.add i) = some (.pointer (some ⟨q, 0, none⟩)) ∧ w'.cell? ⟨b, 0, none⟩ = some (.string e.key) ∧ w'.cell? ⟨b, 1, none⟩ = some (.int .i64 e.no)) 9 (by kernel_rfl) ?_
    replace e1 : w2.drew.heap[p]? = _ := e1
    replace e2 := (Ext.refl w2).drew_right.own e2
    replace e3 := (Ext.refl w2).drew_right.own e3
    replace k0 := Ks.frame (fun p T g h1 (h2 : ∀ a, 0 < g a → (fun _ => 0) a = 0) => TN.ext h1 (Ext.refl w2).drew_right) k0 (fun _ _ => rfl)
    replace k2 := Ks.frame (fun p T g h1 (h2 : ∀ a, 0 < g a → (fun _ => 0) a = 0) => TN.ext h1 (Ext.refl w2).drew_right) k2 (fun _ _ => rfl)
    clear z0 z1 zk zq hx1
    generalize w2.drew = W at *
    refine J_takeO 0 (v := ?vd0) rfl (by kernel_rfl) (by kernel_rfl) (by kernel_rfl) (by kernel_rfl) (fun _ _ _ h => h) (Or.inl ⟨by rfl, ?yd0⟩) I0 ?rd0
    case yd0 => (intro w hSw; obtain ⟨_, _, _, _⟩ := hSw; (go_simp; with_reducible rfl))
    simp only [Act.put, List.getElem_toArray, List.getElem_cons_zero, List.getElem_cons_succ, List.setIfInBounds_toArray, List.set_cons_zero, List.set_cons_succ]
    refine J_takeO 1 (v := ?vd1) rfl (by kernel_rfl) (by kernel_rfl) (by kernel_rfl) (by kernel_rfl) (fun _ _ _ h => h) (Or.inl ⟨by rfl, ?yd1⟩) I0 ?rd1
    case yd1 => (intro w hSw; obtain ⟨_, _, _, _⟩ := hSw; (go_simp; with_reducible rfl))
    simp only [Act.put, List.getElem_toArray, List.getElem_cons_zero, List.getElem_cons_succ, List.setIfInBounds_toArray, List.set_cons_zero, List.set_cons_succ]
    refine J_takeO 2 (v := ?vd2) rfl (by kernel_rfl) (by kernel_rfl) (by kernel_rfl) (by kernel_rfl) (fun _ _ _ h => h) (Or.inl ⟨by rfl, ?yd2⟩) I0 ?rd2
    case yd2 => (intro w hSw; obtain ⟨_, _, _, _⟩ := hSw; (go_simp; with_reducible rfl))
    simp only [Act.put, List.getElem_toArray, List.getElem_cons_zero, List.getElem_cons_succ, List.setIfInBounds_toArray, List.set_cons_zero, List.set_cons_succ]
    refine J_takeO 3 (v := ?vd3) rfl (by kernel_rfl) (by kernel_rfl) (by kernel_rfl) (by kernel_rfl) (fun _ _ _ h => h) (Or.inl ⟨by rfl, ?yd3⟩) I0 ?rd3
    case yd3 => (intro w hSw; obtain ⟨_, _, _, _⟩ := hSw; (go_simp; with_reducible rfl))
    simp only [Act.put, List.getElem_toArray, List.getElem_cons_zero, List.getElem_cons_succ, List.setIfInBounds_toArray, List.set_cons_zero, List.set_cons_succ]
    refine J_takeO 4 (v := ?vd4) rfl (by kernel_rfl) (by kernel_rfl) (by kernel_rfl) (by kernel_rfl) (fun _ _ _ h => h) (Or.inl ⟨by rfl, ?yd4⟩) I0 ?rd4
    case yd4 => (intro w hSw; obtain ⟨_, _, _, _⟩ := hSw; (go_simp; with_reducible rfl))
    simp only [Act.put, List.getElem_toArray, List.getElem_cons_zero, List.getElem_cons_succ, List.setIfInBounds_toArray, List.set_cons_zero, List.set_cons_succ]
    refine J_takeO 5 (v := ?vd5) rfl (by kernel_rfl) (by kernel_rfl) (by kernel_rfl) (by kernel_rfl) (fun _ _ _ h => h) (Or.inl ⟨by rfl, ?yd5⟩) I0 ?rd5
    case yd5 => (intro w hSw; obtain ⟨_, _, _, _⟩ := hSw; (go_simp; with_reducible rfl))
    simp only [Act.put, List.getElem_toArray, List.getElem_cons_zero, List.getElem_cons_succ, List.setIfInBounds_toArray, List.set_cons_zero, List.set_cons_succ]
    refine J_takeO 6 (v := ?vd6) rfl (by kernel_rfl) (by kernel_rfl) (by kernel_rfl) (by kernel_rfl) (fun _ _ _ h => h) (Or.inl ⟨by rfl, ?yd6⟩) I0 ?rd6
    case yd6 => (intro w hSw; obtain ⟨_, _, _, _⟩ := hSw; (go_simp; with_reducible rfl))
    simp only [Act.put, List.getElem_toArray, List.getElem_cons_zero, List.getElem_cons_succ, List.setIfInBounds_toArray, List.set_cons_zero, List.set_cons_succ]
    refine J_takeO 7 (v := ?vd7) rfl (by kernel_rfl) (by kernel_rfl) (by kernel_rfl) (by kernel_rfl) (fun _ _ _ h => h) (Or.inl ⟨by rfl, ?yd7⟩) I0 ?rd7
    case yd7 => (intro w hSw; obtain ⟨_, _, _, _⟩ := hSw; (go_simp; with_reducible rfl))
    simp only [Act.put, List.getElem_toArray, List.getElem_cons_zero, List.getElem_cons_succ, List.setIfInBounds_toArray, List.set_cons_zero, List.set_cons_succ]
    refine J_one 8 rfl (by kernel_rfl) (fun K hK => ?_)
    go_simp
    refine (ih'.out W hxW.out).mono ?_
    rintro e' w5 ⟨rfl, ht⟩
    obtain ⟨g1', t1, t2, t3, t4, t5, t6, t7, t8, t9⟩ := kid_turned (f := f) e1 e2 e3 hpi.out hKi.out k0 k2 (fun a => by rw [e4.out a, hg.out a]) hn.out (fun a ha => hfb.out a (Nat.le_trans hxW.out.size ha)) ht
    have hbc : ∀ j x, W.cell? ⟨b, j, none⟩ = some x → w5.cell? ⟨b, j, none⟩ = some x := fun j x hx => by
      rw [World.cell?_of_block (t9.2.2.2.2 b (World.block_lt_of_cell? _ _ hx) (hfb.out b (by have := hb0.out; omega)))]
      exact hx
    have I2 : (fun w' : World => w'.cell? ⟨p, 1, none⟩ = some (.slice (some ad) ps.length kc) ∧ w'.cell? (ad.add i) = some (.pointer (some ⟨q, 0, none⟩)) ∧ w'.cell? ⟨b, 0, none⟩ = some (.string e.key) ∧ w'.cell? ⟨b, 1, none⟩ = some (.int .i64 e.no)) w5 := ⟨node_c1 t2, rd_ptr (Rd.of_own t4) hpi.out, hbc 0 _ I0.2.2.1, hbc 1 _ I0.2.2.2⟩
    replace t1 := hid t1
    replace t2 := hid t2
    replace t3 := hid t3
    replace t4 := hid t4
    replace t5 := hid t5
    replace t6 := hid t6
    replace t7 := hid t7
    replace t8 := hid t8
    replace t9 := hid t9
    clear ht e1 e2 e3 k0 k2 hbc ih'
    refine hK _ _ ⟨fun _ => I2, ?_⟩
    clear hK K
    try simp only [Act.put, List.getElem_toArray, List.getElem_cons_zero, List.getElem_cons_succ, List.setIfInBounds_toArray, List.set_cons_zero, List.set_cons_succ]
    refine J_done (by kernel_rfl) (OnlyOn.normal ?_)
    obtain ⟨lq, kq, pk, gk, u1, u2, u3, u5, u4⟩ := t1.out.opn
    obtain ⟨Aq, cq, rfl, hrq⟩ := own_rd u2
    have hmq := Rd.max hrq
    have zk := I2.1
    have zq := I2.2.1
    have zq0 := node_c0 u1
    have lp5 := (Array.getElem?_eq_some_iff.1 t2.out).1
    have lq5 := (Array.getElem?_eq_some_iff.1 u1).1
    have hpl6 := hid u5.len
    replace u1 := hid u1
    replace u2 := hid u2
    replace u3 := hid u3
    replace u4 := hid u4
    replace u5 := hid u5
    clear I2 I0 hrq
    by_cases h5 : 4 < lk.length
    · have d5 : (4 : Int) < (lk.length : Int) := by omega
      have hl5 : Hid (lk.length = 5) := by unfold Hid; omega
      have hRs : Hid (R = splitT l ks i (.nd lk kk)) := hR.out.trans (if_pos h5)
      have hle5 : Hid (∀ a, one1 p a + ob (.slice A l.length c) a + ob (.slice (some ad) ps.length kc) a + (g0 a + (one1 q a + ob (.slice Aq lk.length cq) a + ob kq a + gk a) + g2 a) ≤ 1) := fun a => by have := t7.out a; rw [u4.out a] at this; exact this
      have hSp := hid (split_any (fun a => one1 p a + ob (.slice A l.length c) a + ob (.slice (some ad) ps.length kc) a + one1 q a + ob (.slice Aq lk.length cq) a + ob kq a) p q i l lk ps pk _ _ _ _ w5 t2.out u1.out t3.out t4.out (by have := u2.out; rw [hl5.out] at this ⊢; exact this) u3.out hpi.out hil (by omega) (by have := hkl.out; have := hpsl.out; omega) hl5.out (by have := hpl6.out; have := hk6.out; have := hl5.out; omega) (fun a => by have := hle5.out a; omega) (fun _ => rfl))
      go_wp2_with fail
      refine hSp.out.mono ?_
      rintro e' w6 ⟨rfl, r, lv', kv', lq', kq', lr, kr, tri⟩
      have hfin : Hid (Turned w w6 (h + 1) p f R) := by
        rw [hRs.out]
        refine Turned.left (split_done (w := W) (by omega) hl5.out t9.out hpi.out (fun a ha => ?_) hle5.out t5.out t6.out u5.out (fun _ => rfl) tri hil) hxW.out
        have := t8.out a ha
        rw [u4.out a] at this
        exact this
      clear tri hSp
      go_wp2_with fail
      go_end0
      exact ⟨rfl, hfin.out⟩
    · have d5 : ¬ (4 : Int) < (lk.length : Int) := by omega
      have hfin : Hid (Turned w w5 (h + 1) p f R) := by
        rw [hR.out, if_neg h5]
        refine Turned.left ⟨_, TN.shut t2.out t3.out t4.out (show Kd w5 (h + 1) ps (ks.set i (.nd lk kk)) (fun a => g0 a + g1' a + g2 a) from ?_) (fun _ => rfl), t7.out, t8.out, t9.out⟩ hxW.out
        have hks := set_cut (l := ks) (i := i) (by have := hpsl.out; omega) (BT.nd lk kk)
        have hps : ps = ps.take i ++ q :: ps.drop (i + 1) := by
          have := list_cut (l := ps) (i := i) (by omega)
          rw [(List.getElem?_eq_some_iff.1 hpi.out).2] at this
          exact this
        rw [hks]
        have hm := Ks.mid t5.out t1.out t6.out
        rw [← hps] at hm
        exact hm
      go_wp2_with fail
      go_end0
      exact ⟨rfl, hfin.out⟩
end Go.Proofs.YtpijfiaecicpfaaGreat

namespace Go.Proofs.YtpijfiaecicpfaaGreat
open Go.RowKit Go.Shelf
set_option linter.unusedVariables false
set_option linter.unusedSimpArgs false
/-- A row that grows, from a start on: what else has turned, and whose blocks are its own. -/
def Gr (f : Nat → Nat) (w w' : World) (o : Value) : Prop := FR f w w' ∧ ∀ a, a < w.heap.size → ob o a ≤ f a
theorem Gr.start (w : World) (v : Value) : Gr (ob v) w w v := ⟨FR.of_ext (Ext.refl w), fun _ _ => Nat.le_refl _⟩
theorem Gr.ext {f : Nat → Nat} {w w1 w2 : World} {o : Value} (h : Gr f w w1 o) (hx : Ext w1 w2) : Gr f w w2 o := ⟨h.1.trans (FR.of_ext (f := f) hx) (fun _ _ h => h), h.2⟩
theorem Gr.trans {f : Nat → Nat} {w w1 w2 : World} {o o' : Value} (h : Gr f w w1 o) (h2 : Gr (ob o) w1 w2 o') : Gr f w w2 o' :=
  ⟨h.1.trans h2.1 (fun k hk h0 => by have := h.2 k hk; omega), fun a ha => Nat.le_trans (h2.2 a (Nat.lt_of_lt_of_le ha h.1.2.2.2.1)) (h.2 a ha)⟩
theorem Gr.push {f : Nat → Nat} {w w1 w2 : World} {o o' : Value} (h : Gr f w w1 o) (hg : w1.grownBy w2 o.ownBlock) (ho : o'.ownBlock = o.ownBlock ∨ ∀ k, o'.ownBlock = some k → w1.heap.size ≤ k) : Gr f w w2 o' := by
  refine ⟨⟨h.1.1.trans hg.os.symm, h.1.2.1.trans hg.tape.symm, h.1.2.2.1.trans hg.output.symm, Nat.le_trans h.1.2.2.2.1 hg.size, fun k hk h0 => ?_⟩, fun a ha => ?_⟩
  · refine (hg.block k (Nat.lt_of_lt_of_le hk h.1.2.2.2.1) (fun e => ?_)).trans (h.1.2.2.2.2 k hk h0)
    have := h.2 k hk
    rw [ob_some e.symm] at this
    omega
  · rcases ho with h1 | h1
    · rw [ob_same h1]; exact h.2 a ha
    · rw [show ob o' a = 0 from if_neg (fun e => by have := h1 a e; have := h.1.2.2.2.1; omega)]; exact Nat.zero_le _
theorem at_own {v : Value} {W W' g : Nat} (h : v.ownBlock = some g ∨ g = W' + 1) (hW : W ≤ W' + 1) (n2 c2 : Nat) : (Value.slice (some ⟨g, 0, none⟩) n2 c2).ownBlock = v.ownBlock ∨ ∀ k, (Value.slice (some ⟨g, 0, none⟩) n2 c2).ownBlock = some k → W ≤ k := by
  rcases h with h | h
  · left; rw [h]; rfl
  · right
    intro k hk
    have : g = k := by simpa [Value.ownBlock] using hk
    omega
/-- The shape of a tree whose leaves are equally deep. -/
def Shw : Nat → BT → Prop
  | 0, .nd l ks => ks = []
  | h + 1, .nd l ks => ks.length = l.length + 1 ∧ ∀ k ∈ ks, Shw h k
theorem Shp.w : ∀ {h : Nat} {T : BT}, Shp h T → Shw h T
  | 0, .nd l ks, hs => hs
  | h + 1, .nd l ks, hs => ⟨hs.1, fun k hk => (hs.2 k hk).2.2.w⟩
def ptF (h : Nat) (l : List Te) (ks : List BT) (k : Nat) : List Te := wvp (l.take k) ((ks.take k).map (flat h))
theorem pt_cut {h : Nat} {l : List Te} {ks : List BT} {k : Nat} {K : BT} (hl : ks.length = l.length + 1) (hk : ks[k]? = some K) : flat (h + 1) (.nd l ks) = ptF h l ks k ++ (flat h K ++ tlW (l.drop k) ((ks.drop (k + 1)).map (flat h))) := by
  obtain ⟨hlt, rfl⟩ := List.getElem?_eq_some_iff.1 hk
  have h1 := flat_cut (h := h) (l1 := l.take k) (l2 := l.drop k) (k1 := ks.take k) (K := ks[k]) (k2 := ks.drop (k + 1)) (by rw [List.length_take, List.length_take]; omega)
  rw [List.take_append_drop, ← list_cut hlt] at h1
  exact h1
theorem wvp_last : ∀ {l : List Te} {m : List (List Te)} {x : Te} {y : List Te}, l.length = m.length → wvp (l ++ [x]) (m ++ [y]) = wvp l m ++ (y ++ [x])
  | [], [], x, y, _ => rfl
  | a :: l, b :: m, x, y, h => by
    rw [List.cons_append, List.cons_append, wvp, wvp, wvp_last (by simpa using h)]
    simp
  | [], _ :: _, _, _, h => by cases h
  | _ :: _, [], _, _, h => by cases h
theorem pt_step {h : Nat} {l : List Te} {ks : List BT} {k : Nat} {K : BT} (hl : ks.length = l.length + 1) (hlt : k < l.length) (hk : ks[k]? = some K) : ptF h l ks (k + 1) = ptF h l ks k ++ (flat h K ++ [tth l k]) := by
  unfold ptF
  rw [List.take_succ_eq_append_getElem hlt, List.take_add_one, hk, tth_get hlt]
  show wvp (l.take k ++ [l[k]]) ((ks.take k ++ [K]).map (flat h)) = _
  rw [List.map_append]
  exact wvp_last (by rw [List.length_map, List.length_take, List.length_take]; omega)
theorem pt_len {h : Nat} {l : List Te} {ks : List BT} {k : Nat} (hl : ks.length = l.length + 1) (hk : k ≤ l.length) : (ptF h l ks k).length ≤ (flat (h + 1) (.nd l ks)).length := by
  have hlt : k < ks.length := by omega
  rw [pt_cut hl (List.getElem?_eq_getElem hlt), List.length_append]
  omega
theorem pt_end {h : Nat} {l : List Te} {ks : List BT} {K : BT} (hl : ks.length = l.length + 1) (hk : ks[l.length]? = some K) : flat (h + 1) (.nd l ks) = ptF h l ks l.length ++ flat h K := by
  rw [pt_cut hl hk, List.drop_length]
  simp [tlW]
theorem tents_snoc (l : List Te) (x : Te) : tents (l ++ [x]) = tents l ++ [.string x.key, .int .i64 x.no] := by rw [tents_append]; simp [tents, tcells]
set_option maxRecDepth 100000 in
set_option maxHeartbeats 4000000 in
theorem all_any : ∀ (h p : Nat) (T : BT) (f : Nat → Nat) (B : Nat) (v : Value) (O : List Te) (w : World), TN w h p T f → Shw h T → (∀ a, 0 < ob v a → f a = 0) → w.ownsRow B 83 2 v O.length (tents O) → B ≤ w.heap.size → O.length + (flat h T).length ≤ 100000 → Calls Tryz.prog 65 #[.pointer (some ⟨p, 0, none⟩), v] w fun e w' => ∃ v', e = .returned v' ∧ w'.ownsRow B 83 2 v' (O ++ flat h T).length (tents (O ++ flat h T)) ∧ Gr (ob v) w w' v' := by
  obtain ⟨i0, hi0, hz0, hz1, hz2⟩ := info_parts infoN
  intro h
  induction h with
  | zero =>
    intro p T f B v O w hT hs hv hown hB hn
    obtain ⟨l, ks⟩ := T
    obtain ⟨hk, lv, kv, e1, e2, e3, e4⟩ := hT
    obtain ⟨A, c, rfl, hr⟩ := own_rd e2
    obtain ⟨kA, kc, rfl, -⟩ := own_rd e3
    have hmx := Rd.max hr
    have cp0 := node_c0 e1
    have cp1 := node_c1 e1
    have hin : Hid (∀ w', FR (ob v) w w' → w'.cell? ⟨p, 1, none⟩ = some (.slice kA 0 kc) ∧ RdN w' A l.length c l) := fun w' hF => by
      have hz : ∀ a, 0 < f a → ob v a = 0 := fun a ha => by
        rcases Nat.eq_zero_or_pos (ob v a) with h0 | h0
        · exact h0
        · have := hv a h0; omega
      refine ⟨node_c1 ((hF.2.2.2.2 p (Array.getElem?_eq_some_iff.1 e1).1 (hz p (by rw [e4 p, one_self]; omega))).trans e1), Rd.of_own (hF.own e2 (fun k e => hz k (by rw [e4 k, ob_some e]; omega)))⟩
    have hn' : O.length + l.length ≤ 100000 := hn
    have hst := hid (Gr.start w v)
    replace hown := hid hown
    show Calls Tryz.prog _ _ _ fun e w' => ∃ v', e = .returned v' ∧ w'.ownsRow B 83 2 v' (O ++ l).length (tents (O ++ l)) ∧ Gr (ob v) w w' v'
    clear e1 e2 e3 e4 hr hs hv hn
    go_enter Tryz.func65, Tryz.ntmps65
    go_wp2
    go_loopw [1, 12] (fun o i wr => ∃ k : Nat, k ≤ l.length ∧ i = .int .i64 k ∧ Hid (wr.ownsRow B 83 2 o (O ++ l.take k).length (tents (O ++ l.take k))) ∧ Hid (Gr (ob v) w wr o)) (fun _ i _ => l.length - (intOf i).toNat)
    case atStart => exact ⟨0, by omega, rfl, by rw [List.take_zero, List.append_nil]; exact hown.out, hst.out⟩
    case round =>
      obtain ⟨k, hkl, rfl, hown, hG⟩ := hrel
      obtain ⟨Ao, co, rfl, -⟩ := own_form hown.out
      obtain ⟨zk, hr⟩ := hin.out wr hG.out.1
      have hBr : B ≤ wr.heap.size := Nat.le_trans hB hG.out.1.2.2.2.1
      have lzk := World.block_lt_of_cell? _ _ zk
      dsimp only at lzk
      by_cases hlt : k < l.length
      · obtain ⟨ad, rfl, z0, z1⟩ := hr.at_ hlt
        have zk1 := ((Ext.refl wr).alloc_right (.cells #[.string (tth l k).key, .int .i64 (tth l k).no] 83)).cell zk
        have hlen : Hid ((O ++ l.take (k + 1)).length = (O ++ l.take k).length + 1) := by unfold Hid; rw [List.length_append, List.length_append, List.length_take, List.length_take]; omega
        have hlb : (O ++ l.take k).length ≤ 100000 := by rw [List.length_append, List.length_take]; omega
        have hten : Hid (tents (O ++ l.take (k + 1)) = tents (O ++ l.take k) ++ [.string (tth l k).key, .int .i64 (tth l k).no]) := by
          unfold Hid
          rw [List.take_succ_eq_append_getElem hlt, ← List.append_assoc, tents_snoc, tth_get hlt]
        generalize tth l k = x at *
        generalize (O ++ l.take k).length = n at *
        generalize tents (O ++ l.take k) = xs at *
        have hown1 : Hid (∀ o, (wr.alloc o).ownsRow B 83 2 (.slice Ao n co) n xs) := fun o => hown.out.alloc o
        have hG1 := hid (hG.out.ext ((Ext.refl wr).alloc_right (.cells #[.string x.key, .int .i64 x.no] 83)))
        have hB1 : B ≤ (wr.alloc (.cells #[.string x.key, .int .i64 x.no] 83)).heap.size := by simp; omega
        go_wp2_with (at_builtin; refine wpList_push _ rfl _ _ 52 rfl B 83 i0 _ 2 24 Tryz.underlying52 hi0 hz0 hz1 hz2 rfl (by decide) _ _ _ rfl (hown1.out _) [.string x.key, .int .i64 x.no] (by simp [Act.eval]) rfl (by simp [Value.oneCell']) (by unfold maxLen; omega) (by omega) hB1 ?_)
        intro g2 d2 w2 own2 hg2 hat
        have hG2 := hid (hG1.out.push hg2 (at_own hat (by simp) (n + 1) d2))
        have own3 : Hid (w2.ownsRow B 83 2 (.slice (some ⟨g2, 0, none⟩) (n + 1) d2) (O ++ l.take (k + 1)).length (tents (O ++ l.take (k + 1)))) := by
          unfold Hid
          rw [hlen.out, hten.out]
          exact own2
        clear hg2 hat own2 hlen hten
        go_wp2_with fail
        go_roundw
        case rel => exact ⟨k + 1, by omega, by go_num, own3, hG2⟩
        case measure => simp [intOf]; omega
      · obtain rfl : k = l.length := by omega
        go_wp2
        go_ret
        exact ⟨.slice Ao (O ++ l.take l.length).length co, rfl, by have h9 := hown.out; rw [List.take_length] at h9 ⊢; exact h9, hG.out⟩
  | succ h ih =>
    intro p T f B v O w hT hs hv hown hB hn
    obtain ⟨l, ks⟩ := T
    obtain ⟨lv, kv, ps, g, e1, e2, e3, e5, e4⟩ := hT
    obtain ⟨A, c, rfl, hr⟩ := own_rd e2
    obtain ⟨kA, kc, rfl, hkr⟩ := own_rd e3
    have hmx := Rd.max hr
    have hkmx := Rd.max hkr
    have cp0 := node_c0 e1
    have cp1 := node_c1 e1
    have hkl : ks.length = l.length + 1 := hs.1
    have hpl : ps.length = l.length + 1 := by rw [e5.len, hkl]
    have hin : Hid (∀ w', FR (ob v) w w' → w'.cell? ⟨p, 0, none⟩ = some (.slice A l.length c) ∧ w'.cell? ⟨p, 1, none⟩ = some (.slice kA ps.length kc) ∧ RdN w' A l.length c l ∧ Rd w' 1 kA ps.length kc (ptrs ps)) := fun w' hF => by
      have hz : ∀ a, 0 < f a → ob v a = 0 := fun a ha => by
        rcases Nat.eq_zero_or_pos (ob v a) with h0 | h0
        · exact h0
        · have := hv a h0; omega
      have e1' := (hF.2.2.2.2 p (Array.getElem?_eq_some_iff.1 e1).1 (hz p (by rw [e4 p, one_self]; omega))).trans e1
      exact ⟨node_c0 e1', node_c1 e1', Rd.of_own (hF.own e2 (fun k e => hz k (by rw [e4 k, ob_some e]; omega))), Rd.of_own (hF.own e3 (fun k e => hz k (by rw [e4 k, ob_some e]; omega)))⟩
    have hkid : Hid (∀ (k : Nat) (w' : World) (o : Value) (O' : List Te), k ≤ l.length → Gr (ob v) w w' o → w'.ownsRow B 83 2 o O'.length (tents O') → O'.length = O.length + (ptF h l ks k).length → ∃ q K, ps[k]? = some q ∧ ks[k]? = some K ∧ (ptF h l ks k).length + (flat h K).length ≤ (flat (h + 1) (.nd l ks)).length ∧ Calls Tryz.prog 65 #[.pointer (some ⟨q, 0, none⟩), o] w' fun e w2 => ∃ v', e = .returned v' ∧ w2.ownsRow B 83 2 v' (O' ++ flat h K).length (tents (O' ++ flat h K)) ∧ Gr (ob o) w' w2 v') := fun k w' o O' hk hG ho hlO => by
      have hlt : k < ks.length := by omega
      have hK := List.getElem?_eq_getElem hlt
      obtain ⟨q, g0, g1, g2, hq, hTK, -, -, hgs⟩ := e5.cut hK
      have hcut := pt_cut (h := h) hkl hK
      have hbd : (ptF h l ks k).length + (flat h ks[k]).length ≤ (flat (h + 1) (.nd l ks)).length := by rw [hcut, List.length_append, List.length_append]; omega
      refine ⟨q, ks[k], hq, hK, hbd, ih q ks[k] g1 B o O' w' ?_ (hs.2 _ (List.getElem_mem hlt)) (fun a ha => ?_) ho (Nat.le_trans hB hG.1.2.2.2.1) (by omega)⟩
      · refine hTK.frame hG.1 (fun a ha => ?_)
        rcases Nat.eq_zero_or_pos (ob v a) with h0 | h0
        · exact h0
        · have := hv a h0; rw [e4 a, hgs a] at this; omega
      · by_cases haw : a < w.heap.size
        · have h1 := hG.2 a haw
          have h2 := hv a (by omega)
          rw [e4 a, hgs a] at h2
          omega
        · exact TN.bound hTK a (by omega)
    have hptl : Hid (∀ k, k ≤ l.length → (ptF h l ks k).length ≤ (flat (h + 1) (.nd l ks)).length) := fun k hk => pt_len hkl hk
    have hst := hid (Gr.start w v)
    replace hown := hid hown
    have hsteps : Hid (∀ k K, k < l.length → ks[k]? = some K → ptF h l ks (k + 1) = ptF h l ks k ++ (flat h K ++ [tth l k])) := fun k K hk hK => pt_step hkl hk hK
    have hends : Hid (∀ K, ks[l.length]? = some K → flat (h + 1) (.nd l ks) = ptF h l ks l.length ++ flat h K) := fun K hK => pt_end hkl hK
    have hpt0 : Hid (ptF h l ks 0 = []) := by unfold Hid ptF; rw [List.take_zero]; rfl
    clear e1 e2 e3 e4 e5 hr hkr hs hv ih
    generalize flat (h + 1) (.nd l ks) = FF at *
    replace hkl := hid hkl
    replace hpl := hid hpl
    go_enter Tryz.func65, Tryz.ntmps65
    go_wp2
    go_loopw [1, 12] (fun o i wr => ∃ k : Nat, k ≤ l.length ∧ i = .int .i64 k ∧ Hid (wr.ownsRow B 83 2 o (O ++ ptF h l ks k).length (tents (O ++ ptF h l ks k))) ∧ Hid (Gr (ob v) w wr o)) (fun _ i _ => l.length - (intOf i).toNat)
    case atStart => exact ⟨0, by omega, rfl, by rw [hpt0.out, List.append_nil]; exact hown.out, hst.out⟩
    case round =>
      obtain ⟨k, hkl, rfl, hown, hG⟩ := hrel
      obtain ⟨Ao, co, rfl, -⟩ := own_form hown.out
      obtain ⟨zl, zk, hr, hkr⟩ := hin.out wr hG.out.1
      have hBr : B ≤ wr.heap.size := Nat.le_trans hB hG.out.1.2.2.2.1
      have lzk := World.block_lt_of_cell? _ _ zk
      dsimp only at lzk
      by_cases hlt : k < l.length
      · obtain ⟨ad, rfl, z0, z1⟩ := hr.at_ hlt
        have hxr := (Ext.refl wr).alloc_right (.cells #[.string (tth l k).key, .int .i64 (tth l k).no] 83)
        have hb0 := heap_alloc_new wr (.cells #[.string (tth l k).key, .int .i64 (tth l k).no] 83)
        have hob : Hid (ob (.slice Ao (O ++ ptF h l ks k).length co) wr.heap.size = 0) := own_bound hown.out (Nat.le_refl _)
        obtain ⟨q, K, hq, hK, hbd, hC⟩ := hkid.out k (wr.alloc (.cells #[.string (tth l k).key, .int .i64 (tth l k).no] 83)) _ _ hkl (hG.out.ext hxr) (hxr.own hown.out) (by rw [List.length_append])
        have hst1 := hsteps.out k K hlt hK
        have hlb := hptl.out (k + 1) hlt
        rw [hst1] at hlb
        simp only [List.length_append, List.length_cons, List.length_nil] at hlb
        have hlen : Hid ((O ++ ptF h l ks (k + 1)).length = (O ++ ptF h l ks k ++ flat h K).length + 1) := by unfold Hid; rw [hst1]; simp only [List.length_append, List.length_cons, List.length_nil]; omega
        have hlb2 : (O ++ ptF h l ks k ++ flat h K).length < 100000 := by simp only [List.length_append]; omega
        have hten : Hid (tents (O ++ ptF h l ks (k + 1)) = tents (O ++ ptF h l ks k ++ flat h K) ++ [.string (tth l k).key, .int .i64 (tth l k).no]) := by
          unfold Hid
          rw [hst1, ← tents_snoc]
          congr 1
          simp [List.append_assoc]
        have hC' := hid hC
        have hq' := hid hq
        have hkn : k < ps.length := by rw [hpl.out]; omega
        have hki : (k : Int) < (ps.length : Int) := by omega
        have hk0 : (0 : Int) < (ps.length : Int) := by omega
        obtain ⟨kad, rfl, -⟩ := hkr.2.2.2 (by omega)
        have cq := hxr.cell (rd_ptr hkr hq)
        replace zk := hxr.cell zk
        replace hG := hid (hG.out.ext hxr)
        clear hC hst1 hlb hq hK hbd hkr
        go_upto_region 4 with fail
        generalize tth l k = x at *
        have hsz1 : (wr.alloc (.cells #[.string x.key, .int .i64 x.no] 83)).heap.size = wr.heap.size + 1 := by simp
        clear hown z0 z1 hr hxr
        obtain ⟨b, hbe⟩ : ∃ b, b = wr.heap.size := ⟨_, rfl⟩
        rw [← hbe] at hb0 hob hsz1 lzk
        simp only [← hbe]
        have hBb : B ≤ b := by omega
        generalize wr.alloc (.cells #[.string x.key, .int .i64 x.no] 83) = w1 at *
        clear hbe
        generalize (O ++ ptF h l ks k ++ flat h K).length = n at *
        generalize tents (O ++ ptF h l ks k ++ flat h K) = xs at *
        generalize (O ++ ptF h l ks k).length = n0 at *
        replace hsz1 := hid hsz1
        replace hb0 := hid hb0
        have lt1 := World.block_lt_of_cell? _ _ zk
        dsimp only at lt1
        go_wp2_with fail
        refine hC'.out.mono ?_
        rintro e' w5 ⟨v5, rfl, own5, gr5⟩
        have hown5 := hid own5
        have hG5 := hid gr5
        have hG1 := hid (hG.out.trans gr5)
        clear own5 gr5
        have ho5 := hid hown5.out
        obtain ⟨A5, c5, rfl, -⟩ := own_form ho5.out
        have hb5 : w5.heap[b]? = some (.cells #[.string x.key, .int .i64 x.no] 83 (0, 0)) := (hG5.out.1.2.2.2.2 b (by rw [hsz1.out]; omega) hob.out).trans hb0.out
        have y0 : w5.cell? ⟨b, 0, none⟩ = some (.string x.key) := by rw [Lib.cell_of_heap hb5]; rfl
        have y1 : w5.cell? ⟨b, 1, none⟩ = some (.int .i64 x.no) := by rw [Lib.cell_of_heap hb5]; rfl
        have lb5 := (Array.getElem?_eq_some_iff.1 hb5).1
        have hB5 : B ≤ w5.heap.size := by omega
        clear hb0 hsz1 hG hG5 hown5 hb5 hob zk cq
        go_wp2_with (at_builtin; refine wpList_push _ rfl _ _ 52 rfl B 83 i0 _ 2 24 Tryz.underlying52 hi0 hz0 hz1 hz2 rfl (by decide) _ _ _ rfl ho5.out [.string x.key, .int .i64 x.no] (by simp [Act.eval]) rfl (by simp [Value.oneCell']) (by unfold maxLen; omega) (by omega) hB5 ?_)
        intro g2 d2 w6 own2 hg2 hat
        have hG2 := hid (hG1.out.push hg2 (at_own hat (by simp) (n + 1) d2))
        have own3 : Hid (w6.ownsRow B 83 2 (.slice (some ⟨g2, 0, none⟩) (n + 1) d2) (O ++ ptF h l ks (k + 1)).length (tents (O ++ ptF h l ks (k + 1)))) := by
          unfold Hid
          rw [hlen.out, hten.out]
          exact own2
        clear hg2 hat own2 hlen hten
        go_wp2_with fail
        go_roundw
        case rel => exact ⟨k + 1, by omega, by go_num, own3, hG2⟩
        case measure => simp [intOf]; omega
      · obtain rfl : k = l.length := by omega
        obtain ⟨q, K, hq, hK, hbd, hC⟩ := hkid.out l.length wr.drew _ _ hkl (hG.out.ext ((Ext.refl wr).drew_right)) (own_drewN hown.out 1) (by rw [List.length_append])
        have hend := hid (hends.out K hK)
        have hC' := hid hC
        have hq' := hid hq
        have hkn : l.length < ps.length := by rw [hpl.out]; omega
        have hki : (l.length : Int) < (ps.length : Int) := by omega
        have hk0 : (0 : Int) < (ps.length : Int) := by omega
        obtain ⟨kad, rfl, -⟩ := hkr.2.2.2 (by omega)
        have cq := rd_ptr hkr hq
        clear hC hq hK hbd hkr hown
        go_upto_region 9 with fail
        have I0 : (fun w' : World => w'.cell? ⟨p, 0, none⟩ = some (.slice A l.length c) ∧ w'.cell? ⟨p, 1, none⟩ = some (.slice (some kad) ps.length kc) ∧ w'.cell? (kad.add l.length) = some (.pointer (some ⟨q, 0, none⟩))) wr.drew := ⟨zl, zk, cq⟩
        refine region_J (fun w' : World => w'.cell? ⟨p, 0, none⟩ = some (.slice A l.length c) ∧ w'.cell? ⟨p, 1, none⟩ = some (.slice (some kad) ps.length kc) ∧ w'.cell? (kad.add l.length) = some (.pointer (some ⟨q, 0, none⟩))) 14 (by kernel_rfl) ?_
        clear zl zk cq
        generalize (O ++ ptF h l ks l.length).length = n0 at *
        generalize hw3 : wr.drew = w3 at *
        replace hG := hid (hG.out.ext ((Ext.refl wr).drew_right))
        rw [hw3] at hG
        refine J_takeO 0 (v := ?vd0) rfl (by kernel_rfl) (by kernel_rfl) (by kernel_rfl) (by kernel_rfl) (fun _ _ _ h => h) (Or.inl ⟨by rfl, ?yd0⟩) I0 ?rd0
        case yd0 => (intro w hSw; obtain ⟨_, _, _⟩ := hSw; (go_simp; with_reducible rfl))
        simp only [Act.put, List.getElem_toArray, List.getElem_cons_zero, List.getElem_cons_succ, List.setIfInBounds_toArray, List.set_cons_zero, List.set_cons_succ]
        refine J_takeO 1 (v := ?vd1) rfl (by kernel_rfl) (by kernel_rfl) (by kernel_rfl) (by kernel_rfl) (fun _ _ _ h => h) (Or.inl ⟨by rfl, ?yd1⟩) I0 ?rd1
        case yd1 => (intro w hSw; obtain ⟨_, _, _⟩ := hSw; (go_simp; with_reducible rfl))
        simp only [Act.put, List.getElem_toArray, List.getElem_cons_zero, List.getElem_cons_succ, List.setIfInBounds_toArray, List.set_cons_zero, List.set_cons_succ]
        refine J_takeO 2 (v := ?vd2) rfl (by kernel_rfl) (by kernel_rfl) (by kernel_rfl) (by kernel_rfl) (fun _ _ _ h => h) (Or.inl ⟨by rfl, ?yd2⟩) I0 ?rd2
        case yd2 => (intro w hSw; obtain ⟨_, _, _⟩ := hSw; (go_simp; with_reducible rfl))
        simp only [Act.put, List.getElem_toArray, List.getElem_cons_zero, List.getElem_cons_succ, List.setIfInBounds_toArray, List.set_cons_zero, List.set_cons_succ]
        refine J_takeO 3 (v := ?vd3) rfl (by kernel_rfl) (by kernel_rfl) (by kernel_rfl) (by kernel_rfl) (fun _ _ _ h => h) (Or.inl ⟨by rfl, ?yd3⟩) I0 ?rd3
        case yd3 => (intro w hSw; obtain ⟨_, _, _⟩ := hSw; (go_simp; with_reducible rfl))
        simp only [Act.put, List.getElem_toArray, List.getElem_cons_zero, List.getElem_cons_succ, List.setIfInBounds_toArray, List.set_cons_zero, List.set_cons_succ]
        refine J_takeO 4 (v := ?vd4) rfl (by kernel_rfl) (by kernel_rfl) (by kernel_rfl) (by kernel_rfl) (fun _ _ _ h => h) (Or.inl ⟨by rfl, ?yd4⟩) I0 ?rd4
        case yd4 => (intro w hSw; obtain ⟨_, _, _⟩ := hSw; (go_simp; with_reducible rfl))
        simp only [Act.put, List.getElem_toArray, List.getElem_cons_zero, List.getElem_cons_succ, List.setIfInBounds_toArray, List.set_cons_zero, List.set_cons_succ]
        refine J_takeO 5 (v := ?vd5) rfl (by kernel_rfl) (by kernel_rfl) (by kernel_rfl) (by kernel_rfl) (fun _ _ _ h => h) (Or.inl ⟨by rfl, ?yd5⟩) I0 ?rd5
        case yd5 => (intro w hSw; obtain ⟨_, _, _⟩ := hSw; (go_simp; with_reducible rfl))
        simp only [Act.put, List.getElem_toArray, List.getElem_cons_zero, List.getElem_cons_succ, List.setIfInBounds_toArray, List.set_cons_zero, List.set_cons_succ]
        refine J_takeO 6 (v := ?vd6) rfl (by kernel_rfl) (by kernel_rfl) (by kernel_rfl) (by kernel_rfl) (fun _ _ _ h => h) (Or.inl ⟨by rfl, ?yd6⟩) I0 ?rd6
        case yd6 => (intro w hSw; obtain ⟨_, _, _⟩ := hSw; (go_simp; with_reducible rfl))
        simp only [Act.put, List.getElem_toArray, List.getElem_cons_zero, List.getElem_cons_succ, List.setIfInBounds_toArray, List.set_cons_zero, List.set_cons_succ]
        refine J_takeO 7 (v := ?vd7) rfl (by kernel_rfl) (by kernel_rfl) (by kernel_rfl) (by kernel_rfl) (fun _ _ _ h => h) (Or.inl ⟨by rfl, ?yd7⟩) I0 ?rd7
        case yd7 => (intro w hSw; obtain ⟨_, _, _⟩ := hSw; (go_simp; with_reducible rfl))
        simp only [Act.put, List.getElem_toArray, List.getElem_cons_zero, List.getElem_cons_succ, List.setIfInBounds_toArray, List.set_cons_zero, List.set_cons_succ]
        refine J_takeO 8 (v := ?vd8) rfl (by kernel_rfl) (by kernel_rfl) (by kernel_rfl) (by kernel_rfl) (fun _ _ _ h => h) (Or.inl ⟨by rfl, ?yd8⟩) I0 ?rd8
        case yd8 => (intro w hSw; obtain ⟨_, _, _⟩ := hSw; (go_simp; with_reducible rfl))
        simp only [Act.put, List.getElem_toArray, List.getElem_cons_zero, List.getElem_cons_succ, List.setIfInBounds_toArray, List.set_cons_zero, List.set_cons_succ]
        refine J_takeO 9 (v := ?vd9) rfl (by kernel_rfl) (by kernel_rfl) (by kernel_rfl) (by kernel_rfl) (fun _ _ _ h => h) (Or.inl ⟨by rfl, ?yd9⟩) I0 ?rd9
        case yd9 => (intro w hSw; obtain ⟨_, _, _⟩ := hSw; (go_simp; with_reducible rfl))
        simp only [Act.put, List.getElem_toArray, List.getElem_cons_zero, List.getElem_cons_succ, List.setIfInBounds_toArray, List.set_cons_zero, List.set_cons_succ]
        refine J_takeO 10 (v := ?vd10) rfl (by kernel_rfl) (by kernel_rfl) (by kernel_rfl) (by kernel_rfl) (fun _ _ _ h => h) (Or.inl ⟨by rfl, ?yd10⟩) I0 ?rd10
        case yd10 => (intro w hSw; obtain ⟨_, _, _⟩ := hSw; (go_simp; with_reducible rfl))
        simp only [Act.put, List.getElem_toArray, List.getElem_cons_zero, List.getElem_cons_succ, List.setIfInBounds_toArray, List.set_cons_zero, List.set_cons_succ]
        refine J_takeO 11 (v := ?vd11) rfl (by kernel_rfl) (by kernel_rfl) (by kernel_rfl) (by kernel_rfl) (fun _ _ _ h => h) (Or.inl ⟨by rfl, ?yd11⟩) I0 ?rd11
        case yd11 => (intro w hSw; obtain ⟨_, _, _⟩ := hSw; (go_simp; with_reducible rfl))
        simp only [Act.put, List.getElem_toArray, List.getElem_cons_zero, List.getElem_cons_succ, List.setIfInBounds_toArray, List.set_cons_zero, List.set_cons_succ]
        refine J_one 12 rfl (by kernel_rfl) (fun K hK => ?_)
        go_simp
        refine hC'.out.mono ?_
        rintro e' w5 ⟨v5, rfl, own5, gr5⟩
        have hown5 := hid own5
        have hG5 := hid gr5
        have hG1 := hid (hG.out.trans gr5)
        clear own5 gr5
        obtain ⟨zl5, zk5, -, hkr5⟩ := hin.out w5 hG1.out.1
        have I5 : (fun w' : World => w'.cell? ⟨p, 0, none⟩ = some (.slice A l.length c) ∧ w'.cell? ⟨p, 1, none⟩ = some (.slice (some kad) ps.length kc) ∧ w'.cell? (kad.add l.length) = some (.pointer (some ⟨q, 0, none⟩))) w5 := ⟨zl5, zk5, rd_ptr hkr5 hq'.out⟩
        clear zl5 zk5 hkr5
        refine hK _ _ ⟨fun _ => I5, ?_⟩
        clear hK K
        try simp only [Act.put, List.getElem_toArray, List.getElem_cons_zero, List.getElem_cons_succ, List.setIfInBounds_toArray, List.set_cons_zero, List.set_cons_succ]
        refine J_one 13 rfl (by kernel_rfl) (fun K hK => ?_)
        go_simp
        refine hK _ _ ⟨fun _ => I5, ?_⟩
        clear hK K
        try simp only [Act.put, List.setIfInBounds_toArray, List.set_cons_zero, List.set_cons_succ]
        refine J_done (by kernel_rfl) (OnlyOn.normal ?_)
        go_wp2
        go_ret
        exact ⟨v5, rfl, by rw [hend.out, ← List.append_assoc, ← List.length_append, ← List.append_assoc]; exact hown5.out, hG1.out⟩
end Go.Proofs.YtpijfiaecicpfaaGreat

namespace Go.Proofs.YtpijfiaecicpfaaGreat
open Go.RowKit Go.Shelf
set_option linter.unusedVariables false
set_option linter.unusedSimpArgs false
/-- None of the stores has been taken. -/
def virgin (ex : Nat → Bool) (listed : Array Bool) : Bool := (List.range listed.size).all fun j => !(ex j) || !(listed.getD j true)
theorem virgin_iff {ex : Nat → Bool} {listed : Array Bool} : virgin ex listed = true ↔ ∀ j, j < listed.size → ex j = true → listed.getD j true = false := by
  unfold virgin
  rw [List.all_eq_true]
  constructor
  · intro h j hj he
    have := h j (List.mem_range.2 hj)
    rw [he] at this
    simpa using this
  · intro h j hj
    rw [List.mem_range] at hj
    cases he : ex j with
    | false => rfl
    | true => simp [h j hj he]
theorem virgin_back {ex : Nat → Bool} {listed : Array Bool} {i : Nat} (h : virgin ex (listed.setIfInBounds i true) = true) : virgin ex listed = true := by
  rw [virgin_iff] at h ⊢
  intro j hj he
  have h1 := h j (by simpa using hj) he
  by_cases e : i = j
  · subst e
    simp [hj] at h1
  · rwa [getD_set_ne true e] at h1
theorem virgin_on {ex : Nat → Bool} {listed : Array Bool} {i : Nat} (h : virgin ex listed = true) (hi : ex i = false) : virgin ex (listed.setIfInBounds i true) = true := by
  rw [virgin_iff] at h ⊢
  intro j hj he
  have hne : i ≠ j := fun e => by rw [← e, hi] at he; cases he
  rw [getD_set_ne true hne]
  exact h j (by simpa using hj) he
section
variable {P : Program} {ops : Array Oper} {Q : Exit → Act → World → Prop} {md : Region.Mode} {S0 S1 : World → Prop} {ex : Nat → Bool}
def wpAnyX (P : Program) (md : Region.Mode) (ops : Array Oper) (Q : Exit → Act → World → Prop) (S0 S1 : World → Prop) (ex : Nat → Bool) : Nat → Array Bool → Act → World → Prop
  | 0, listed, a, w => Region.ready md ops listed = [] ∧ Q .normal a w
  | fuel + 1, listed, a, w =>
    (Region.ready md ops listed = [] → Q .normal a w) ∧
    ∀ i ∈ Region.ready md ops listed, wpOp P ops Q i (fun a' w' => (S0 w' ∧ (virgin ex (listed.setIfInBounds i true) = true → S1 w')) ∧ wpAnyX P md ops Q S0 S1 ex fuel (listed.setIfInBounds i true) a' w') a w
theorem wpAny_of_X : ∀ (fuel : Nat) (listed : Array Bool) (a : Act) (w : World), wpAnyX P md ops Q S0 S1 ex fuel listed a w → wpAny P md ops Q fuel listed a w
  | 0, _, _, _, h => h
  | fuel + 1, _, _, _, h => ⟨h.1, fun i hi => wpOp_mono (fun a' w' h' => wpAny_of_X fuel _ a' w' h'.2) (h.2 i hi)⟩
theorem wpAnyX_first {i : Nat} {oi : Oper} {v : Value} {Sv : World → Prop} {inv : Array Bool → Prop} (hi : ops[i]? = some oi) (hsel : ∀ (j : Nat) (o : Oper) cs b, ops[j]? = some o → o.op ≠ .select cs b)
    (hxi : ex i = false) (hQ : ∀ c a w, Q (.panic c) (a.put oi.dst v) w → Q (.panic c) a w) (hV : ∀ listed w, inv listed → S0 w → (virgin ex listed = true → S1 w) → Sv w) (hinv : ∀ listed j, inv listed → i ∈ Region.ready md ops listed → j ∈ Region.ready md ops listed → inv (listed.setIfInBounds j true)) :
    ∀ (fuel : Nat) (listed : Array Bool) (a : Act) (w : World),
      (∀ j oj, ops[j]? = some oj → j ≠ i → listed.getD j true = false → (∀ e ∈ oj.after, Region.binds md e = true → e.on ≠ i) → oi.apart ops oj = true) →
      i ∈ Region.ready md ops listed → YieldsIf P ops Sv oi v a → inv listed → S0 w → (virgin ex listed = true → S1 w) →
      wpAnyX P md ops Q S0 S1 ex fuel (listed.setIfInBounds i true) (a.put oi.dst v) w → wpAnyX P md ops Q S0 S1 ex (fuel + 1) listed a w := by
  intro fuel
  induction fuel with
  | zero =>
    intro listed a w _ hr hy hn h0 h1 H
    refine ⟨fun h => (by rw [h] at hr; cases hr), fun j hj => ?_⟩
    by_cases hji : j = i
    · subst hji; exact hy.wpOp hi (hV _ _ hn h0 h1) ⟨⟨h0, fun h => h1 (virgin_back h)⟩, H⟩
    · have := ready_mono hj hji
      rw [H.1] at this
      cases this
  | succ fuel ih =>
    intro listed a w hfree hr hy hn h0 h1 H
    refine ⟨fun h => (by rw [h] at hr; cases hr), fun j hj => ?_⟩
    by_cases hji : j = i
    · subst hji; exact hy.wpOp hi (hV _ _ hn h0 h1) ⟨⟨h0, fun h => h1 (virgin_back h)⟩, H⟩
    · have h2 := H.2 j (ready_mono hj hji)
      obtain ⟨hjun, oj, hoj, hall⟩ := mem_ready.1 hj
      have hnot : ∀ e ∈ oj.after, Region.binds md e = true → e.on ≠ i := fun e he hb heq => by
        have h1 := hall e he hb
        have h0 := (mem_ready.1 hr).1
        rw [heq] at h1
        rcases Nat.lt_or_ge i listed.size with h' | h'
        · simp [h'] at h0 h1; rw [h0] at h1; cases h1
        · simp [Array.getElem?_eq_none h'] at h1
      have h2 := wpOp_putIf hoj (hfree j oj hoj hji hjun hnot) (fun cs b => hsel i oi cs b hi) (fun cs b => hsel j oj cs b hoj) hQ hy h2
      have hfree' : ∀ k ok, ops[k]? = some ok → k ≠ i → (listed.setIfInBounds j true).getD k true = false →
          (∀ e ∈ ok.after, Region.binds md e = true → e.on ≠ i) → oi.apart ops ok = true := fun k ok hk hki hun hno => by
        refine hfree k ok hk hki ?_ hno
        by_cases hjk : j = k
        · subst hjk; exact hjun
        · rw [getD_set_ne true hjk] at hun; exact hun
      have hc : (listed.setIfInBounds i true).setIfInBounds j true = (listed.setIfInBounds j true).setIfInBounds i true := Array.setIfInBounds_comm _ _ (Ne.symm hji)
      have hn' := hinv listed j hn hr hj
      have hvv : virgin ex (listed.setIfInBounds j true) = true → virgin ex ((listed.setIfInBounds i true).setIfInBounds j true) = true := fun h => by rw [hc]; exact virgin_on h hxi
      refine wpOp_mono (fun a' w' h3 => ⟨⟨h3.2.1.1, fun h => h3.2.1.2 (hvv h)⟩, ih (listed.setIfInBounds j true) a' w' hfree' (ready_mono hr (Ne.symm hji)) h3.1 hn' h3.2.1.1 (fun h => h3.2.1.2 (hvv h)) ?_⟩) h2
      rw [Array.setIfInBounds_comm _ _ hji]
      exact h3.2.2
/-- Take number i first: it asks for S0 alone. -/
theorem X_take0 (i : Nat) {oi : Oper} {v : Value} {fuel : Nat} {listed : Array Bool} {a : Act} {w : World} (hi : ops[i]? = some oi)
    (hs : Region.noSelect ops = true) (hf : Region.free md ops listed i = true) (hr : (Region.ready md ops listed).contains i = true) (hx : (!(ex i)) = true)
    (hQ : ∀ c a w, Q (.panic c) (a.put oi.dst v) w → Q (.panic c) a w) (hy : YieldsIf P ops S0 oi v a) (hS : S0 w ∧ (virgin ex listed = true → S1 w))
    (h : wpAnyX P md ops Q S0 S1 ex fuel (listed.setIfInBounds i true) (a.put oi.dst v) w) : wpAnyX P md ops Q S0 S1 ex (fuel + 1) listed a w :=
  wpAnyX_first (Sv := S0) (inv := fun _ => True) hi (Region.noSelect_spec hs) (by simpa using hx) hQ (fun _ _ _ h _ => h) (fun _ _ _ _ _ => trivial) fuel listed a w (Region.free_spec hi hf) (by simpa using hr) hy trivial hS.1 hS.2 h
def waitsX (md : Region.Mode) (ops : Array Oper) (ex : Nat → Bool) (i : Nat) : Bool := (List.range ops.size).all fun j => !(ex j) || waits md ops j i
/-- Take number i first: all stores wait for it. -/
theorem X_take1 (i : Nat) {oi : Oper} {v : Value} {fuel : Nat} {listed : Array Bool} {a : Act} {w : World} (hi : ops[i]? = some oi)
    (hs : Region.noSelect ops = true) (hf : Region.free md ops listed i = true) (hr : (Region.ready md ops listed).contains i = true) (hx : (!(ex i)) = true) (hw : waitsX md ops ex i = true) (hv : virgin ex listed = true)
    (hQ : ∀ c a w, Q (.panic c) (a.put oi.dst v) w → Q (.panic c) a w) (hy : YieldsIf P ops (fun w => S0 w ∧ S1 w) oi v a) (hS : S0 w ∧ (virgin ex listed = true → S1 w))
    (h : wpAnyX P md ops Q S0 S1 ex fuel (listed.setIfInBounds i true) (a.put oi.dst v) w) : wpAnyX P md ops Q S0 S1 ex (fuel + 1) listed a w :=
  wpAnyX_first (Sv := fun w => S0 w ∧ S1 w) (inv := fun l => virgin ex l = true) hi (Region.noSelect_spec hs) (by simpa using hx) hQ (fun _ _ hv h h1 => ⟨h, h1 hv⟩) (fun listed j hv hri hrj => by
    refine virgin_on hv ?_
    cases he : ex j with
    | false => rfl
    | true =>
      exfalso
      obtain ⟨_, oj, hoj, _⟩ := mem_ready.1 hrj
      have h1 := (List.all_eq_true.1 hw) j (List.mem_range.2 (Array.getElem?_eq_some_iff.1 hoj).1)
      rw [he] at h1
      exact waits_spec (last := j) (by simpa using h1) hri hrj) fuel listed a w (Region.free_spec hi hf) (by simpa using hr) hy hv hS.1 hS.2 h
theorem X_one (i : Nat) {o : Oper} {fuel : Nat} {listed : Array Bool} {a : Act} {w : World} (hi : ops[i]? = some o) (hr : Region.ready md ops listed = [i])
    (h : ∀ K, (∀ a' w', (S0 w' ∧ (virgin ex (listed.setIfInBounds i true) = true → S1 w')) ∧ wpAnyX P md ops Q S0 S1 ex fuel (listed.setIfInBounds i true) a' w' → K a' w') → if Region.wanted o (yielded ops a.tmps) = true then Oper.wp P o a w K Q else K (a.put o.dst undef) w) : wpAnyX P md ops Q S0 S1 ex (fuel + 1) listed a w := by
  refine ⟨fun h0 => absurd (hr ▸ h0) (by simp), fun j hj => ?_⟩
  rw [hr, List.mem_singleton] at hj
  subst hj
  have h1 := h _ (fun _ _ h => h)
  unfold wpOp
  simp only [hi]
  split
  · rename_i hw; rw [if_pos hw] at h1; exact .inl h1
  · rename_i hw; rw [if_neg hw] at h1; exact h1
theorem X_two (i j : Nat) {o o' : Oper} {fuel : Nat} {listed : Array Bool} {a : Act} {w : World} (hi : ops[i]? = some o) (hj : ops[j]? = some o') (hr : Region.ready md ops listed = [i, j])
    (h : ∀ K, (∀ a' w', (S0 w' ∧ (virgin ex (listed.setIfInBounds i true) = true → S1 w')) ∧ wpAnyX P md ops Q S0 S1 ex fuel (listed.setIfInBounds i true) a' w' → K a' w') → if Region.wanted o (yielded ops a.tmps) = true then Oper.wp P o a w K Q else K (a.put o.dst undef) w)
    (h' : ∀ K, (∀ a' w', (S0 w' ∧ (virgin ex (listed.setIfInBounds j true) = true → S1 w')) ∧ wpAnyX P md ops Q S0 S1 ex fuel (listed.setIfInBounds j true) a' w' → K a' w') → if Region.wanted o' (yielded ops a.tmps) = true then Oper.wp P o' a w K Q else K (a.put o'.dst undef) w) : wpAnyX P md ops Q S0 S1 ex (fuel + 1) listed a w := by
  refine ⟨fun h0 => absurd (hr ▸ h0) (by simp), fun k hk => ?_⟩
  rw [hr, List.mem_cons, List.mem_singleton] at hk
  rcases hk with rfl | rfl
  · have h1 := h _ (fun _ _ h => h)
    unfold wpOp
    simp only [hi]
    split
    · rename_i hw; rw [if_pos hw] at h1; exact .inl h1
    · rename_i hw; rw [if_neg hw] at h1; exact h1
  · have h1 := h' _ (fun _ _ h => h)
    unfold wpOp
    simp only [hj]
    split
    · rename_i hw; rw [if_pos hw] at h1; exact .inl h1
    · rename_i hw; rw [if_neg hw] at h1; exact h1
theorem X_done {fuel : Nat} {listed : Array Bool} {a : Act} {w : World} (hr : Region.ready md ops listed = []) (h : Q .normal a w) : wpAnyX P md ops Q S0 S1 ex fuel listed a w := by
  cases fuel with
  | zero => exact ⟨hr, h⟩
  | succ n => exact ⟨fun _ => h, by rw [hr]; simp⟩
end
theorem region_X {P : Program} {id : Nat} {ops : Array Oper} {Q : Exit → Act → World → Prop} (S0 S1 : World → Prop) (ex : Nat → Bool) {a : Act} {w : World} (hm : P.follows .mixedOrders = true)
    (h : wpAnyX P .any ops (OnlyOn Q) S0 S1 ex ops.size (Array.replicate ops.size false) a w.drew) : (Code.region id ops true).wp P Q a w :=
  Code.wp_mono OnlyOn.imp (wp_region_any hm (wpAny_of_X _ _ _ _ h))
/-- Two rows that grow side by side, from a world on. -/
structure Two (f : Nat → Nat) (w0 w : World) (B : Nat) (e1 e2 : TypeId) (z1 z2 : Nat) (kv rv : Value) (n m : Nat) (xs ys : List Value) : Prop where
  hk : w.ownsRow B e1 z1 kv n xs
  hr : w.ownsRow B e2 z2 rv m ys
  dis : ∀ a, ob kv a + ob rv a ≤ 1
  le : ∀ a, a < w0.heap.size → ob kv a + ob rv a ≤ f a
  fr : FR f w0 w
section
variable {f : Nat → Nat} {w0 w w' : World} {B : Nat} {e1 e2 : TypeId} {z1 z2 : Nat} {kv rv kv' : Value} {n m n' : Nat} {xs ys xs' : List Value}
theorem Two.swap (h : Two f w0 w B e1 e2 z1 z2 kv rv n m xs ys) : Two f w0 w B e2 e1 z2 z1 rv kv m n ys xs :=
  ⟨h.hr, h.hk, fun a => by have := h.dis a; omega, fun a ha => by have := h.le a ha; omega, h.fr⟩
theorem Two.ext (h : Two f w0 w B e1 e2 z1 z2 kv rv n m xs ys) (hx : Ext w w') : Two f w0 w' B e1 e2 z1 z2 kv rv n m xs ys :=
  ⟨hx.own h.hk, hx.own h.hr, h.dis, h.le, h.fr.trans (FR.of_ext (f := f) hx) (fun _ _ h => h)⟩
theorem Two.push (h : Two f w0 w B e1 e2 z1 z2 kv rv n m xs ys) (hg : w.grownBy w' kv.ownBlock) (ho : w'.ownsRow B e1 z1 kv' n' xs') (hv : kv'.ownBlock = kv.ownBlock ∨ ∀ k, kv'.ownBlock = some k → w.heap.size ≤ k) : Two f w0 w' B e1 e2 z1 z2 kv' rv n' m xs' ys := by
  have hsz := h.fr.2.2.2.1
  refine ⟨ho, own_ne h.hr hg (fun k hk e => ?_), fun a => ?_, fun a ha => ?_, ⟨h.fr.1.trans hg.os.symm, h.fr.2.1.trans hg.tape.symm, h.fr.2.2.1.trans hg.output.symm, Nat.le_trans hsz hg.size, fun k hk h0 => ?_⟩⟩
  · have h2 : kv.ownBlock = some k := by first | exact e | exact e.symm
    have := h.dis k
    rw [ob_some hk, ob_some h2] at this
    omega
  · have h1 := h.dis a
    rcases hv with h2 | h2
    · rw [ob_same h2]; exact h1
    · by_cases e : kv'.ownBlock = some a
      · rw [ob_some e, own_bound h.hr (h2 a e)]; exact Nat.le_refl _
      · rw [show ob kv' a = 0 from if_neg e]; omega
  · have h1 := h.le a ha
    rcases hv with h2 | h2
    · rw [ob_same h2]; exact h1
    · rw [show ob kv' a = 0 from if_neg (fun e => by have := h2 a e; omega)]; omega
  · refine (hg.block k (Nat.lt_of_lt_of_le hk hsz) (fun e => ?_)).trans (h.fr.2.2.2.2 k hk h0)
    have := h.le k hk
    have h2 : kv.ownBlock = some k := by first | exact e | exact e.symm
    rw [ob_some h2] at this
    omega
theorem Two.cell (h : Two f w0 w B e1 e2 z1 z2 kv rv n m xs ys) {ad : Addr} {u : Value} (hc : w0.cell? ad = some u) (h0 : f ad.block = 0) : w.cell? ad = some u :=
  (World.cell?_of_block (h.fr.2.2.2.2 ad.block (World.block_lt_of_cell? _ _ hc) h0)).trans hc
theorem Two.ob0 (h : Two f w0 w B e1 e2 z1 z2 kv rv n m xs ys) {a : Nat} (ha : w.heap.size ≤ a) : ob kv a = 0 ∧ ob rv a = 0 := ⟨own_bound h.hk ha, own_bound h.hr ha⟩
end
/-- Blocks that were not there have turned. -/
theorem Ext.trans' {w w1 w2 : World} {f : Nat → Nat} (h : Ext w w1) (hF : FR f w1 w2) (h0 : ∀ a, a < w.heap.size → f a = 0) : Ext w w2 :=
  ⟨hF.1.symm.trans h.os, hF.2.1.symm.trans h.tape, hF.2.2.1.symm.trans h.output, Nat.le_trans h.size hF.2.2.2.1, fun k hk => (hF.2.2.2.2 k (Nat.lt_of_lt_of_le hk h.size) (h0 k hk)).trans (h.block hk)⟩
/-- What lies beside a row that grows stays. -/
theorem news_keep {w w' : World} {v : Value} {q : Nat} {es : List Value} (hg : w.grownBy w' v.ownBlock) (h : ∀ j u, es[j]? = some u → w.cell? ((⟨q, 0, none⟩ : Addr).add j) = some u) (h0 : ob v q = 0) : ∀ j u, es[j]? = some u → w'.cell? ((⟨q, 0, none⟩ : Addr).add j) = some u := fun j u hu => by
  have h1 := h j u hu
  rw [hg.cell_far _ (World.block_lt_of_cell? _ _ h1) (fun e => ob_zero h0 (by rw [block_add] at e; exact e.symm))]
  exact h1
theorem news_ext {w w' : World} {q : Nat} {es : List Value} (hx : Ext w w') (h : ∀ j u, es[j]? = some u → w.cell? ((⟨q, 0, none⟩ : Addr).add j) = some u) : ∀ j u, es[j]? = some u → w'.cell? ((⟨q, 0, none⟩ : Addr).add j) = some u := fun j u hu => hx.cell (h j u hu)
end Go.Proofs.YtpijfiaecicpfaaGreat

