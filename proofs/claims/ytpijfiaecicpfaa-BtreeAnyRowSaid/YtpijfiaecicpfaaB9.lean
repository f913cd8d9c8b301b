/-
  Trees in memory: opened, shut, cut.
-/
import Derived.Test.YtpijfiaecicpfaaB8
namespace Go.Proofs.Ytpijfiaecicpfaa
open Go.RowKit Go.Shelf
set_option linter.unusedVariables false
set_option linter.unusedSimpArgs false
/-- The kids of a node of a height. -/
def Kd (w : World) : Nat → List Nat → List BT → (Nat → Nat) → Prop
  | 0, ps, ks, g => ks = [] ∧ ps = [] ∧ ∀ a, g a = 0
  | h + 1, ps, ks, g => Ks (TN w h) ps ks g
theorem TN.opn {w : World} {h p : Nat} {l : List Te} {ks : List BT} {f : Nat → Nat} (hT : TN w h p (.nd l ks) f) : ∃ lv kv ps g, w.heap[p]? = some (.cells #[lv, kv] 105 (0, 0)) ∧ w.ownsRow 0 71 2 lv l.length (tents l) ∧ w.ownsRow 0 81 1 kv ps.length (ptrs ps) ∧ Kd w h ps ks g ∧ ∀ a, f a = one1 p a + ob lv a + ob kv a + g a := by
  cases h with
  | zero =>
    obtain ⟨hk, lv, kv, e1, e2, e3, e4⟩ := hT
    exact ⟨lv, kv, [], fun _ => 0, e1, e2, e3, ⟨hk, rfl, fun _ => rfl⟩, e4⟩
  | succ h =>
    obtain ⟨lv, kv, ps, g, e1, e2, e3, e5, e4⟩ := hT
    exact ⟨lv, kv, ps, g, e1, e2, e3, e5, e4⟩
theorem TN.shut {w : World} {h p : Nat} {l : List Te} {ks : List BT} {f : Nat → Nat} {lv kv : Value} {ps : List Nat} {g : Nat → Nat} (e1 : w.heap[p]? = some (.cells #[lv, kv] 105 (0, 0))) (e2 : w.ownsRow 0 71 2 lv l.length (tents l)) (e3 : w.ownsRow 0 81 1 kv ps.length (ptrs ps)) (e5 : Kd w h ps ks g) (e4 : ∀ a, f a = one1 p a + ob lv a + ob kv a + g a) : TN w h p (.nd l ks) f := by
  cases h with
  | zero =>
    obtain ⟨hk, rfl, hg⟩ := e5
    exact ⟨hk, lv, kv, e1, e2, e3, fun a => by rw [e4 a, hg a]; omega⟩
  | succ h => exact ⟨lv, kv, ps, g, e1, e2, e3, e5, e4⟩
theorem Kd.len {w : World} {h : Nat} {ps : List Nat} {ks : List BT} {g : Nat → Nat} (k : Kd w h ps ks g) : ps.length = ks.length := by
  cases h with
  | zero => obtain ⟨rfl, rfl, _⟩ := k; rfl
  | succ h => exact Ks.len k
theorem Kd.frame {w w' : World} {f : Nat → Nat} (hF : FR f w w') {h : Nat} {ps : List Nat} {ks : List BT} {g : Nat → Nat} (k : Kd w h ps ks g) (hg : ∀ a, 0 < g a → f a = 0) : Kd w' h ps ks g := by
  cases h with
  | zero => exact k
  | succ h => exact Ks.frame (fun p T g h1 h2 => TN.frame hF h1 h2) k hg
theorem Kd.same {w : World} {h : Nat} {ps : List Nat} {ks : List BT} {f g : Nat → Nat} (k : Kd w h ps ks f) (e : ∀ a, g a = f a) : Kd w h ps ks g := by
  have : g = f := funext e
  rw [this]
  exact k
theorem Kd.parts {w : World} {h : Nat} : ∀ {m : Nat} {ps : List Nat} {ks : List BT} {g : Nat → Nat}, Kd w h ps ks g → ∃ g1 g2, Kd w h (ps.take m) (ks.take m) g1 ∧ Kd w h (ps.drop m) (ks.drop m) g2 ∧ ∀ a, g a = g1 a + g2 a := by
  cases h with
  | zero =>
    intro m ps ks g k
    obtain ⟨rfl, rfl, hg⟩ := k
    exact ⟨fun _ => 0, fun _ => 0, ⟨by simp, by simp, fun _ => rfl⟩, ⟨by simp, by simp, fun _ => rfl⟩, fun a => by show g a = 0 + 0; rw [hg a]⟩
  | succ h =>
    intro m
    induction m with
    | zero => intro ps ks g k; exact ⟨fun _ => 0, g, by rw [List.take_zero, List.take_zero]; exact fun _ => rfl, by rw [List.drop_zero, List.drop_zero]; exact k, fun a => by show g a = 0 + g a; omega⟩
    | succ m ih =>
      intro ps ks g k
      match ps, ks, k with
      | [], [], k => exact ⟨fun _ => 0, g, fun _ => rfl, k, fun a => by show g a = 0 + g a; omega⟩
      | p :: ps, T :: ks, ⟨f1, f2, h1, h2, h3⟩ =>
        obtain ⟨g1, g2, k1, k2, k3⟩ := ih h2
        exact ⟨fun a => f1 a + g1 a, g2, ⟨f1, g1, h1, k1, fun _ => rfl⟩, k2, fun a => by show g a = f1 a + g1 a + g2 a; rw [h3 a, k3 a]; omega⟩
      | [], _ :: _, k => exact k.elim
      | _ :: _, [], k => exact k.elim
theorem Ks.bound {R : Nat → BT → (Nat → Nat) → Prop} {m : Nat} (hR : ∀ p T g, R p T g → ∀ a, m ≤ a → g a = 0) : ∀ {ps : List Nat} {ks : List BT} {g : Nat → Nat}, Ks R ps ks g → ∀ a, m ≤ a → g a = 0
  | [], [], g, h, a, _ => h a
  | p :: ps, T :: ks, g, ⟨f1, f2, h1, h2, h3⟩, a, ha => by rw [h3 a, hR _ _ _ h1 a ha, Ks.bound hR h2 a ha]
  | [], _ :: _, g, h, _, _ => h.elim
  | _ :: _, [], g, h, _, _ => h.elim
theorem TN.bound {w : World} : ∀ {h p : Nat} {T : BT} {f : Nat → Nat}, TN w h p T f → ∀ a, w.heap.size ≤ a → f a = 0
  | 0, p, .nd l ks, f, ⟨_, lv, kv, e1, e2, e3, e4⟩, a, ha => by rw [e4 a, one_bound e1 ha, own_bound e2 ha, own_bound e3 ha]
  | h + 1, p, .nd l ks, f, ⟨lv, kv, ps, g, e1, e2, e3, e5, e4⟩, a, ha => by rw [e4 a, one_bound e1 ha, own_bound e2 ha, own_bound e3 ha, Ks.bound (fun p T g h1 => TN.bound h1) e5 a ha]
theorem Kd.bound {w : World} {h : Nat} {ps : List Nat} {ks : List BT} {g : Nat → Nat} (k : Kd w h ps ks g) : ∀ a, w.heap.size ≤ a → g a = 0 := by
  cases h with
  | zero => exact fun a _ => k.2.2 a
  | succ h => exact Ks.bound (fun p T g h1 => TN.bound h1) k
/-- What a call has made of a tree: another one, in the blocks that were its own, and new ones. -/
def Turned (w w' : World) (h p : Nat) (f : Nat → Nat) (T' : BT) : Prop := ∃ f', TN w' h p T' f' ∧ (∀ a, f' a ≤ 1) ∧ (∀ a, a < w.heap.size → f' a ≤ f a) ∧ FR f w w'
theorem Turned.left {u w w' : World} {h p : Nat} {f : Nat → Nat} {T' : BT} (ht : Turned w w' h p f T') (hx : Ext u w) : Turned u w' h p f T' := by
  obtain ⟨f', h1, h2, h3, h4⟩ := ht
  exact ⟨f', h1, h2, fun a ha => h3 a (Nat.lt_of_lt_of_le ha hx.size), (FR.of_ext (f := f) hx).trans h4 (fun _ _ h => h)⟩
/-- A node with a kid that has been turned. -/
theorem kid_turned {w w' : World} {h p q i : Nat} {l : List Te} {ks : List BT} {ps : List Nat} {lv kv : Value} {g0 g1 g2 f : Nat → Nat} {K K' : BT} (e1 : w.heap[p]? = some (.cells #[lv, kv] 105 (0, 0))) (e2 : w.ownsRow 0 71 2 lv l.length (tents l)) (e3 : w.ownsRow 0 81 1 kv ps.length (ptrs ps))
    (hp : ps[i]? = some q) (hk : ks[i]? = some K) (k0 : Ks (TN w h) (ps.take i) (ks.take i) g0) (k2 : Ks (TN w h) (ps.drop (i + 1)) (ks.drop (i + 1)) g2) (hf : ∀ a, f a = one1 p a + ob lv a + ob kv a + (g0 a + g1 a + g2 a)) (hn : ∀ a, f a ≤ 1) (kb : ∀ a, w.heap.size ≤ a → f a = 0) (ht : Turned w w' h q g1 K') :
    ∃ g1', TN w' h q K' g1' ∧ w'.heap[p]? = some (.cells #[lv, kv] 105 (0, 0)) ∧ w'.ownsRow 0 71 2 lv l.length (tents l) ∧ w'.ownsRow 0 81 1 kv ps.length (ptrs ps) ∧ Ks (TN w' h) (ps.take i) (ks.take i) g0 ∧ Ks (TN w' h) (ps.drop (i + 1)) (ks.drop (i + 1)) g2 ∧
      (∀ a, one1 p a + ob lv a + ob kv a + (g0 a + g1' a + g2 a) ≤ 1) ∧ (∀ a, a < w.heap.size → one1 p a + ob lv a + ob kv a + (g0 a + g1' a + g2 a) ≤ f a) ∧ FR f w w' := by
  obtain ⟨g1', t1, t2, t3, t4⟩ := ht
  refine ⟨g1', t1, (t4.2.2.2.2 p (Array.getElem?_eq_some_iff.1 e1).1 ?_).trans e1, t4.own e2 (fun k e => ?_), t4.own e3 (fun k e => ?_), Ks.frame (fun p T g h1 h2 => TN.frame t4 h1 h2) k0 (fun a ha => ?_), Ks.frame (fun p T g h1 h2 => TN.frame t4 h1 h2) k2 (fun a ha => ?_), fun a => ?_, fun a ha => ?_, t4.mono (fun k hk h0 => ?_)⟩
  · have := hn p; rw [hf p, one_self] at this; omega
  · have := hn k; rw [hf k, ob_some e] at this; omega
  · have := hn k; rw [hf k, ob_some e] at this; omega
  · have := hn a; rw [hf a] at this; omega
  · have := hn a; rw [hf a] at this; omega
  · by_cases ha : a < w.heap.size
    · have := hn a; have h3 := t3 a ha; rw [hf a] at this; omega
    · have := kb a (by omega); rw [hf a] at this; have := t2 a; omega
  · rw [hf a]; have := t3 a ha; omega
  · rw [hf k] at h0; omega
theorem set_cut {α : Type} {l : List α} {i : Nat} (hi : i < l.length) (x : α) : l.set i x = l.take i ++ x :: l.drop (i + 1) := by
  rw [List.set_eq_take_append_cons_drop, if_pos hi]
/-- Kids with one in the middle. -/
theorem Ks.mid {R : Nat → BT → (Nat → Nat) → Prop} {ps qs : List Nat} {ks ms : List BT} {q : Nat} {K : BT} {g0 g1 g2 : Nat → Nat} (h0 : Ks R ps ks g0) (h1 : R q K g1) (h2 : Ks R qs ms g2) : Ks R (ps ++ q :: qs) (ks ++ K :: ms) (fun a => g0 a + g1 a + g2 a) := by
  have h12 : Ks R (q :: qs) (K :: ms) (fun a => g1 a + g2 a) := ⟨g1, g2, h1, h2, fun _ => rfl⟩
  exact (Ks.app h0 h12).same (fun a => by show g0 a + g1 a + g2 a = g0 a + (g1 a + g2 a); omega)
end Go.Proofs.Ytpijfiaecicpfaa
