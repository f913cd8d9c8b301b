/-
  Regions that draw their order and store more than once: what is asked of the world ahead of the stores, and all along. Two rows that grow side by side. Bound to no program.
-/
import Derived.Test.YtpijfiaecicpfaaBd
namespace Go.Proofs.Ytpijfiaecicpfaa
open Go.RowKit Go.Shelf
set_option linter.unusedVariables false
set_option linter.unusedSimpArgs false
/-- None of the stores has been taken. -/
def virgin (ex : Nat → Bool) (listed : Array Bool) : Bool := (List.range listed.size).all fun j => !(ex j) || !(listed.getD j true)
theorem virgin_iff {ex : Nat → Bool} {listed : Array Bool} : virgin ex listed = true ↔ ∀ j, j < listed.size → ex j = true → listed.getD j true = false := by
  unfold virgin
  rw [List.all_eq_true]
  constructor
  · intro h j hj he
    have := h j (List.mem_range.2 hj)
    rw [he] at this
    simpa using this
  · intro h j hj
    rw [List.mem_range] at hj
    cases he : ex j with
    | false => rfl
    | true => simp [h j hj he]
theorem virgin_back {ex : Nat → Bool} {listed : Array Bool} {i : Nat} (h : virgin ex (listed.setIfInBounds i true) = true) : virgin ex listed = true := by
  rw [virgin_iff] at h ⊢
  intro j hj he
  have h1 := h j (by simpa using hj) he
  by_cases e : i = j
  · subst e
    simp [hj] at h1
  · rwa [getD_set_ne true e] at h1
theorem virgin_on {ex : Nat → Bool} {listed : Array Bool} {i : Nat} (h : virgin ex listed = true) (hi : ex i = false) : virgin ex (listed.setIfInBounds i true) = true := by
  rw [virgin_iff] at h ⊢
  intro j hj he
  have hne : i ≠ j := fun e => by rw [← e, hi] at he; cases he
  rw [getD_set_ne true hne]
  exact h j (by simpa using hj) he
section
variable {P : Program} {ops : Array Oper} {Q : Exit → Act → World → Prop} {md : Region.Mode} {S0 S1 : World → Prop} {ex : Nat → Bool}
def wpAnyX (P : Program) (md : Region.Mode) (ops : Array Oper) (Q : Exit → Act → World → Prop) (S0 S1 : World → Prop) (ex : Nat → Bool) : Nat → Array Bool → Act → World → Prop
  | 0, listed, a, w => Region.ready md ops listed = [] ∧ Q .normal a w
  | fuel + 1, listed, a, w =>
    (Region.ready md ops listed = [] → Q .normal a w) ∧
    ∀ i ∈ Region.ready md ops listed, wpOp P ops Q i (fun a' w' => (S0 w' ∧ (virgin ex (listed.setIfInBounds i true) = true → S1 w')) ∧ wpAnyX P md ops Q S0 S1 ex fuel (listed.setIfInBounds i true) a' w') a w
theorem wpAny_of_X : ∀ (fuel : Nat) (listed : Array Bool) (a : Act) (w : World), wpAnyX P md ops Q S0 S1 ex fuel listed a w → wpAny P md ops Q fuel listed a w
  | 0, _, _, _, h => h
  | fuel + 1, _, _, _, h => ⟨h.1, fun i hi => wpOp_mono (fun a' w' h' => wpAny_of_X fuel _ a' w' h'.2) (h.2 i hi)⟩
theorem wpAnyX_first {i : Nat} {oi : Oper} {v : Value} {Sv : World → Prop} {inv : Array Bool → Prop} (hi : ops[i]? = some oi) (hsel : ∀ (j : Nat) (o : Oper) cs b, ops[j]? = some o → o.op ≠ .select cs b)
    (hxi : ex i = false) (hQ : ∀ c a w, Q (.panic c) (a.put oi.dst v) w → Q (.panic c) a w) (hV : ∀ listed w, inv listed → S0 w → (virgin ex listed = true → S1 w) → Sv w) (hinv : ∀ listed j, inv listed → i ∈ Region.ready md ops listed → j ∈ Region.ready md ops listed → inv (listed.setIfInBounds j true)) :
    ∀ (fuel : Nat) (listed : Array Bool) (a : Act) (w : World),
      (∀ j oj, ops[j]? = some oj → j ≠ i → listed.getD j true = false → (∀ e ∈ oj.after, Region.binds md e = true → e.on ≠ i) → oi.apart ops oj = true) →
      i ∈ Region.ready md ops listed → YieldsIf P ops Sv oi v a → inv listed → S0 w → (virgin ex listed = true → S1 w) →
      wpAnyX P md ops Q S0 S1 ex fuel (listed.setIfInBounds i true) (a.put oi.dst v) w → wpAnyX P md ops Q S0 S1 ex (fuel + 1) listed a w := by
  intro fuel
  induction fuel with
  | zero =>
    intro listed a w _ hr hy hn h0 h1 H
    refine ⟨fun h => (by rw [h] at hr; cases hr), fun j hj => ?_⟩
    by_cases hji : j = i
    · subst hji; exact hy.wpOp hi (hV _ _ hn h0 h1) ⟨⟨h0, fun h => h1 (virgin_back h)⟩, H⟩
    · have := ready_mono hj hji
      rw [H.1] at this
      cases this
  | succ fuel ih =>
    intro listed a w hfree hr hy hn h0 h1 H
    refine ⟨fun h => (by rw [h] at hr; cases hr), fun j hj => ?_⟩
    by_cases hji : j = i
    · subst hji; exact hy.wpOp hi (hV _ _ hn h0 h1) ⟨⟨h0, fun h => h1 (virgin_back h)⟩, H⟩
    · have h2 := H.2 j (ready_mono hj hji)
      obtain ⟨hjun, oj, hoj, hall⟩ := mem_ready.1 hj
      have hnot : ∀ e ∈ oj.after, Region.binds md e = true → e.on ≠ i := fun e he hb heq => by
        have h1 := hall e he hb
        have h0 := (mem_ready.1 hr).1
        rw [heq] at h1
        rcases Nat.lt_or_ge i listed.size with h' | h'
        · simp [h'] at h0 h1; rw [h0] at h1; cases h1
        · simp [Array.getElem?_eq_none h'] at h1
      have h2 := wpOp_putIf hoj (hfree j oj hoj hji hjun hnot) (fun cs b => hsel i oi cs b hi) (fun cs b => hsel j oj cs b hoj) hQ hy h2
      have hfree' : ∀ k ok, ops[k]? = some ok → k ≠ i → (listed.setIfInBounds j true).getD k true = false →
          (∀ e ∈ ok.after, Region.binds md e = true → e.on ≠ i) → oi.apart ops ok = true := fun k ok hk hki hun hno => by
        refine hfree k ok hk hki ?_ hno
        by_cases hjk : j = k
        · subst hjk; exact hjun
        · rw [getD_set_ne true hjk] at hun; exact hun
      have hc : (listed.setIfInBounds i true).setIfInBounds j true = (listed.setIfInBounds j true).setIfInBounds i true := Array.setIfInBounds_comm _ _ (Ne.symm hji)
      have hn' := hinv listed j hn hr hj
      have hvv : virgin ex (listed.setIfInBounds j true) = true → virgin ex ((listed.setIfInBounds i true).setIfInBounds j true) = true := fun h => by rw [hc]; exact virgin_on h hxi
      refine wpOp_mono (fun a' w' h3 => ⟨⟨h3.2.1.1, fun h => h3.2.1.2 (hvv h)⟩, ih (listed.setIfInBounds j true) a' w' hfree' (ready_mono hr (Ne.symm hji)) h3.1 hn' h3.2.1.1 (fun h => h3.2.1.2 (hvv h)) ?_⟩) h2
      rw [Array.setIfInBounds_comm _ _ hji]
      exact h3.2.2
/-- Take number i first: it asks for S0 alone. -/
theorem X_take0 (i : Nat) {oi : Oper} {v : Value} {fuel : Nat} {listed : Array Bool} {a : Act} {w : World} (hi : ops[i]? = some oi)
    (hs : Region.noSelect ops = true) (hf : Region.free md ops listed i = true) (hr : (Region.ready md ops listed).contains i = true) (hx : (!(ex i)) = true)
    (hQ : ∀ c a w, Q (.panic c) (a.put oi.dst v) w → Q (.panic c) a w) (hy : YieldsIf P ops S0 oi v a) (hS : S0 w ∧ (virgin ex listed = true → S1 w))
    (h : wpAnyX P md ops Q S0 S1 ex fuel (listed.setIfInBounds i true) (a.put oi.dst v) w) : wpAnyX P md ops Q S0 S1 ex (fuel + 1) listed a w :=
  wpAnyX_first (Sv := S0) (inv := fun _ => True) hi (Region.noSelect_spec hs) (by simpa using hx) hQ (fun _ _ _ h _ => h) (fun _ _ _ _ _ => trivial) fuel listed a w (Region.free_spec hi hf) (by simpa using hr) hy trivial hS.1 hS.2 h
def waitsX (md : Region.Mode) (ops : Array Oper) (ex : Nat → Bool) (i : Nat) : Bool := (List.range ops.size).all fun j => !(ex j) || waits md ops j i
/-- Take number i first: all stores wait for it. -/
theorem X_take1 (i : Nat) {oi : Oper} {v : Value} {fuel : Nat} {listed : Array Bool} {a : Act} {w : World} (hi : ops[i]? = some oi)
    (hs : Region.noSelect ops = true) (hf : Region.free md ops listed i = true) (hr : (Region.ready md ops listed).contains i = true) (hx : (!(ex i)) = true) (hw : waitsX md ops ex i = true) (hv : virgin ex listed = true)
    (hQ : ∀ c a w, Q (.panic c) (a.put oi.dst v) w → Q (.panic c) a w) (hy : YieldsIf P ops (fun w => S0 w ∧ S1 w) oi v a) (hS : S0 w ∧ (virgin ex listed = true → S1 w))
    (h : wpAnyX P md ops Q S0 S1 ex fuel (listed.setIfInBounds i true) (a.put oi.dst v) w) : wpAnyX P md ops Q S0 S1 ex (fuel + 1) listed a w :=
  wpAnyX_first (Sv := fun w => S0 w ∧ S1 w) (inv := fun l => virgin ex l = true) hi (Region.noSelect_spec hs) (by simpa using hx) hQ (fun _ _ hv h h1 => ⟨h, h1 hv⟩) (fun listed j hv hri hrj => by
    refine virgin_on hv ?_
    cases he : ex j with
    | false => rfl
    | true =>
      exfalso
      obtain ⟨_, oj, hoj, _⟩ := mem_ready.1 hrj
      have h1 := (List.all_eq_true.1 hw) j (List.mem_range.2 (Array.getElem?_eq_some_iff.1 hoj).1)
      rw [he] at h1
      exact waits_spec (last := j) (by simpa using h1) hri hrj) fuel listed a w (Region.free_spec hi hf) (by simpa using hr) hy hv hS.1 hS.2 h
theorem X_one (i : Nat) {o : Oper} {fuel : Nat} {listed : Array Bool} {a : Act} {w : World} (hi : ops[i]? = some o) (hr : Region.ready md ops listed = [i])
    (h : ∀ K, (∀ a' w', (S0 w' ∧ (virgin ex (listed.setIfInBounds i true) = true → S1 w')) ∧ wpAnyX P md ops Q S0 S1 ex fuel (listed.setIfInBounds i true) a' w' → K a' w') → if Region.wanted o (yielded ops a.tmps) = true then Oper.wp P o a w K Q else K (a.put o.dst undef) w) : wpAnyX P md ops Q S0 S1 ex (fuel + 1) listed a w := by
  refine ⟨fun h0 => absurd (hr ▸ h0) (by simp), fun j hj => ?_⟩
  rw [hr, List.mem_singleton] at hj
  subst hj
  have h1 := h _ (fun _ _ h => h)
  unfold wpOp
  simp only [hi]
  split
  · rename_i hw; rw [if_pos hw] at h1; exact .inl h1
  · rename_i hw; rw [if_neg hw] at h1; exact h1
theorem X_two (i j : Nat) {o o' : Oper} {fuel : Nat} {listed : Array Bool} {a : Act} {w : World} (hi : ops[i]? = some o) (hj : ops[j]? = some o') (hr : Region.ready md ops listed = [i, j])
    (h : ∀ K, (∀ a' w', (S0 w' ∧ (virgin ex (listed.setIfInBounds i true) = true → S1 w')) ∧ wpAnyX P md ops Q S0 S1 ex fuel (listed.setIfInBounds i true) a' w' → K a' w') → if Region.wanted o (yielded ops a.tmps) = true then Oper.wp P o a w K Q else K (a.put o.dst undef) w)
    (h' : ∀ K, (∀ a' w', (S0 w' ∧ (virgin ex (listed.setIfInBounds j true) = true → S1 w')) ∧ wpAnyX P md ops Q S0 S1 ex fuel (listed.setIfInBounds j true) a' w' → K a' w') → if Region.wanted o' (yielded ops a.tmps) = true then Oper.wp P o' a w K Q else K (a.put o'.dst undef) w) : wpAnyX P md ops Q S0 S1 ex (fuel + 1) listed a w := by
  refine ⟨fun h0 => absurd (hr ▸ h0) (by simp), fun k hk => ?_⟩
  rw [hr, List.mem_cons, List.mem_singleton] at hk
  rcases hk with rfl | rfl
  · have h1 := h _ (fun _ _ h => h)
    unfold wpOp
    simp only [hi]
    split
    · rename_i hw; rw [if_pos hw] at h1; exact .inl h1
    · rename_i hw; rw [if_neg hw] at h1; exact h1
  · have h1 := h' _ (fun _ _ h => h)
    unfold wpOp
    simp only [hj]
    split
    · rename_i hw; rw [if_pos hw] at h1; exact .inl h1
    · rename_i hw; rw [if_neg hw] at h1; exact h1
theorem X_done {fuel : Nat} {listed : Array Bool} {a : Act} {w : World} (hr : Region.ready md ops listed = []) (h : Q .normal a w) : wpAnyX P md ops Q S0 S1 ex fuel listed a w := by
  cases fuel with
  | zero => exact ⟨hr, h⟩
  | succ n => exact ⟨fun _ => h, by rw [hr]; simp⟩
end
theorem region_X {P : Program} {id : Nat} {ops : Array Oper} {Q : Exit → Act → World → Prop} (S0 S1 : World → Prop) (ex : Nat → Bool) {a : Act} {w : World} (hm : P.follows .mixedOrders = true)
    (h : wpAnyX P .any ops (OnlyOn Q) S0 S1 ex ops.size (Array.replicate ops.size false) a w.drew) : (Code.region id ops true).wp P Q a w :=
  Code.wp_mono OnlyOn.imp (wp_region_any hm (wpAny_of_X _ _ _ _ h))
/-- Two rows that grow side by side, from a world on. -/
structure Two (f : Nat → Nat) (w0 w : World) (B : Nat) (e1 e2 : TypeId) (z1 z2 : Nat) (kv rv : Value) (n m : Nat) (xs ys : List Value) : Prop where
  hk : w.ownsRow B e1 z1 kv n xs
  hr : w.ownsRow B e2 z2 rv m ys
  dis : ∀ a, ob kv a + ob rv a ≤ 1
  le : ∀ a, a < w0.heap.size → ob kv a + ob rv a ≤ f a
  fr : FR f w0 w
section
variable {f : Nat → Nat} {w0 w w' : World} {B : Nat} {e1 e2 : TypeId} {z1 z2 : Nat} {kv rv kv' : Value} {n m n' : Nat} {xs ys xs' : List Value}
theorem Two.swap (h : Two f w0 w B e1 e2 z1 z2 kv rv n m xs ys) : Two f w0 w B e2 e1 z2 z1 rv kv m n ys xs :=
  ⟨h.hr, h.hk, fun a => by have := h.dis a; omega, fun a ha => by have := h.le a ha; omega, h.fr⟩
theorem Two.ext (h : Two f w0 w B e1 e2 z1 z2 kv rv n m xs ys) (hx : Ext w w') : Two f w0 w' B e1 e2 z1 z2 kv rv n m xs ys :=
  ⟨hx.own h.hk, hx.own h.hr, h.dis, h.le, h.fr.trans (FR.of_ext (f := f) hx) (fun _ _ h => h)⟩
theorem Two.push (h : Two f w0 w B e1 e2 z1 z2 kv rv n m xs ys) (hg : w.grownBy w' kv.ownBlock) (ho : w'.ownsRow B e1 z1 kv' n' xs') (hv : kv'.ownBlock = kv.ownBlock ∨ ∀ k, kv'.ownBlock = some k → w.heap.size ≤ k) : Two f w0 w' B e1 e2 z1 z2 kv' rv n' m xs' ys := by
  have hsz := h.fr.2.2.2.1
  refine ⟨ho, own_ne h.hr hg (fun k hk e => ?_), fun a => ?_, fun a ha => ?_, ⟨h.fr.1.trans hg.os.symm, h.fr.2.1.trans hg.tape.symm, h.fr.2.2.1.trans hg.output.symm, Nat.le_trans hsz hg.size, fun k hk h0 => ?_⟩⟩
  · have h2 : kv.ownBlock = some k := by first | exact e | exact e.symm
    have := h.dis k
    rw [ob_some hk, ob_some h2] at this
    omega
  · have h1 := h.dis a
    rcases hv with h2 | h2
    · rw [ob_same h2]; exact h1
    · by_cases e : kv'.ownBlock = some a
      · rw [ob_some e, own_bound h.hr (h2 a e)]; exact Nat.le_refl _
      · rw [show ob kv' a = 0 from if_neg e]; omega
  · have h1 := h.le a ha
    rcases hv with h2 | h2
    · rw [ob_same h2]; exact h1
    · rw [show ob kv' a = 0 from if_neg (fun e => by have := h2 a e; omega)]; omega
  · refine (hg.block k (Nat.lt_of_lt_of_le hk hsz) (fun e => ?_)).trans (h.fr.2.2.2.2 k hk h0)
    have := h.le k hk
    have h2 : kv.ownBlock = some k := by first | exact e | exact e.symm
    rw [ob_some h2] at this
    omega
theorem Two.cell (h : Two f w0 w B e1 e2 z1 z2 kv rv n m xs ys) {ad : Addr} {u : Value} (hc : w0.cell? ad = some u) (h0 : f ad.block = 0) : w.cell? ad = some u :=
  (World.cell?_of_block (h.fr.2.2.2.2 ad.block (World.block_lt_of_cell? _ _ hc) h0)).trans hc
theorem Two.ob0 (h : Two f w0 w B e1 e2 z1 z2 kv rv n m xs ys) {a : Nat} (ha : w.heap.size ≤ a) : ob kv a = 0 ∧ ob rv a = 0 := ⟨own_bound h.hk ha, own_bound h.hr ha⟩
end
/-- Blocks that were not there have turned. -/
theorem Ext.trans' {w w1 w2 : World} {f : Nat → Nat} (h : Ext w w1) (hF : FR f w1 w2) (h0 : ∀ a, a < w.heap.size → f a = 0) : Ext w w2 :=
  ⟨hF.1.symm.trans h.os, hF.2.1.symm.trans h.tape, hF.2.2.1.symm.trans h.output, Nat.le_trans h.size hF.2.2.2.1, fun k hk => (hF.2.2.2.2 k (Nat.lt_of_lt_of_le hk h.size) (h0 k hk)).trans (h.block hk)⟩
/-- What lies beside a row that grows stays. -/
theorem news_keep {w w' : World} {v : Value} {q : Nat} {es : List Value} (hg : w.grownBy w' v.ownBlock) (h : ∀ j u, es[j]? = some u → w.cell? ((⟨q, 0, none⟩ : Addr).add j) = some u) (h0 : ob v q = 0) : ∀ j u, es[j]? = some u → w'.cell? ((⟨q, 0, none⟩ : Addr).add j) = some u := fun j u hu => by
  have h1 := h j u hu
  rw [hg.cell_far _ (World.block_lt_of_cell? _ _ h1) (fun e => ob_zero h0 (by rw [block_add] at e; exact e.symm))]
  exact h1
theorem news_ext {w w' : World} {q : Nat} {es : List Value} (hx : Ext w w') (h : ∀ j u, es[j]? = some u → w.cell? ((⟨q, 0, none⟩ : Addr).add j) = some u) : ∀ j u, es[j]? = some u → w'.cell? ((⟨q, 0, none⟩ : Addr).add j) = some u := fun j u hu => hx.cell (h j u hu)
end Go.Proofs.Ytpijfiaecicpfaa
