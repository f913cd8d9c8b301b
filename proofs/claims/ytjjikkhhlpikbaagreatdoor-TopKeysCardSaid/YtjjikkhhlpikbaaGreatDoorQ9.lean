/-
  Regions that draw their order and store more than once: what is asked of the world ahead of the stores, and all along. Two rows that grow side by side. Bound to no program; The nodes of an index as a list; listing them.
-/
import Derived.Test.YtjjikkhhlpikbaaGreatDoorQ8
set_option maxRecDepth 100000
set_option maxHeartbeats 40000000
set_option linter.unusedVariables false
set_option linter.unusedSimpArgs false
namespace Go.Proofs.YtjjikkhhlpikbaaGreatDoor
open Go.RowKit Go.Shelf
def virgin (ex : Nat → Bool) (listed : Array Bool) : Bool := (List.range listed.size).all fun j => !(ex j) || !(listed.getD j true)
theorem virgin_iff {ex : Nat → Bool} {listed : Array Bool} : virgin ex listed = true ↔ ∀ j, j < listed.size → ex j = true → listed.getD j true = false := by
  unfold virgin
  rw [List.all_eq_true]
  constructor
  · intro h j hj he
    have := h j (List.mem_range.2 hj)
    rw [he] at this
    simpa using this
  · intro h j hj
    rw [List.mem_range] at hj
    cases he : ex j with
    | false => rfl
    | true => simp [h j hj he]
theorem virgin_back {ex : Nat → Bool} {listed : Array Bool} {i : Nat} (h : virgin ex (listed.setIfInBounds i true) = true) : virgin ex listed = true := by
  rw [virgin_iff] at h ⊢
  intro j hj he
  have h1 := h j (by simpa using hj) he
  by_cases e : i = j
  · subst e
    simp [hj] at h1
  · rwa [getD_set_ne true e] at h1
theorem virgin_on {ex : Nat → Bool} {listed : Array Bool} {i : Nat} (h : virgin ex listed = true) (hi : ex i = false) : virgin ex (listed.setIfInBounds i true) = true := by
  rw [virgin_iff] at h ⊢
  intro j hj he
  have hne : i ≠ j := fun e => by rw [← e, hi] at he; cases he
  rw [getD_set_ne true hne]
  exact h j (by simpa using hj) he
section
variable {P : Program} {ops : Array Oper} {Q : Exit → Act → World → Prop} {md : Region.Mode} {S0 S1 : World → Prop} {ex : Nat → Bool}
def wpAnyX (P : Program) (md : Region.Mode) (ops : Array Oper) (Q : Exit → Act → World → Prop) (S0 S1 : World → Prop) (ex : Nat → Bool) : Nat → Array Bool → Act → World → Prop
  | 0, listed, a, w => Region.ready md ops listed = [] ∧ Q .normal a w
  | fuel + 1, listed, a, w =>
    (Region.ready md ops listed = [] → Q .normal a w) ∧
    ∀ i ∈ Region.ready md ops listed, wpOp P ops Q i (fun a' w' => (S0 w' ∧ (virgin ex (listed.setIfInBounds i true) = true → S1 w')) ∧ wpAnyX P md ops Q S0 S1 ex fuel (listed.setIfInBounds i true) a' w') a w
theorem wpAny_of_X : ∀ (fuel : Nat) (listed : Array Bool) (a : Act) (w : World), wpAnyX P md ops Q S0 S1 ex fuel listed a w → wpAny P md ops Q fuel listed a w
  | 0, _, _, _, h => h
  | fuel + 1, _, _, _, h => ⟨h.1, fun i hi => wpOp_mono (fun a' w' h' => wpAny_of_X fuel _ a' w' h'.2) (h.2 i hi)⟩
theorem wpAnyX_first {i : Nat} {oi : Oper} {v : Value} {Sv : World → Prop} {inv : Array Bool → Prop} (hi : ops[i]? = some oi) (hsel : ∀ (j : Nat) (o : Oper) cs b, ops[j]? = some o → o.op ≠ .select cs b)
    (hxi : ex i = false) (hQ : ∀ c a w, Q (.panic c) (a.put oi.dst v) w → Q (.panic c) a w) (hV : ∀ listed w, inv listed → S0 w → (virgin ex listed = true → S1 w) → Sv w) (hinv : ∀ listed j, inv listed → i ∈ Region.ready md ops listed → j ∈ Region.ready md ops listed → inv (listed.setIfInBounds j true)) :
    ∀ (fuel : Nat) (listed : Array Bool) (a : Act) (w : World),
      (∀ j oj, ops[j]? = some oj → j ≠ i → listed.getD j true = false → (∀ e ∈ oj.after, Region.binds md e = true → e.on ≠ i) → oi.apart ops oj = true) →
      i ∈ Region.ready md ops listed → YieldsIf P ops Sv oi v a → inv listed → S0 w → (virgin ex listed = true → S1 w) →
      wpAnyX P md ops Q S0 S1 ex fuel (listed.setIfInBounds i true) (a.put oi.dst v) w → wpAnyX P md ops Q S0 S1 ex (fuel + 1) listed a w := by
  intro fuel
  induction fuel with
  | zero =>
    intro listed a w _ hr hy hn h0 h1 H
    refine ⟨fun h => (by rw [h] at hr; cases hr), fun j hj => ?_⟩
    by_cases hji : j = i
    · subst hji; exact hy.wpOp hi (hV _ _ hn h0 h1) ⟨⟨h0, fun h => h1 (virgin_back h)⟩, H⟩
    · have := ready_mono hj hji
      rw [H.1] at this
      cases this
  | succ fuel ih =>
    intro listed a w hfree hr hy hn h0 h1 H
    refine ⟨fun h => (by rw [h] at hr; cases hr), fun j hj => ?_⟩
    by_cases hji : j = i
    · subst hji; exact hy.wpOp hi (hV _ _ hn h0 h1) ⟨⟨h0, fun h => h1 (virgin_back h)⟩, H⟩
    · have h2 := H.2 j (ready_mono hj hji)
      obtain ⟨hjun, oj, hoj, hall⟩ := mem_ready.1 hj
      have hnot : ∀ e ∈ oj.after, Region.binds md e = true → e.on ≠ i := fun e he hb heq => by
        have h1 := hall e he hb
        have h0 := (mem_ready.1 hr).1
        rw [heq] at h1
        rcases Nat.lt_or_ge i listed.size with h' | h'
        · simp [h'] at h0 h1; rw [h0] at h1; cases h1
        · simp [Array.getElem?_eq_none h'] at h1
      have h2 := wpOp_putIf hoj (hfree j oj hoj hji hjun hnot) (fun cs b => hsel i oi cs b hi) (fun cs b => hsel j oj cs b hoj) hQ hy h2
      have hfree' : ∀ k ok, ops[k]? = some ok → k ≠ i → (listed.setIfInBounds j true).getD k true = false →
          (∀ e ∈ ok.after, Region.binds md e = true → e.on ≠ i) → oi.apart ops ok = true := fun k ok hk hki hun hno => by
        refine hfree k ok hk hki ?_ hno
        by_cases hjk : j = k
        · subst hjk; exact hjun
        · rw [getD_set_ne true hjk] at hun; exact hun
      have hc : (listed.setIfInBounds i true).setIfInBounds j true = (listed.setIfInBounds j true).setIfInBounds i true := Array.setIfInBounds_comm _ _ (Ne.symm hji)
      have hn' := hinv listed j hn hr hj
      have hvv : virgin ex (listed.setIfInBounds j true) = true → virgin ex ((listed.setIfInBounds i true).setIfInBounds j true) = true := fun h => by rw [hc]; exact virgin_on h hxi
      refine wpOp_mono (fun a' w' h3 => ⟨⟨h3.2.1.1, fun h => h3.2.1.2 (hvv h)⟩, ih (listed.setIfInBounds j true) a' w' hfree' (ready_mono hr (Ne.symm hji)) h3.1 hn' h3.2.1.1 (fun h => h3.2.1.2 (hvv h)) ?_⟩) h2
      rw [Array.setIfInBounds_comm _ _ hji]
      exact h3.2.2
theorem X_take0 (i : Nat) {oi : Oper} {v : Value} {fuel : Nat} {listed : Array Bool} {a : Act} {w : World} (hi : ops[i]? = some oi)
    (hs : Region.noSelect ops = true) (hf : Region.free md ops listed i = true) (hr : (Region.ready md ops listed).contains i = true) (hx : (!(ex i)) = true)
    (hQ : ∀ c a w, Q (.panic c) (a.put oi.dst v) w → Q (.panic c) a w) (hy : YieldsIf P ops S0 oi v a) (hS : S0 w ∧ (virgin ex listed = true → S1 w))
    (h : wpAnyX P md ops Q S0 S1 ex fuel (listed.setIfInBounds i true) (a.put oi.dst v) w) : wpAnyX P md ops Q S0 S1 ex (fuel + 1) listed a w :=
  wpAnyX_first (Sv := S0) (inv := fun _ => True) hi (Region.noSelect_spec hs) (by simpa using hx) hQ (fun _ _ _ h _ => h) (fun _ _ _ _ _ => trivial) fuel listed a w (Region.free_spec hi hf) (by simpa using hr) hy trivial hS.1 hS.2 h
def waitsX (md : Region.Mode) (ops : Array Oper) (ex : Nat → Bool) (i : Nat) : Bool := (List.range ops.size).all fun j => !(ex j) || waits md ops j i
theorem X_take1 (i : Nat) {oi : Oper} {v : Value} {fuel : Nat} {listed : Array Bool} {a : Act} {w : World} (hi : ops[i]? = some oi)
    (hs : Region.noSelect ops = true) (hf : Region.free md ops listed i = true) (hr : (Region.ready md ops listed).contains i = true) (hx : (!(ex i)) = true) (hw : waitsX md ops ex i = true) (hv : virgin ex listed = true)
    (hQ : ∀ c a w, Q (.panic c) (a.put oi.dst v) w → Q (.panic c) a w) (hy : YieldsIf P ops (fun w => S0 w ∧ S1 w) oi v a) (hS : S0 w ∧ (virgin ex listed = true → S1 w))
    (h : wpAnyX P md ops Q S0 S1 ex fuel (listed.setIfInBounds i true) (a.put oi.dst v) w) : wpAnyX P md ops Q S0 S1 ex (fuel + 1) listed a w :=
  wpAnyX_first (Sv := fun w => S0 w ∧ S1 w) (inv := fun l => virgin ex l = true) hi (Region.noSelect_spec hs) (by simpa using hx) hQ (fun _ _ hv h h1 => ⟨h, h1 hv⟩) (fun listed j hv hri hrj => by
    refine virgin_on hv ?_
    cases he : ex j with
    | false => rfl
    | true =>
      exfalso
      obtain ⟨_, oj, hoj, _⟩ := mem_ready.1 hrj
      have h1 := (List.all_eq_true.1 hw) j (List.mem_range.2 (Array.getElem?_eq_some_iff.1 hoj).1)
      rw [he] at h1
      exact waits_spec (last := j) (by simpa using h1) hri hrj) fuel listed a w (Region.free_spec hi hf) (by simpa using hr) hy hv hS.1 hS.2 h
theorem X_one (i : Nat) {o : Oper} {fuel : Nat} {listed : Array Bool} {a : Act} {w : World} (hi : ops[i]? = some o) (hr : Region.ready md ops listed = [i])
    (h : ∀ K, (∀ a' w', (S0 w' ∧ (virgin ex (listed.setIfInBounds i true) = true → S1 w')) ∧ wpAnyX P md ops Q S0 S1 ex fuel (listed.setIfInBounds i true) a' w' → K a' w') → if Region.wanted o (yielded ops a.tmps) = true then Oper.wp P o a w K Q else K (a.put o.dst undef) w) : wpAnyX P md ops Q S0 S1 ex (fuel + 1) listed a w := by
  refine ⟨fun h0 => absurd (hr ▸ h0) (by simp), fun j hj => ?_⟩
  rw [hr, List.mem_singleton] at hj
  subst hj
  have h1 := h _ (fun _ _ h => h)
  unfold wpOp
  simp only [hi]
  split
  · rename_i hw; rw [if_pos hw] at h1; exact .inl h1
  · rename_i hw; rw [if_neg hw] at h1; exact h1
theorem X_two (i j : Nat) {o o' : Oper} {fuel : Nat} {listed : Array Bool} {a : Act} {w : World} (hi : ops[i]? = some o) (hj : ops[j]? = some o') (hr : Region.ready md ops listed = [i, j])
    (h : ∀ K, (∀ a' w', (S0 w' ∧ (virgin ex (listed.setIfInBounds i true) = true → S1 w')) ∧ wpAnyX P md ops Q S0 S1 ex fuel (listed.setIfInBounds i true) a' w' → K a' w') → if Region.wanted o (yielded ops a.tmps) = true then Oper.wp P o a w K Q else K (a.put o.dst undef) w)
    (h' : ∀ K, (∀ a' w', (S0 w' ∧ (virgin ex (listed.setIfInBounds j true) = true → S1 w')) ∧ wpAnyX P md ops Q S0 S1 ex fuel (listed.setIfInBounds j true) a' w' → K a' w') → if Region.wanted o' (yielded ops a.tmps) = true then Oper.wp P o' a w K Q else K (a.put o'.dst undef) w) : wpAnyX P md ops Q S0 S1 ex (fuel + 1) listed a w := by
  refine ⟨fun h0 => absurd (hr ▸ h0) (by simp), fun k hk => ?_⟩
  rw [hr, List.mem_cons, List.mem_singleton] at hk
  rcases hk with rfl | rfl
  · have h1 := h _ (fun _ _ h => h)
    unfold wpOp
    simp only [hi]
    split
    · rename_i hw; rw [if_pos hw] at h1; exact .inl h1
    · rename_i hw; rw [if_neg hw] at h1; exact h1
  · have h1 := h' _ (fun _ _ h => h)
    unfold wpOp
    simp only [hj]
    split
    · rename_i hw; rw [if_pos hw] at h1; exact .inl h1
    · rename_i hw; rw [if_neg hw] at h1; exact h1
theorem X_done {fuel : Nat} {listed : Array Bool} {a : Act} {w : World} (hr : Region.ready md ops listed = []) (h : Q .normal a w) : wpAnyX P md ops Q S0 S1 ex fuel listed a w := by
  cases fuel with
  | zero => exact ⟨hr, h⟩
  | succ n => exact ⟨fun _ => h, by rw [hr]; simp⟩
end
theorem region_X {P : Program} {id : Nat} {ops : Array Oper} {Q : Exit → Act → World → Prop} (S0 S1 : World → Prop) (ex : Nat → Bool) {a : Act} {w : World} (hm : P.follows .mixedOrders = true)
    (h : wpAnyX P .any ops (OnlyOn Q) S0 S1 ex ops.size (Array.replicate ops.size false) a w.drew) : (Code.region id ops true).wp P Q a w :=
  Code.wp_mono OnlyOn.imp (wp_region_any hm (wpAny_of_X _ _ _ _ h))
structure Two (f : Nat → Nat) (w0 w : World) (B : Nat) (e1 e2 : TypeId) (z1 z2 : Nat) (kv rv : Value) (n m : Nat) (xs ys : List Value) : Prop where
  hk : w.ownsRow B e1 z1 kv n xs
  hr : w.ownsRow B e2 z2 rv m ys
  dis : ∀ a, ob kv a + ob rv a ≤ 1
  le : ∀ a, a < w0.heap.size → ob kv a + ob rv a ≤ f a
  fr : FR f w0 w
section
variable {f : Nat → Nat} {w0 w w' : World} {B : Nat} {e1 e2 : TypeId} {z1 z2 : Nat} {kv rv kv' : Value} {n m n' : Nat} {xs ys xs' : List Value}
theorem Two.swap (h : Two f w0 w B e1 e2 z1 z2 kv rv n m xs ys) : Two f w0 w B e2 e1 z2 z1 rv kv m n ys xs :=
  ⟨h.hr, h.hk, fun a => by have := h.dis a; omega, fun a ha => by have := h.le a ha; omega, h.fr⟩
theorem Two.ext (h : Two f w0 w B e1 e2 z1 z2 kv rv n m xs ys) (hx : Ext w w') : Two f w0 w' B e1 e2 z1 z2 kv rv n m xs ys :=
  ⟨hx.own h.hk, hx.own h.hr, h.dis, h.le, h.fr.trans (FR.of_ext (f := f) hx) (fun _ _ h => h)⟩
theorem Two.push (h : Two f w0 w B e1 e2 z1 z2 kv rv n m xs ys) (hg : w.grownBy w' kv.ownBlock) (ho : w'.ownsRow B e1 z1 kv' n' xs') (hv : kv'.ownBlock = kv.ownBlock ∨ ∀ k, kv'.ownBlock = some k → w.heap.size ≤ k) : Two f w0 w' B e1 e2 z1 z2 kv' rv n' m xs' ys := by
  have hsz := h.fr.2.2.2.1
  refine ⟨ho, own_ne h.hr hg (fun k hk e => ?_), fun a => ?_, fun a ha => ?_, ⟨h.fr.1.trans hg.os.symm, h.fr.2.1.trans hg.tape.symm, h.fr.2.2.1.trans hg.output.symm, Nat.le_trans hsz hg.size, fun k hk h0 => ?_⟩⟩
  · have h2 : kv.ownBlock = some k := by first | exact e | exact e.symm
    have := h.dis k
    rw [ob_some hk, ob_some h2] at this
    omega
  · have h1 := h.dis a
    rcases hv with h2 | h2
    · rw [ob_same h2]; exact h1
    · by_cases e : kv'.ownBlock = some a
      · rw [ob_some e, own_bound h.hr (h2 a e)]; exact Nat.le_refl _
      · rw [show ob kv' a = 0 from if_neg e]; omega
  · have h1 := h.le a ha
    rcases hv with h2 | h2
    · rw [ob_same h2]; exact h1
    · rw [show ob kv' a = 0 from if_neg (fun e => by have := h2 a e; omega)]; omega
  · refine (hg.block k (Nat.lt_of_lt_of_le hk hsz) (fun e => ?_)).trans (h.fr.2.2.2.2 k hk h0)
    have := h.le k hk
    have h2 : kv.ownBlock = some k := by first | exact e | exact e.symm
    rw [ob_some h2] at this
    omega
theorem Two.cell (h : Two f w0 w B e1 e2 z1 z2 kv rv n m xs ys) {ad : Addr} {u : Value} (hc : w0.cell? ad = some u) (h0 : f ad.block = 0) : w.cell? ad = some u :=
  (World.cell?_of_block (h.fr.2.2.2.2 ad.block (World.block_lt_of_cell? _ _ hc) h0)).trans hc
theorem Two.ob0 (h : Two f w0 w B e1 e2 z1 z2 kv rv n m xs ys) {a : Nat} (ha : w.heap.size ≤ a) : ob kv a = 0 ∧ ob rv a = 0 := ⟨own_bound h.hk ha, own_bound h.hr ha⟩
end
theorem Ext.trans' {w w1 w2 : World} {f : Nat → Nat} (h : Ext w w1) (hF : FR f w1 w2) (h0 : ∀ a, a < w.heap.size → f a = 0) : Ext w w2 :=
  ⟨hF.1.symm.trans h.os, hF.2.1.symm.trans h.tape, hF.2.2.1.symm.trans h.output, Nat.le_trans h.size hF.2.2.2.1, fun k hk => (hF.2.2.2.2 k (Nat.lt_of_lt_of_le hk h.size) (h0 k hk)).trans (h.block hk)⟩
theorem news_keep {w w' : World} {v : Value} {q : Nat} {es : List Value} (hg : w.grownBy w' v.ownBlock) (h : ∀ j u, es[j]? = some u → w.cell? ((⟨q, 0, none⟩ : Addr).add j) = some u) (h0 : ob v q = 0) : ∀ j u, es[j]? = some u → w'.cell? ((⟨q, 0, none⟩ : Addr).add j) = some u := fun j u hu => by
  have h1 := h j u hu
  rw [hg.cell_far _ (World.block_lt_of_cell? _ _ h1) (fun e => ob_zero h0 (by rw [block_add] at e; exact e.symm))]
  exact h1
theorem news_ext {w w' : World} {q : Nat} {es : List Value} (hx : Ext w w') (h : ∀ j u, es[j]? = some u → w.cell? ((⟨q, 0, none⟩ : Addr).add j) = some u) : ∀ j u, es[j]? = some u → w'.cell? ((⟨q, 0, none⟩ : Addr).add j) = some u := fun j u hu => hx.cell (h j u hu)
open Go.RowKit Go.Shelf
structure Nx where
  keys : List ByteArray
  recs : List Int
  kids : List Int
structure V3 where
  k : Value
  r : Value
  d : Value
def strv (l : List ByteArray) : List Value := l.map .string
theorem strv_app (a b : List ByteArray) : strv (a ++ b) = strv a ++ strv b := by simp [strv]
theorem strv_len (a : List ByteArray) : (strv a).length = a.length := by simp [strv]
def rowsV : List V3 → List Value
  | [] => []
  | v :: vs => v.k :: v.r :: v.d :: rowsV vs
theorem rowsV_len : ∀ vs : List V3, (rowsV vs).length = vs.length * 3
  | [] => rfl
  | v :: vs => by rw [rowsV, List.length_cons, List.length_cons, List.length_cons, rowsV_len vs, List.length_cons]; omega
theorem rowsV_app : ∀ a b : List V3, rowsV (a ++ b) = rowsV a ++ rowsV b
  | [], b => rfl
  | v :: a, b => by rw [List.cons_append, rowsV, rowsV, rowsV_app a b]; rfl
theorem rowsV_at (a : List V3) (v : V3) (b : List V3) {m : Nat} (hm : a.length = m) : (rowsV (a ++ v :: b))[m * 3]? = some v.k ∧ (rowsV (a ++ v :: b))[m * 3 + 1]? = some v.r ∧ (rowsV (a ++ v :: b))[m * 3 + 2]? = some v.d := by
  subst hm
  rw [rowsV_app]
  refine ⟨?_, ?_, ?_⟩ <;> rw [List.getElem?_append_right (by rw [rowsV_len]; omega), rowsV_len]
  · rw [show a.length * 3 - a.length * 3 = 0 by omega]; rfl
  · rw [show a.length * 3 + 1 - a.length * 3 = 1 by omega]; rfl
  · rw [show a.length * 3 + 2 - a.length * 3 = 2 by omega]; rfl
theorem rowsV_set (a : List V3) (v : V3) (b : List V3) {m : Nat} (hm : a.length = m) (d : Value) : (rowsV (a ++ v :: b)).set (m * 3 + 2) d = rowsV (a ++ ⟨v.k, v.r, d⟩ :: b) := by
  subst hm
  rw [rowsV_app, rowsV_app, List.set_append_right _ _ (by rw [rowsV_len]; omega), rowsV_len, show a.length * 3 + 2 - a.length * 3 = 2 by omega]
  rfl
def NR (w : World) (B : Nat) (v : V3) (x : Nx) (g : Nat → Nat) : Prop := w.ownsRow B 9 1 v.k x.keys.length (strv x.keys) ∧ w.ownsRow B 3 1 v.r x.recs.length (ints x.recs) ∧ w.ownsRow B 3 1 v.d x.kids.length (ints x.kids) ∧ ∀ a, g a = ob v.k a + ob v.r a + ob v.d a
def NL (w : World) (B : Nat) : List V3 → List Nx → (Nat → Nat) → Prop
  | [], [], f => ∀ a, f a = 0
  | v :: vs, x :: xs, f => ∃ f1 f2, NR w B v x f1 ∧ NL w B vs xs f2 ∧ ∀ a, f a = f1 a + f2 a
  | _, _, _ => False
section
variable {w w' : World} {B : Nat} {f : Nat → Nat}
theorem NL.len : ∀ {vs : List V3} {xs : List Nx} {g : Nat → Nat}, NL w B vs xs g → vs.length = xs.length
  | [], [], _, _ => rfl
  | _ :: vs, _ :: xs, g, ⟨_, _, _, h, _⟩ => by simp [h.len]
  | [], _ :: _, _, h => h.elim
  | _ :: _, [], _, h => h.elim
theorem NR.frame (hF : FR f w w') {v : V3} {x : Nx} {g : Nat → Nat} (h : NR w B v x g) (hg : ∀ a, 0 < g a → f a = 0) : NR w' B v x g := by
  obtain ⟨h1, h2, h3, h4⟩ := h
  exact ⟨hF.own h1 (fun k e => hg k (by rw [h4 k, ob_some e]; omega)), hF.own h2 (fun k e => hg k (by rw [h4 k, ob_some e]; omega)), hF.own h3 (fun k e => hg k (by rw [h4 k, ob_some e]; omega)), h4⟩
theorem NL.frame (hF : FR f w w') : ∀ {vs : List V3} {xs : List Nx} {g : Nat → Nat}, NL w B vs xs g → (∀ a, 0 < g a → f a = 0) → NL w' B vs xs g
  | [], [], g, h, _ => h
  | v :: vs, x :: xs, g, ⟨f1, f2, h1, h2, h3⟩, hg => ⟨f1, f2, h1.frame hF (fun a ha => hg a (by rw [h3 a]; omega)), NL.frame hF h2 (fun a ha => hg a (by rw [h3 a]; omega)), h3⟩
  | [], _ :: _, g, h, _ => h.elim
  | _ :: _, [], g, h, _ => h.elim
theorem NL.same {vs : List V3} {xs : List Nx} {g g' : Nat → Nat} (h : NL w B vs xs g) (e : ∀ a, g' a = g a) : NL w B vs xs g' := by
  have : g' = g := funext e
  rw [this]
  exact h
theorem NL.app : ∀ {vs us : List V3} {xs ys : List Nx} {f g : Nat → Nat}, NL w B vs xs f → NL w B us ys g → NL w B (vs ++ us) (xs ++ ys) (fun a => f a + g a)
  | [], us, [], ys, f, g, h, h2 => h2.same (fun a => by show f a + g a = g a; rw [h a]; omega)
  | v :: vs, us, x :: xs, ys, f, g, ⟨f1, f2, h1, h3, h4⟩, h2 => ⟨f1, _, h1, h3.app h2, fun a => by show f a + g a = f1 a + (f2 a + g a); rw [h4 a]; omega⟩
  | [], _, _ :: _, _, _, _, h, _ => h.elim
  | _ :: _, _, [], _, _, _, h, _ => h.elim
theorem NL.one {v : V3} {x : Nx} {g : Nat → Nat} (h : NR w B v x g) : NL w B [v] [x] g := ⟨g, fun _ => 0, h, fun _ => rfl, fun a => rfl⟩
theorem NL.cut : ∀ {x1 : List Nx} {vs : List V3} {x : Nx} {x2 : List Nx} {g : Nat → Nat}, NL w B vs (x1 ++ x :: x2) g → ∃ v1 v v2 g0 g1 g2, vs = v1 ++ v :: v2 ∧ v1.length = x1.length ∧ NL w B v1 x1 g0 ∧ NR w B v x g1 ∧ NL w B v2 x2 g2 ∧ ∀ a, g a = g0 a + g1 a + g2 a
  | [], v :: vs, x, x2, g, ⟨f1, f2, h1, h2, h3⟩ => ⟨[], v, vs, fun _ => 0, f1, f2, rfl, rfl, fun _ => rfl, h1, h2, fun a => by show g a = 0 + f1 a + f2 a; rw [h3 a]; omega⟩
  | y :: x1, u :: vs, x, x2, g, ⟨f1, f2, h1, h2, h3⟩ => by
    obtain ⟨v1, v, v2, g0, g1, g2, e1, e2, e3, e4, e5, e6⟩ := NL.cut h2
    exact ⟨u :: v1, v, v2, fun a => f1 a + g0 a, g1, g2, by rw [e1]; rfl, by simp [e2], ⟨f1, g0, h1, e3, fun _ => rfl⟩, e4, e5, fun a => by show g a = f1 a + g0 a + g1 a + g2 a; rw [h3 a, e6 a]; omega⟩
  | [], [], _, _, _, h => h.elim
  | _ :: _, [], _, _, _, h => h.elim
theorem NR.bound {v : V3} {x : Nx} {g : Nat → Nat} (h : NR w B v x g) : ∀ a, w.heap.size ≤ a → g a = 0 := fun a ha => by
  obtain ⟨h1, h2, h3, h4⟩ := h
  rw [h4 a, own_bound h1 ha, own_bound h2 ha, own_bound h3 ha]
theorem NL.bound : ∀ {vs : List V3} {xs : List Nx} {g : Nat → Nat}, NL w B vs xs g → ∀ a, w.heap.size ≤ a → g a = 0
  | [], [], g, h, a, _ => h a
  | v :: vs, x :: xs, g, ⟨f1, f2, h1, h2, h3⟩, a, ha => by rw [h3 a, h1.bound a ha, NL.bound h2 a ha]
  | [], _ :: _, g, h, _, _ => h.elim
  | _ :: _, [], g, h, _, _ => h.elim
end
structure LIx (f0 : Nat → Nat) (w0 w : World) (B : Nat) (v : Value) (xs : List Nx) (vs : List V3) (g : Nat → Nat) : Prop where
  own : w.ownsRow B 113 3 v xs.length (rowsV vs)
  nl : NL w B vs xs g
  dis : ∀ a, ob v a + g a ≤ 1
  le : ∀ a, a < w0.heap.size → ob v a + g a ≤ f0 a
  fr : FR f0 w0 w
def LI (f0 : Nat → Nat) (w0 w : World) (B : Nat) (v : Value) (xs : List Nx) : Prop := ∃ vs g, LIx f0 w0 w B v xs vs g
section
variable {f0 : Nat → Nat} {w0 w w' w3 : World} {B : Nat} {v v' : Value} {xs xs' : List Nx} {vs : List V3} {g : Nat → Nat}
theorem LIx.trans (h : LIx f0 w0 w B v xs vs g) (h2 : LI (fun a => ob v a + g a) w w' B v' xs') : LI f0 w0 w' B v' xs' := by
  obtain ⟨vs', g', h3⟩ := h2
  exact ⟨vs', g', h3.own, h3.nl, h3.dis, fun a ha => Nat.le_trans (h3.le a (Nat.lt_of_lt_of_le ha h.fr.2.2.2.1)) (h.le a ha), h.fr.trans h3.fr (fun k hk h0 => by have := h.le k hk; show ob v k + g k = 0; omega)⟩
theorem LIx.ext (h : LIx f0 w0 w B v xs vs g) (hx : Ext w w') : LIx f0 w0 w' B v xs vs g :=
  ⟨hx.own h.own, h.nl.frame (f := fun _ => 0) (FR.of_ext hx) (fun _ _ => rfl), h.dis, h.le, h.fr.trans (FR.of_ext (f := f0) hx) (fun _ _ h => h)⟩
theorem FR.of_grown {f : Nat → Nat} {row : Option Nat} (hg : w.grownBy w' row) (hf : ∀ k, row = some k → 0 < f k) : FR f w w' := ⟨hg.os.symm, hg.tape.symm, hg.output.symm, hg.size, fun k hk h0 => hg.block k hk (fun e => by have h1 := hf k (by first | exact e | exact e.symm); omega)⟩
theorem LIx.add (h : LIx f0 w0 w B v xs vs g) {w1 : World} (hx : Ext w w1) {u : V3} {x : Nx} {gu : Nat → Nat} (hu : NR w1 w.heap.size u x gu) (hB : B ≤ w.heap.size) (hd : ∀ a, gu a ≤ 1) (hg : w1.grownBy w' v.ownBlock) (ho : w'.ownsRow B 113 3 v' (xs.length + 1) (rowsV vs ++ [u.k, u.r, u.d])) (hv : v'.ownBlock = v.ownBlock ∨ ∀ k, v'.ownBlock = some k → w1.heap.size ≤ k) : LI f0 w0 w' B v' (xs ++ [x]) := by
  have hsz := h.fr.2.2.2.1
  have hs1 := hx.size
  have hlow : ∀ a, a < w.heap.size → gu a = 0 := fun a ha => by
    obtain ⟨h1, h2, h3, h4⟩ := hu
    rw [h4 a, show ob u.k a = 0 from if_neg (fun e => by have := own_freshB h1 _ e; omega), show ob u.r a = 0 from if_neg (fun e => by have := own_freshB h2 _ e; omega), show ob u.d a = 0 from if_neg (fun e => by have := own_freshB h3 _ e; omega)]
  have hF : FR (ob v) w1 w' := FR.of_grown hg (fun k e => by rw [ob_some e]; decide)
  have hnl := (h.nl.frame (f := fun _ => 0) (FR.of_ext hx) (fun _ _ => rfl)).frame hF (fun a ha => by have := h.dis a; omega)
  have hvlow : ∀ a, w.heap.size ≤ a → ob v a = 0 := fun a ha => own_bound h.own ha
  have hu2 := hu.frame hF (fun a ha => by
    by_cases e : a < w.heap.size
    · have := hlow a e; omega
    · exact hvlow a (by omega))
  have hu3 : NR w' B u x gu := ⟨own_baseK hu2.1 hB, own_baseK hu2.2.1 hB, own_baseK hu2.2.2.1 hB, hu2.2.2.2⟩
  refine ⟨vs ++ [u], _, ?_, hnl.app (NL.one hu3), fun a => ?_, fun a ha => ?_, (h.fr.trans (FR.of_ext (f := f0) hx) (fun _ _ h => h)).trans hF (fun k hk h0 => by have := h.le k hk; omega)⟩
  · rw [rowsV_app, List.length_append]
    exact ho
  · show ob v' a + (g a + gu a) ≤ 1
    by_cases e : a < w.heap.size
    · rw [hlow a e]
      have h1 := h.dis a
      rcases hv with h2 | h2
      · rw [ob_same h2]; omega
      · rw [show ob v' a = 0 from if_neg (fun e2 => by have := h2 a e2; omega)]; omega
    · rw [h.nl.bound a (by omega)]
      have h1 := hd a
      rcases hv with h2 | h2
      · rw [ob_same h2, hvlow a (by omega)]; omega
      · by_cases e2 : v'.ownBlock = some a
        · rw [hu.bound a (h2 a e2), ob_some e2]; exact Nat.le_refl _
        · rw [show ob v' a = 0 from if_neg e2]; omega
  · show ob v' a + (g a + gu a) ≤ f0 a
    have ha2 := Nat.lt_of_lt_of_le ha hsz
    rw [hlow a ha2]
    have h1 := h.le a ha
    rcases hv with h2 | h2
    · rw [ob_same h2]; omega
    · rw [show ob v' a = 0 from if_neg (fun e2 => by have := h2 a e2; omega)]; omega
theorem LIx.kid {x1 x2 : List Nx} {x : Nx} {gb n c : Nat} {k : Int} {d' : Value} {v1 v2 : List V3} {u : V3} {g0 g1 g2 : Nat → Nat} (h : LIx f0 w0 w B (.slice (some ⟨gb, 0, none⟩) n c) (x1 ++ x :: x2) (v1 ++ u :: v2) g) (hl : v1.length = x1.length) (h0 : NL w B v1 x1 g0) (h1 : NR w B u x g1) (h2 : NL w B v2 x2 g2) (hgs : ∀ a, g a = g0 a + g1 a + g2 a)
    (hg : w.grownBy w3 u.d.ownBlock) (ho : w3.ownsRow B 3 1 d' (x.kids.length + 1) (ints (x.kids ++ [k]))) (hv : d'.ownBlock = u.d.ownBlock ∨ ∀ k, d'.ownBlock = some k → w.heap.size ≤ k) : LI f0 w0 (w3.setCell ⟨gb, x1.length * 3 + 2, none⟩ d') B (.slice (some ⟨gb, 0, none⟩) n c) (x1 ++ ⟨x.keys, x.recs, x.kids ++ [k]⟩ :: x2) := by
  have hsz := h.fr.2.2.2.1
  obtain ⟨n1, n2, n3, n4⟩ := h1
  have hobv : ∀ a, ob (.slice (some ⟨gb, 0, none⟩) n c) a = one1 gb a := fun a => by
    unfold ob one1
    by_cases e : a = gb
    · rw [if_pos e, if_pos (by rw [e]; rfl)]
    · rw [if_neg e, if_neg]
      intro e2
      have h9 : gb = a := by simpa [Value.ownBlock] using e2
      exact e h9.symm
  have hgb : gb < w.heap.size := (h.own.lt gb rfl).2
  have hF : FR (fun a => ob u.d a) w w3 := FR.of_grown hg (fun k e => by show 0 < ob u.d k; rw [ob_some e]; decide)
  have hd : ∀ a, one1 gb a + (g0 a + (ob u.k a + ob u.r a + ob u.d a) + g2 a) ≤ 1 := fun a => by have := h.dis a; rw [hobv a, hgs a, n4 a] at this; exact this
  have hF2 : FR (fun a => ob u.d a + one1 gb a) w (w3.setCell ⟨gb, x1.length * 3 + 2, none⟩ d') := (hF.mono (fun k _ h0 => by have h9 : ob u.d k + one1 gb k = 0 := h0; show ob u.d k = 0; omega)).trans (fr_set (b := gb)) (fun k _ h0 => by have h9 : ob u.d k + one1 gb k = 0 := h0; show one1 gb k = 0; omega)
  have hd'g : d'.ownBlock ≠ some gb := fun e => by
    rcases hv with h9 | h9
    · rw [h9] at e
      have := hd gb
      rw [one_self, ob_some e] at this
      omega
    · have := h9 gb e; omega
  have hobd : ∀ a, a < w.heap.size → ob d' a ≤ ob u.d a := fun a ha => by
    rcases hv with h9 | h9
    · rw [ob_same h9]; exact Nat.le_refl _
    · rw [show ob d' a = 0 from if_neg (fun e => by have := h9 a e; omega)]; exact Nat.zero_le _
  have hobd2 : ∀ a, w.heap.size ≤ a → one1 gb a = 0 ∧ g0 a = 0 ∧ g2 a = 0 ∧ ob u.k a = 0 ∧ ob u.r a = 0 := fun a ha => ⟨if_neg (by omega), h0.bound a ha, h2.bound a ha, own_bound n1 ha, own_bound n2 ha⟩
  have k1 : NL (w3.setCell ⟨gb, x1.length * 3 + 2, none⟩ d') B v1 x1 g0 := h0.frame hF2 (fun a ha => by have := hd a; show ob u.d a + one1 gb a = 0; omega)
  have k2 : NL (w3.setCell ⟨gb, x1.length * 3 + 2, none⟩ d') B v2 x2 g2 := h2.frame hF2 (fun a ha => by have := hd a; show ob u.d a + one1 gb a = 0; omega)
  have k3 : NR (w3.setCell ⟨gb, x1.length * 3 + 2, none⟩ d') B ⟨u.k, u.r, d'⟩ ⟨x.keys, x.recs, x.kids ++ [k]⟩ (fun a => ob u.k a + ob u.r a + ob d' a) := by
    refine ⟨hF2.own n1 (fun k e => ?_), hF2.own n2 (fun k e => ?_), ?_, fun _ => rfl⟩
    · have := hd k; rw [ob_some e] at this; show ob u.d k + one1 gb k = 0; omega
    · have := hd k; rw [ob_some e] at this; show ob u.d k + one1 gb k = 0; omega
    · rw [List.length_append]
      exact own_set ho hd'g _ _
  refine ⟨v1 ++ ⟨u.k, u.r, d'⟩ :: v2, fun a => g0 a + ((ob u.k a + ob u.r a + ob d' a) + g2 a), ?_, k1.app ⟨_, _, k3, k2, fun _ => rfl⟩, fun a => ?_, fun a ha => ?_, h.fr.trans hF2 (fun k hk h9 => ?_)⟩
  · rw [← rowsV_set v1 u v2 hl d']
    have ho3 := own_ne h.own hg (fun k e e2 => by
      have e3 : u.d.ownBlock = some k := by first | exact e2 | exact e2.symm
      have := hd k
      have e4 : ob (.slice (some ⟨gb, 0, none⟩) n c) k = 1 := ob_some e
      rw [hobv k] at e4
      rw [ob_some e3] at this
      omega)
    have := own_setK (o := x1.length * 3 + 2) (u := d') (by
      have hn : (x1 ++ x :: x2).length = n := by
        obtain ⟨A9, c9, h9, _⟩ := own_form h.own
        injection h9 with _ h9 _
        exact h9.symm
      rw [hn] at ho3
      exact ho3)
    have hn : (x1 ++ ⟨x.keys, x.recs, x.kids ++ [k]⟩ :: x2).length = n := by
      obtain ⟨A9, c9, h9, _⟩ := own_form h.own
      injection h9 with _ h9 _
      rw [h9]
      simp
    rw [hn]
    exact this
  · rw [hobv a]
    show one1 gb a + (g0 a + (ob u.k a + ob u.r a + ob d' a + g2 a)) ≤ 1
    by_cases ha : a < w.heap.size
    · have := hd a; have := hobd a ha; omega
    · obtain ⟨q1, q2, q3, q4, q5⟩ := hobd2 a (by omega)
      have : ob d' a ≤ 1 := by unfold ob; split <;> omega
      omega
  · rw [hobv a]
    show one1 gb a + (g0 a + (ob u.k a + ob u.r a + ob d' a + g2 a)) ≤ f0 a
    have q1 := h.le a ha
    rw [hobv a, hgs a, n4 a] at q1
    have := hobd a (by omega)
    omega
  · have q1 := h.le k hk
    rw [hobv k, hgs k, n4 k] at q1
    show ob u.d k + one1 gb k = 0
    omega
end
def kls (F : BT → Nat → List Nx) : List BT → Nat → List Nx
  | [], _ => []
  | K :: ks, s => F K s ++ kls F ks (s + (F K s).length)
def kno (F : BT → Nat → List Nx) : List BT → Nat → List Int
  | [], _ => []
  | K :: ks, s => (s : Int) :: kno F ks (s + (F K s).length)
theorem kls_app (F : BT → Nat → List Nx) : ∀ (a b : List BT) (s : Nat), kls F (a ++ b) s = kls F a s ++ kls F b (s + (kls F a s).length)
  | [], b, s => by simp [kls]
  | K :: a, b, s => by
    rw [List.cons_append, kls, kls, kls_app F a b, List.append_assoc, List.length_append]
    congr 3
    omega
theorem kno_app (F : BT → Nat → List Nx) : ∀ (a b : List BT) (s : Nat), kno F (a ++ b) s = kno F a s ++ kno F b (s + (kls F a s).length)
  | [], b, s => by simp [kls, kno]
  | K :: a, b, s => by
    rw [List.cons_append, kno, kno, kls, kno_app F a b, List.length_append]
    simp only [List.cons_append]
    congr 3
    omega
theorem kno_len (F : BT → Nat → List Nx) : ∀ (a : List BT) (s : Nat), (kno F a s).length = a.length
  | [], _ => rfl
  | K :: a, s => by rw [kno, List.length_cons, List.length_cons, kno_len F a]
def ndX (F : BT → Nat → List Nx) (l : List Te) (ks : List BT) (m : Nat) : List Nx := ⟨l.map Te.key, l.map Te.no, kno F ks (m + 1)⟩ :: kls F ks (m + 1)
def lst : Nat → BT → Nat → List Nx
  | 0, .nd l ks, m => ndX (fun _ _ => []) l [] m
  | h + 1, .nd l ks, m => ndX (lst h) l ks m
theorem xs_snoc {F : BT → Nat → List Nx} {l : List Te} {ks : List BT} {K : BT} {i : Nat} {xs : List Nx} (hK : ks[i]? = some K) : xs ++ ⟨l.map Te.key, l.map Te.no, kno F (ks.take (i + 1)) (xs.length + 1)⟩ :: kls F (ks.take (i + 1)) (xs.length + 1) = xs ++ ⟨l.map Te.key, l.map Te.no, kno F (ks.take i) (xs.length + 1) ++ [((xs ++ ⟨l.map Te.key, l.map Te.no, kno F (ks.take i) (xs.length + 1)⟩ :: kls F (ks.take i) (xs.length + 1)).length : Int)]⟩ :: (kls F (ks.take i) (xs.length + 1) ++ F K (xs ++ ⟨l.map Te.key, l.map Te.no, kno F (ks.take i) (xs.length + 1)⟩ :: kls F (ks.take i) (xs.length + 1)).length) := by
  have hn : (xs ++ ⟨l.map Te.key, l.map Te.no, kno F (ks.take i) (xs.length + 1)⟩ :: kls F (ks.take i) (xs.length + 1)).length = xs.length + 1 + (kls F (ks.take i) (xs.length + 1)).length := by simp; omega
  rw [hn, List.take_add_one, hK, kno_app, kls_app]
  simp [kno, kls]
theorem infoS : (Tryz.prog.info? 9).map (fun i => (i.zero, i.size, i.bytes)) = some (some (.string ⟨#[]⟩), 1, 16) := by kernel_rfl
theorem infoI : (Tryz.prog.info? 3).map (fun i => (i.zero, i.size, i.bytes)) = some (some (.int .i64 0), 1, 8) := by kernel_rfl
theorem infoAN : (Tryz.prog.info? 113).map (fun i => (i.zero, i.size, i.bytes)) = some (some (.agg #[.slice none 0 0, .slice none 0 0, .slice none 0 0]), 3, 72) := by kernel_rfl
theorem nd3_set0 {w : World} {p : Nat} {a b c : Value} {t : TypeId} (h : w.heap[p]? = some (.cells #[a, b, c] t (0, 0))) (u : Value) : (w.setCell ⟨p, 0, none⟩ u).heap[p]? = some (.cells #[u, b, c] t (0, 0)) := by
  simp [World.setCell, Array.getElem?_modify, h]
theorem nd3_set1 {w : World} {p : Nat} {a b c : Value} {t : TypeId} (h : w.heap[p]? = some (.cells #[a, b, c] t (0, 0))) (u : Value) : (w.setCell ⟨p, 1, none⟩ u).heap[p]? = some (.cells #[a, u, c] t (0, 0)) := by
  simp [World.setCell, Array.getElem?_modify, h]
theorem nd3_c {w : World} {p : Nat} {a b c : Value} {t : TypeId} (h : w.heap[p]? = some (.cells #[a, b, c] t (0, 0))) : w.cell? ⟨p, 0, none⟩ = some a ∧ w.cell? ⟨p, 1, none⟩ = some b ∧ w.cell? ⟨p, 2, none⟩ = some c := by
  refine ⟨?_, ?_, ?_⟩ <;> rw [Lib.cell_of_heap h] <;> rfl
theorem Ext.set2 {w w' : World} (h : Ext w w') {y i j : Nat} (hy : w.heap.size ≤ y) (u v : Value) : Ext w ((w'.setCell ⟨y, i, none⟩ u).setCell ⟨y, j, none⟩ v) := (h.set (p := ⟨y, i, none⟩) hy u).set (p := ⟨y, j, none⟩) hy v
theorem listed_step (h : Nat) (F : BT → Nat → List Nx) (ks : List BT)
    (ih : ∀ (q : Nat) (K : BT) (fk : Nat → Nat) (w' : World) (B : Nat) (v : Value) (xs : List Nx) (vs : List V3) (g : Nat → Nat), K ∈ ks → TN w' h q K fk → B ≤ w'.heap.size → w'.ownsRow B 113 3 v xs.length (rowsV vs) → NL w' B vs xs g → (∀ a, ob v a + g a ≤ 1) → (∀ a, 0 < ob v a + g a → fk a = 0) → xs.length + (F K xs.length).length ≤ 1000000 → Calls Tryz.prog 62 #[.pointer (some ⟨q, 0, none⟩), v] w' fun e w2 => ∃ v', e = .returned (.tuple #[v', .int .i64 xs.length]) ∧ LI (fun a => ob v a + g a) w' w2 B v' (xs ++ F K xs.length))
    (p : Nat) (l : List Te) (ps : List Nat) (lv kv : Value) (gk : Nat → Nat) (w : World) (B : Nat) (v : Value) (xs : List Nx) (vs : List V3) (g : Nat → Nat) (e1 : w.heap[p]? = some (.cells #[lv, kv] 48 (0, 0))) (e2 : w.ownsRow 0 65 2 lv l.length (tents l)) (e3 : w.ownsRow 0 44 1 kv ps.length (ptrs ps)) (e5 : Ks (TN w h) ps ks gk)
    (hB : B ≤ w.heap.size) (hown : w.ownsRow B 113 3 v xs.length (rowsV vs)) (hnl : NL w B vs xs g) (hd : ∀ a, ob v a + g a ≤ 1) (hz : ∀ a, 0 < ob v a + g a → one1 p a + ob lv a + ob kv a + gk a = 0) (hn : xs.length + (ndX F l ks xs.length).length ≤ 1000000) (hll : l.length ≤ 1000000) (hkl : ks.length ≤ 1000000) :
    Calls Tryz.prog 62 #[.pointer (some ⟨p, 0, none⟩), v] w fun e w2 => ∃ v', e = .returned (.tuple #[v', .int .i64 xs.length]) ∧ LI (fun a => ob v a + g a) w w2 B v' (xs ++ ndX F l ks xs.length) := by
  obtain ⟨iS, s0, s1, s2, s3⟩ := info_parts infoS
  obtain ⟨iI, t0, t1, t2, t3⟩ := info_parts infoI
  obtain ⟨iN, n0, n1, n2, n3⟩ := info_parts infoAN
  obtain ⟨A, c, rfl, hr⟩ := own_rd e2
  obtain ⟨kA, kc, rfl, hkr⟩ := own_rd e3
  obtain ⟨Av, cv, rfl, -⟩ := own_form hown
  have hmx := Rd.max hr
  have hkmx := Rd.max hkr
  have hpk := e5.len
  have hkb : (ks.length : Nat) ≤ (kls F ks (xs.length + 1)).length + ks.length := by omega
  have hLI0 : Hid (LIx (fun a => ob (.slice Av xs.length cv) a + g a) w w B (.slice Av xs.length cv) xs vs g) := ⟨hown, hnl, hd, fun _ _ => Nat.le_refl _, FR.of_ext (Ext.refl w)⟩
  have hin : Hid (∀ w', FR (fun a => ob (.slice Av xs.length cv) a + g a) w w' → w'.cell? ⟨p, 0, none⟩ = some (.slice A l.length c) ∧ w'.cell? ⟨p, 1, none⟩ = some (.slice kA ps.length kc) ∧ RdN w' A l.length c l ∧ Rd w' 1 kA ps.length kc (ptrs ps)) := fun w' hF => by
    have hz' : ∀ a, 0 < one1 p a + ob (.slice A l.length c) a + ob (.slice kA ps.length kc) a + gk a → ob (.slice Av xs.length cv) a + g a = 0 := fun a ha => by
      rcases Nat.eq_zero_or_pos (ob (.slice Av xs.length cv) a + g a) with h0 | h0
      · exact h0
      · have := hz a h0; omega
    have e1' := (hF.2.2.2.2 p (Array.getElem?_eq_some_iff.1 e1).1 (hz' p (by rw [one_self]; omega))).trans e1
    exact ⟨node_c0 e1', node_c1 e1', Rd.of_own (hF.own e2 (fun k e => hz' k (by rw [ob_some e]; omega))), Rd.of_own (hF.own e3 (fun k e => hz' k (by rw [ob_some e]; omega)))⟩
  have hkid : Hid (∀ (i : Nat) (w' : World) (v' : Value) (xs' : List Nx) (vs' : List V3) (g' : Nat → Nat), i < ps.length → LIx (fun a => ob (.slice Av xs.length cv) a + g a) w w' B v' xs' vs' g' → (∀ K, ks[i]? = some K → xs'.length + (F K xs'.length).length ≤ 1000000) → ∃ q K, ps[i]? = some q ∧ ks[i]? = some K ∧ Calls Tryz.prog 62 #[.pointer (some ⟨q, 0, none⟩), v'] w' fun e w2 => ∃ v2, e = .returned (.tuple #[v2, .int .i64 xs'.length]) ∧ LI (fun a => ob v' a + g' a) w' w2 B v2 (xs' ++ F K xs'.length)) := fun i w' v' xs' vs' g' hi hL hb => by
    have hlt : i < ks.length := by omega
    have hK := List.getElem?_eq_getElem hlt
    obtain ⟨q, g0, g1, g2, hq, hTK, -, -, hgs⟩ := e5.cut hK
    refine ⟨q, ks[i], hq, hK, ih q ks[i] g1 w' B v' xs' vs' g' (List.getElem_mem hlt) ?_ (Nat.le_trans hB hL.fr.2.2.2.1) hL.own hL.nl hL.dis (fun a ha => ?_) (hb _ hK)⟩
    · refine hTK.frame hL.fr (fun a ha => ?_)
      rcases Nat.eq_zero_or_pos (ob (.slice Av xs.length cv) a + g a) with h0 | h0
      · exact h0
      · have := hz a h0; rw [hgs a] at this; omega
    · by_cases haw : a < w.heap.size
      · have h1 := hL.le a haw
        have h2 := hz a (by omega)
        rw [hgs a] at h2
        omega
      · exact TN.bound hTK a (by omega)
  have hbd : Hid (∀ i K, ks[i]? = some K → xs.length + 1 + (kls F (ks.take i) (xs.length + 1)).length + (F K (xs.length + 1 + (kls F (ks.take i) (xs.length + 1)).length)).length ≤ 1000000) := fun i K hK => by
    have h1 : (ndX F l ks xs.length).length = (kls F ks (xs.length + 1)).length + 1 := rfl
    obtain ⟨hlt, rfl⟩ := List.getElem?_eq_some_iff.1 hK
    have h2 : ks = ks.take i ++ (ks[i] :: ks.drop (i + 1)) := list_cut hlt
    have key : ∀ s9, (kls F (ks.take i) s9).length + (F ks[i] (s9 + (kls F (ks.take i) s9).length)).length ≤ (kls F ks s9).length := fun s9 => by
      have h4 : kls F ks s9 = kls F (ks.take i) s9 ++ (F ks[i] (s9 + (kls F (ks.take i) s9).length) ++ kls F (ks.drop (i + 1)) (s9 + (kls F (ks.take i) s9).length + (F ks[i] (s9 + (kls F (ks.take i) s9).length)).length)) := by
        conv => lhs; rw [h2, kls_app, kls]
      have h5 := congrArg List.length h4
      rw [List.length_append, List.length_append] at h5
      omega
    have := key (xs.length + 1)
    omega
  have hkl' := hid hkl
  have hn1 : xs.length + 1 ≤ 1000000 := by
    have h1 : (ndX F l ks xs.length).length = (kls F ks (xs.length + 1)).length + 1 := rfl
    omega
  have hLB := hid (fun (w1 w' : World) (u : V3) (x : Nx) (gu : Nat → Nat) (v' : Value) (hx : Ext w w1) => LIx.add hLI0.out hx (u := u) (x := x) (gu := gu) (w' := w') (v' := v'))
  have hownx := hid (fun w' (hx : Ext w w') => hx.own hown)
  have hfin : Hid (xs ++ ndX F l ks xs.length = xs ++ ⟨l.map Te.key, l.map Te.no, kno F (ks.take ps.length) (xs.length + 1)⟩ :: kls F (ks.take ps.length) (xs.length + 1)) := by
    unfold Hid
    rw [List.take_of_length_le (Nat.le_of_eq hpk.symm)]
    rfl
  replace hB := hid hB
  replace hpk := hid hpk
  have hxr := hid (fun w' (hx : Ext w w') => hin.out w' (FR.of_ext hx))
  have hin0 := hxr.out w (Ext.refl w)
  obtain ⟨zl0, zk0, -, -⟩ := hin0
  clear e1 e2 e3 e5 hown hnl hd hz hn hkr ih hkb
  go_enter Tryz.func62, Tryz.ntmps62
  go_upto_region 3 with fail
  obtain ⟨y, hy⟩ : ∃ y, y = w.heap.size := ⟨_, rfl⟩
  have hY0 := heap_alloc_new w (.cells #[.slice none 0 0, .slice none 0 0, .slice none 0 0] 113)
  rw [← hy] at hY0
  simp only [← hy]
  replace hY0 := hid hY0
  have hx1 := hid ((Ext.refl w).alloc_right (.cells #[.slice none 0 0, .slice none 0 0, .slice none 0 0] 113))
  replace zl0 := hx1.out.cell zl0
  generalize w.alloc (.cells #[.slice none 0 0, .slice none 0 0, .slice none 0 0] 113) = w1 at *
  have hnil : Hid (∀ a, ob (.slice none 0 0) a = 0) := fun a => if_neg (by intro e; cases e)
  have hyB : Hid (w.heap.size ≤ y) := by unfold Hid; omega
  replace hy := hid hy
  go_wp2_with fail
  go_loopw [20] (fun i wr => ∃ (k : Nat) (uk ur : Value), k ≤ l.length ∧ i = .int .i64 k ∧ Hid (wr.heap[y]? = some (.cells #[uk, ur, .slice none 0 0] 113 (0, 0))) ∧ Hid (wr.ownsRow w.heap.size 9 1 uk k (strv ((l.take k).map Te.key))) ∧ Hid (wr.ownsRow w.heap.size 3 1 ur k (ints ((l.take k).map Te.no))) ∧ Hid (∀ a, ob uk a + ob ur a + one1 y a ≤ 1) ∧ Hid (Ext w wr)) (fun i _ => l.length - (intOf i).toNat)
  case atStart => exact ⟨0, _, _, by omega, rfl, hY0, World.ownsRow_nil _ _ _ _, World.ownsRow_nil _ _ _ _, fun a => by rw [hnil.out a]; unfold one1; split <;> omega, hx1⟩
  case round =>
    obtain ⟨k, uk, ur, hk, rfl, hY, ok, or_, dis, hx⟩ := hrel
    by_cases hlt : k < l.length
    · obtain ⟨-, -, hr', -⟩ := hxr.out wr hx.out
      obtain ⟨ad, rfl, z0, z1⟩ := hr'.at_ hlt
      have hst : Hid (strv ((l.take (k + 1)).map Te.key) = strv ((l.take k).map Te.key) ++ [.string (tth l k).key]) := by
        unfold Hid
        rw [List.take_succ_eq_append_getElem hlt, List.map_append, strv_app, tth_get hlt]
        rfl
      have hit : Hid (ints ((l.take (k + 1)).map Te.no) = ints ((l.take k).map Te.no) ++ [.int .i64 (tth l k).no]) := by
        unfold Hid
        rw [List.take_succ_eq_append_getElem hlt, List.map_append, ints_append, tth_get hlt]
        rfl
      generalize tth l k = x at *
      generalize hsk : strv ((l.take k).map Te.key) = sk at *
      generalize hik : ints ((l.take k).map Te.no) = ik at *
      clear hsk hik
      have hE := heap_alloc_new wr (.cells #[.string x.key, .int .i64 x.no] 65)
      have hxe := (Ext.refl wr).alloc_right (.cells #[.string x.key, .int .i64 x.no] 65)
      go_upto_region 6 with fail
      have hb : Hid (ob uk wr.heap.size = 0 ∧ ob ur wr.heap.size = 0 ∧ y ≠ wr.heap.size) := by
        have h1 := (Array.getElem?_eq_some_iff.1 hY.out).1
        exact ⟨own_bound ok.out (Nat.le_refl _), own_bound or_.out (Nat.le_refl _), by omega⟩
      obtain ⟨b, hbe⟩ : ∃ b, b = wr.heap.size := ⟨_, rfl⟩
      rw [← hbe] at hE hb
      simp only [← hbe]
      replace hbe := hid hbe
      replace hY := hid ((hxe.block (Array.getElem?_eq_some_iff.1 hY.out).1).trans hY.out)
      replace ok := hid (hxe.own ok.out)
      replace or_ := hid (hxe.own or_.out)
      replace hx := hid (hx.out.trans hxe)
      clear z0 z1 hr' hxe
      generalize wr.alloc (.cells #[.string x.key, .int .i64 x.no] 65) = w2 at *
      refine region_X (fun w' : World => w'.cell? ⟨b, 0, none⟩ = some (.string x.key) ∧ w'.cell? ⟨b, 1, none⟩ = some (.int .i64 x.no)) (fun w' : World => w'.cell? ⟨y, 0, none⟩ = some uk ∧ w'.cell? ⟨y, 1, none⟩ = some ur) (fun j => j == 13 || j == 15) (by kernel_rfl) ?_
      have hE2 : Hid (w2.drew.heap[b]? = some (.cells #[.string x.key, .int .i64 x.no] 65 (0, 0))) := hE
      have hY2 : Hid (w2.drew.heap[y]? = some (.cells #[uk, ur, .slice none 0 0] 113 (0, 0))) := hY
      replace ok : Hid (w2.drew.ownsRow w.heap.size 9 1 uk k sk) := own_drewN ok.out 1
      replace or_ : Hid (w2.drew.ownsRow w.heap.size 3 1 ur k ik) := own_drewN or_.out 1
      replace hx := hid (hx.out.drew_right)
      generalize w2.drew = W0 at *
      clear hE hY
      have hfy : Hid (ob uk y + ob ur y = 0) := by have := dis.out y; rw [one_self] at this; unfold Hid; omega
      have hfb : Hid (ob uk b + ob ur b = 0) := by have := hb.out.1; have := hb.out.2.1; unfold Hid; omega
      have hlS : Hid (∀ W, FR (fun a => ob uk a + ob ur a) W0 W → W.heap[y]? = some (.cells #[uk, ur, .slice none 0 0] 113 (0, 0)) ∧ (fun w' : World => w'.cell? ⟨b, 0, none⟩ = some (.string x.key) ∧ w'.cell? ⟨b, 1, none⟩ = some (.int .i64 x.no)) W ∧ (fun w' : World => w'.cell? ⟨y, 0, none⟩ = some uk ∧ w'.cell? ⟨y, 1, none⟩ = some ur) W) := fun W hF => by
        have q1 := (hF.2.2.2.2 y (Array.getElem?_eq_some_iff.1 hY2.out).1 hfy.out).trans hY2.out
        have q2 := (hF.2.2.2.2 b (Array.getElem?_eq_some_iff.1 hE2.out).1 hfb.out).trans hE2.out
        exact ⟨q1, ⟨by rw [Lib.cell_of_heap q2]; rfl, by rw [Lib.cell_of_heap q2]; rfl⟩, ⟨(nd3_c q1).1, (nd3_c q1).2.1⟩⟩
      have hT0 : Hid (Two (fun a => ob uk a + ob ur a) W0 W0 w.heap.size 9 3 1 1 uk ur k k sk ik) := ⟨ok.out, or_.out, fun a => by have := dis.out a; omega, fun _ _ => Nat.le_refl _, FR.of_ext (Ext.refl _)⟩
      have hS : Hid ((fun w' : World => w'.cell? ⟨b, 0, none⟩ = some (.string x.key) ∧ w'.cell? ⟨b, 1, none⟩ = some (.int .i64 x.no)) W0 ∧ (fun w' : World => w'.cell? ⟨y, 0, none⟩ = some uk ∧ w'.cell? ⟨y, 1, none⟩ = some ur) W0) := (hlS.out W0 hT0.out.fr).2
      have hwb : Hid (∀ W, FR (fun a => ob uk a + ob ur a) W0 W → w.heap.size ≤ W.heap.size) := fun W hF => Nat.le_trans hx.out.size hF.2.2.2.1
      have hkk : k ≤ 1000000 := by omega
      refine X_take0 0 (v := ?vc0) rfl (by kernel_rfl) (by kernel_rfl) (by kernel_rfl) (by kernel_rfl) (fun _ _ _ h => h) (Or.inl ⟨by rfl, ?yc0⟩) ⟨hS.out.1, fun _ => hS.out.2⟩ ?rc0
      case yc0 => (intro w h; obtain ⟨_, _⟩ := h; go_simp; with_reducible rfl)
      simp only [Act.put, lyA, lyB, lyC, lyD, lyE, lyF]
      refine X_take0 2 (v := ?vc2) rfl (by kernel_rfl) (by kernel_rfl) (by kernel_rfl) (by kernel_rfl) (fun _ _ _ h => h) (Or.inl ⟨by rfl, ?yc2⟩) ⟨hS.out.1, fun _ => hS.out.2⟩ ?rc2
      case yc2 => (intro w h; obtain ⟨_, _⟩ := h; go_simp; with_reducible rfl)
      simp only [Act.put, lyA, lyB, lyC, lyD, lyE, lyF]
      refine X_take0 3 (v := ?vc3) rfl (by kernel_rfl) (by kernel_rfl) (by kernel_rfl) (by kernel_rfl) (fun _ _ _ h => h) (Or.inl ⟨by rfl, ?yc3⟩) ⟨hS.out.1, fun _ => hS.out.2⟩ ?rc3
      case yc3 => (intro w h; obtain ⟨_, _⟩ := h; go_simp; with_reducible rfl)
      simp only [Act.put, lyA, lyB, lyC, lyD, lyE, lyF]
      refine X_take0 6 (v := ?vc6) rfl (by kernel_rfl) (by kernel_rfl) (by kernel_rfl) (by kernel_rfl) (fun _ _ _ h => h) (Or.inl ⟨by rfl, ?yc6⟩) ⟨hS.out.1, fun _ => hS.out.2⟩ ?rc6
      case yc6 => (intro w h; obtain ⟨_, _⟩ := h; go_simp; with_reducible rfl)
      simp only [Act.put, lyA, lyB, lyC, lyD, lyE, lyF]
      refine X_take0 8 (v := ?vc8) rfl (by kernel_rfl) (by kernel_rfl) (by kernel_rfl) (by kernel_rfl) (fun _ _ _ h => h) (Or.inl ⟨by rfl, ?yc8⟩) ⟨hS.out.1, fun _ => hS.out.2⟩ ?rc8
      case yc8 => (intro w h; obtain ⟨_, _⟩ := h; go_simp; with_reducible rfl)
      simp only [Act.put, lyA, lyB, lyC, lyD, lyE, lyF]
      refine X_take0 9 (v := ?vc9) rfl (by kernel_rfl) (by kernel_rfl) (by kernel_rfl) (by kernel_rfl) (fun _ _ _ h => h) (Or.inl ⟨by rfl, ?yc9⟩) ⟨hS.out.1, fun _ => hS.out.2⟩ ?rc9
      case yc9 => (intro w h; obtain ⟨_, _⟩ := h; go_simp; with_reducible rfl)
      simp only [Act.put, lyA, lyB, lyC, lyD, lyE, lyF]
      refine X_take1 1 (v := ?vc1) rfl (by kernel_rfl) (by kernel_rfl) (by kernel_rfl) (by kernel_rfl) (by kernel_rfl) (by kernel_rfl) (fun _ _ _ h => h) (Or.inl ⟨by rfl, ?yc1⟩) ⟨hS.out.1, fun _ => hS.out.2⟩ ?rc1
      case yc1 => (intro w hSw; obtain ⟨⟨_, _⟩, _, _⟩ := hSw; (go_simp; with_reducible rfl))
      simp only [Act.put, lyA, lyB, lyC, lyD, lyE, lyF]
      refine X_take1 7 (v := ?vc7) rfl (by kernel_rfl) (by kernel_rfl) (by kernel_rfl) (by kernel_rfl) (by kernel_rfl) (by kernel_rfl) (fun _ _ _ h => h) (Or.inl ⟨by rfl, ?yc7⟩) ⟨hS.out.1, fun _ => hS.out.2⟩ ?rc7
      case yc7 => (intro w hSw; obtain ⟨⟨_, _⟩, _, _⟩ := hSw; (go_simp; with_reducible rfl))
      simp only [Act.put, lyA, lyB, lyC, lyD, lyE, lyF]
      refine X_two 4 10 rfl rfl (by kernel_rfl) (fun K hK => ?_) (fun K hK => ?_)
      · go_simp
        have hTa := hid (hT0.out.ext ((Ext.refl W0).alloc_right (.cells #[.string x.key] 9)))
        have news_qk : Hid (∀ (j : Nat) u, [.string x.key][j]? = some u → (W0.alloc (.cells #[.string x.key] 9)).cell? ((⟨W0.heap.size, 0, none⟩ : Addr).add j) = some u) := World.news_of_block (heap_alloc_new W0 _)
        have ob_qk := hid (hT0.out.ob0 (Nat.le_refl W0.heap.size))
        refine hK _ _ ⟨⟨(hlS.out _ hTa.out.fr).2.1, fun _ => (hlS.out _ hTa.out.fr).2.2⟩, ?_⟩
        clear hK K
        try simp only [Act.put, lyA, lyB, lyC, lyD, lyE, lyF]
        generalize W0.heap.size = qk at *
        generalize (W0.alloc (.cells #[.string x.key] 9)) = Wa at *
        refine X_two 5 10 rfl rfl (by kernel_rfl) (fun K hK => ?_) (fun K hK => ?_)
        · refine step_append_lies _ rfl _ _ 38 rfl w.heap.size 9 iS _ 1 16 Tryz.underlying38 s0 s1 s2 s3 rfl (by decide) uk k sk (by simp [Act.eval, Act.put]) hTa.out.hk ⟨qk, 0, none⟩ 1 1 [.string x.key] (by simp [Act.eval, Act.put]) rfl news_qk.out (by simp [Value.oneCell']) (by decide) (by unfold maxLen; omega) (by omega) (hwb.out _ hTa.out.fr) Wa.heap.size rfl ?_
          intro g5 c5 Wb own5 hgr hat _
          have hv5 : (Value.slice (some ⟨g5, 0, none⟩) (k + 1) c5).ownBlock = uk.ownBlock ∨ ∀ k', (Value.slice (some ⟨g5, 0, none⟩) (k + 1) c5).ownBlock = some k' → Wa.heap.size ≤ k' := by
            rcases hat with h9 | h9
            · left; rw [h9]; rfl
            · right; intro k' hk'; have h8 : g5 = k' := by simpa [Value.ownBlock] using hk'
              omega
          have hTb := hid (hTa.out.push hgr own5 hv5)
          clear hgr hat own5 hv5
          refine hK _ _ ⟨⟨(hlS.out _ hTb.out.fr).2.1, fun _ => (hlS.out _ hTb.out.fr).2.2⟩, ?_⟩
          clear hK K
          try simp only [Act.put, lyA, lyB, lyC, lyD, lyE, lyF]
          refine X_take0 12 (v := ?ve112) rfl (by kernel_rfl) (by kernel_rfl) (by kernel_rfl) (by kernel_rfl) (fun _ _ _ h => h) (Or.inl ⟨by rfl, ?ye112⟩) ⟨(hlS.out _ hTb.out.fr).2.1, fun _ => (hlS.out _ hTb.out.fr).2.2⟩ ?re112
          case ye112 => (intro w h; obtain ⟨_, _⟩ := h; go_simp; with_reducible rfl)
          simp only [Act.put, lyA, lyB, lyC, lyD, lyE, lyF]
          refine X_one 10 rfl (by kernel_rfl) (fun K hK => ?_)
          go_simp
          have hTc := hid (hTb.out.ext ((Ext.refl Wb).alloc_right (.cells #[.int .i64 x.no] 3)))
          have news_qr : Hid (∀ (j : Nat) u, [.int .i64 x.no][j]? = some u → (Wb.alloc (.cells #[.int .i64 x.no] 3)).cell? ((⟨Wb.heap.size, 0, none⟩ : Addr).add j) = some u) := World.news_of_block (heap_alloc_new Wb _)
          have ob_qr := hid (hTb.out.ob0 (Nat.le_refl Wb.heap.size))
          refine hK _ _ ⟨⟨(hlS.out _ hTc.out.fr).2.1, fun _ => (hlS.out _ hTc.out.fr).2.2⟩, ?_⟩
          clear hK K
          try simp only [Act.put, lyA, lyB, lyC, lyD, lyE, lyF]
          generalize Wb.heap.size = qr at *
          generalize (Wb.alloc (.cells #[.int .i64 x.no] 3)) = Wc at *
          refine X_one 11 rfl (by kernel_rfl) (fun K hK => ?_)
          refine step_append_lies _ rfl _ _ 23 rfl w.heap.size 3 iI _ 1 8 Tryz.underlying23 t0 t1 t2 t3 rfl (by decide) ur k ik (by simp [Act.eval, Act.put]) hTc.out.hr ⟨qr, 0, none⟩ 1 1 [.int .i64 x.no] (by simp [Act.eval, Act.put]) rfl news_qr.out (by simp [Value.oneCell']) (by decide) (by unfold maxLen; omega) (by omega) (hwb.out _ hTc.out.fr) Wc.heap.size rfl ?_
          intro g11 c11 Wd own11 hgr hat _
          have hv11 : (Value.slice (some ⟨g11, 0, none⟩) (k + 1) c11).ownBlock = ur.ownBlock ∨ ∀ k', (Value.slice (some ⟨g11, 0, none⟩) (k + 1) c11).ownBlock = some k' → Wc.heap.size ≤ k' := by
            rcases hat with h9 | h9
            · left; rw [h9]; rfl
            · right; intro k' hk'; have h8 : g11 = k' := by simpa [Value.ownBlock] using hk'
              omega
          have hTd := hid (hTc.out.swap.push hgr own11 hv11).swap
          clear hgr hat own11 hv11
          refine hK _ _ ⟨⟨(hlS.out _ hTd.out.fr).2.1, fun _ => (hlS.out _ hTd.out.fr).2.2⟩, ?_⟩
          clear hK K
          try simp only [Act.put, lyA, lyB, lyC, lyD, lyE, lyF]
          obtain ⟨yY, yS0, -⟩ := hlS.out Wd hTd.out.fr
          have yf := Lib.frozen_of_heap yY
          have ⟨yc0, yc1, _⟩ := nd3_c yY
          have hyW := (Array.getElem?_eq_some_iff.1 yY).1
          have hyk : ob (.slice (some ⟨g5, 0, none⟩) (k + 1) c5) y = 0 := by
            have h9 := hTd.out.le y (Array.getElem?_eq_some_iff.1 hY2.out).1
            have := hfy.out
            have h8 : ob (.slice (some ⟨g5, 0, none⟩) (k + 1) c5) y + ob (.slice (some ⟨g11, 0, none⟩) (k + 1) c11) y ≤ ob uk y + ob ur y := h9
            omega
          have hyr : ob (.slice (some ⟨g11, 0, none⟩) (k + 1) c11) y = 0 := by
            have h9 := hTd.out.le y (Array.getElem?_eq_some_iff.1 hY2.out).1
            have := hfy.out
            have h8 : ob (.slice (some ⟨g5, 0, none⟩) (k + 1) c5) y + ob (.slice (some ⟨g11, 0, none⟩) (k + 1) c11) y ≤ ob uk y + ob ur y := h9
            omega
          have hfin1 : Hid (((Wd.setCell ⟨y, 0, none⟩ (.slice (some ⟨g5, 0, none⟩) (k + 1) c5)).setCell ⟨y, 1, none⟩ (.slice (some ⟨g11, 0, none⟩) (k + 1) c11)).heap[y]? = some (.cells #[(.slice (some ⟨g5, 0, none⟩) (k + 1) c5), (.slice (some ⟨g11, 0, none⟩) (k + 1) c11), .slice none 0 0] 113 (0, 0))) := nd3_set1 (nd3_set0 yY _) _
          have hfin2 : Hid (((Wd.setCell ⟨y, 0, none⟩ (.slice (some ⟨g5, 0, none⟩) (k + 1) c5)).setCell ⟨y, 1, none⟩ (.slice (some ⟨g11, 0, none⟩) (k + 1) c11)).ownsRow w.heap.size 9 1 (.slice (some ⟨g5, 0, none⟩) (k + 1) c5) (k + 1) (strv ((l.take (k + 1)).map Te.key))) := by
            unfold Hid
            rw [hst.out]
            exact own_set (own_set hTd.out.hk (ob_zero hyk) _ _) (ob_zero hyk) _ _
          have hfin3 : Hid (((Wd.setCell ⟨y, 0, none⟩ (.slice (some ⟨g5, 0, none⟩) (k + 1) c5)).setCell ⟨y, 1, none⟩ (.slice (some ⟨g11, 0, none⟩) (k + 1) c11)).ownsRow w.heap.size 3 1 (.slice (some ⟨g11, 0, none⟩) (k + 1) c11) (k + 1) (ints ((l.take (k + 1)).map Te.no))) := by
            unfold Hid
            rw [hit.out]
            exact own_set (own_set hTd.out.hr (ob_zero hyr) _ _) (ob_zero hyr) _ _
          have hfin4 : Hid (∀ a, ob (.slice (some ⟨g5, 0, none⟩) (k + 1) c5) a + ob (.slice (some ⟨g11, 0, none⟩) (k + 1) c11) a + one1 y a ≤ 1) := fun a => by
            by_cases e : a = y
            · rw [e, hyk, hyr, one_self]; exact Nat.le_refl _
            · rw [show one1 y a = 0 from if_neg e]; have := hTd.out.dis a; omega
          have hfin5 : Hid (Ext w ((Wd.setCell ⟨y, 0, none⟩ (.slice (some ⟨g5, 0, none⟩) (k + 1) c5)).setCell ⟨y, 1, none⟩ (.slice (some ⟨g11, 0, none⟩) (k + 1) c11))) := by
            refine Ext.set2 (hx.out.trans' hTd.out.fr (fun a ha => ?_)) hyB.out _ _
            have h8 : ob uk a = 0 := if_neg (fun e => by have := own_freshB ok.out _ e; omega)
            have h9 : ob ur a = 0 := if_neg (fun e => by have := own_freshB or_.out _ e; omega)
            show ob uk a + ob ur a = 0
            omega
          have yz0 : (fun w' : World => w'.cell? ⟨b, 0, none⟩ = some (.string x.key) ∧ w'.cell? ⟨b, 1, none⟩ = some (.int .i64 x.no)) (Wd.setCell ⟨y, 0, none⟩ (.slice (some ⟨g5, 0, none⟩) (k + 1) c5)) := ⟨cell_far yS0.1 hb.out.2.2, cell_far yS0.2 hb.out.2.2⟩
          have yz1 : (fun w' : World => w'.cell? ⟨b, 0, none⟩ = some (.string x.key) ∧ w'.cell? ⟨b, 1, none⟩ = some (.int .i64 x.no)) ((Wd.setCell ⟨y, 0, none⟩ (.slice (some ⟨g5, 0, none⟩) (k + 1) c5)).setCell ⟨y, 1, none⟩ (.slice (some ⟨g11, 0, none⟩) (k + 1) c11)) := ⟨cell_far yz0.1 hb.out.2.2, cell_far yz0.2 hb.out.2.2⟩
          have yf0 := yf 0
          have yf1 := yf 1
          refine X_one 13 rfl (by kernel_rfl) (fun K hK => ?_)
          go_simp
          refine hK _ _ ⟨⟨yz0, fun h => absurd h (by decide)⟩, ?_⟩
          clear hK K
          try simp only [Act.put, lyA, lyB, lyC, lyD, lyE, lyF]
          refine X_one 14 rfl (by kernel_rfl) (fun K hK => ?_)
          go_simp
          refine hK _ _ ⟨⟨yz0, fun h => absurd h (by decide)⟩, ?_⟩
          clear hK K
          try simp only [Act.put, lyA, lyB, lyC, lyD, lyE, lyF]
          refine X_one 15 rfl (by kernel_rfl) (fun K hK => ?_)
          go_simp
          refine hK _ _ ⟨⟨yz1, fun h => absurd h (by decide)⟩, ?_⟩
          clear hK K
          try simp only [Act.put, lyA, lyB, lyC, lyD, lyE, lyF]
          refine X_done (by kernel_rfl) (OnlyOn.normal ?_)
          clear yz0 yz1 yf0 yf1 yf yc0 yc1 yY yS0 hyk hyr
          go_wp2_with fail
          go_roundw
          case rel => exact ⟨k + 1, _, _, by omega, by go_num, hfin1, hfin2, hfin3, hfin4, hfin5⟩
          case measure => simp [intOf]; omega
        · go_simp
          have hTb := hid (hTa.out.ext ((Ext.refl Wa).alloc_right (.cells #[.int .i64 x.no] 3)))
          have news_qr : Hid (∀ (j : Nat) u, [.int .i64 x.no][j]? = some u → (Wa.alloc (.cells #[.int .i64 x.no] 3)).cell? ((⟨Wa.heap.size, 0, none⟩ : Addr).add j) = some u) := World.news_of_block (heap_alloc_new Wa _)
          have ob_qr := hid (hTa.out.ob0 (Nat.le_refl Wa.heap.size))
          replace news_qk := hid (news_ext ((Ext.refl Wa).alloc_right (.cells #[.int .i64 x.no] 3)) news_qk.out)
          refine hK _ _ ⟨⟨(hlS.out _ hTb.out.fr).2.1, fun _ => (hlS.out _ hTb.out.fr).2.2⟩, ?_⟩
          clear hK K
          try simp only [Act.put, lyA, lyB, lyC, lyD, lyE, lyF]
          generalize Wa.heap.size = qr at *
          generalize (Wa.alloc (.cells #[.int .i64 x.no] 3)) = Wb at *
          refine X_one 5 rfl (by kernel_rfl) (fun K hK => ?_)
          refine step_append_lies _ rfl _ _ 38 rfl w.heap.size 9 iS _ 1 16 Tryz.underlying38 s0 s1 s2 s3 rfl (by decide) uk k sk (by simp [Act.eval, Act.put]) hTb.out.hk ⟨qk, 0, none⟩ 1 1 [.string x.key] (by simp [Act.eval, Act.put]) rfl news_qk.out (by simp [Value.oneCell']) (by decide) (by unfold maxLen; omega) (by omega) (hwb.out _ hTb.out.fr) Wb.heap.size rfl ?_
          intro g5 c5 Wc own5 hgr hat _
          have hv5 : (Value.slice (some ⟨g5, 0, none⟩) (k + 1) c5).ownBlock = uk.ownBlock ∨ ∀ k', (Value.slice (some ⟨g5, 0, none⟩) (k + 1) c5).ownBlock = some k' → Wb.heap.size ≤ k' := by
            rcases hat with h9 | h9
            · left; rw [h9]; rfl
            · right; intro k' hk'; have h8 : g5 = k' := by simpa [Value.ownBlock] using hk'
              omega
          have hTc := hid (hTb.out.push hgr own5 hv5)
          replace news_qr := hid (news_keep hgr news_qr.out ob_qr.out.1)
          clear hgr hat own5 hv5
          refine hK _ _ ⟨⟨(hlS.out _ hTc.out.fr).2.1, fun _ => (hlS.out _ hTc.out.fr).2.2⟩, ?_⟩
          clear hK K
          try simp only [Act.put, lyA, lyB, lyC, lyD, lyE, lyF]
          refine X_take0 12 (v := ?ve212) rfl (by kernel_rfl) (by kernel_rfl) (by kernel_rfl) (by kernel_rfl) (fun _ _ _ h => h) (Or.inl ⟨by rfl, ?ye212⟩) ⟨(hlS.out _ hTc.out.fr).2.1, fun _ => (hlS.out _ hTc.out.fr).2.2⟩ ?re212
          case ye212 => (intro w h; obtain ⟨_, _⟩ := h; go_simp; with_reducible rfl)
          simp only [Act.put, lyA, lyB, lyC, lyD, lyE, lyF]
          refine X_one 11 rfl (by kernel_rfl) (fun K hK => ?_)
          refine step_append_lies _ rfl _ _ 23 rfl w.heap.size 3 iI _ 1 8 Tryz.underlying23 t0 t1 t2 t3 rfl (by decide) ur k ik (by simp [Act.eval, Act.put]) hTc.out.hr ⟨qr, 0, none⟩ 1 1 [.int .i64 x.no] (by simp [Act.eval, Act.put]) rfl news_qr.out (by simp [Value.oneCell']) (by decide) (by unfold maxLen; omega) (by omega) (hwb.out _ hTc.out.fr) Wc.heap.size rfl ?_
          intro g11 c11 Wd own11 hgr hat _
          have hv11 : (Value.slice (some ⟨g11, 0, none⟩) (k + 1) c11).ownBlock = ur.ownBlock ∨ ∀ k', (Value.slice (some ⟨g11, 0, none⟩) (k + 1) c11).ownBlock = some k' → Wc.heap.size ≤ k' := by
            rcases hat with h9 | h9
            · left; rw [h9]; rfl
            · right; intro k' hk'; have h8 : g11 = k' := by simpa [Value.ownBlock] using hk'
              omega
          have hTd := hid (hTc.out.swap.push hgr own11 hv11).swap
          clear hgr hat own11 hv11
          refine hK _ _ ⟨⟨(hlS.out _ hTd.out.fr).2.1, fun _ => (hlS.out _ hTd.out.fr).2.2⟩, ?_⟩
          clear hK K
          try simp only [Act.put, lyA, lyB, lyC, lyD, lyE, lyF]
          obtain ⟨yY, yS0, -⟩ := hlS.out Wd hTd.out.fr
          have yf := Lib.frozen_of_heap yY
          have ⟨yc0, yc1, _⟩ := nd3_c yY
          have hyW := (Array.getElem?_eq_some_iff.1 yY).1
          have hyk : ob (.slice (some ⟨g5, 0, none⟩) (k + 1) c5) y = 0 := by
            have h9 := hTd.out.le y (Array.getElem?_eq_some_iff.1 hY2.out).1
            have := hfy.out
            have h8 : ob (.slice (some ⟨g5, 0, none⟩) (k + 1) c5) y + ob (.slice (some ⟨g11, 0, none⟩) (k + 1) c11) y ≤ ob uk y + ob ur y := h9
            omega
          have hyr : ob (.slice (some ⟨g11, 0, none⟩) (k + 1) c11) y = 0 := by
            have h9 := hTd.out.le y (Array.getElem?_eq_some_iff.1 hY2.out).1
            have := hfy.out
            have h8 : ob (.slice (some ⟨g5, 0, none⟩) (k + 1) c5) y + ob (.slice (some ⟨g11, 0, none⟩) (k + 1) c11) y ≤ ob uk y + ob ur y := h9
            omega
          have hfin1 : Hid (((Wd.setCell ⟨y, 0, none⟩ (.slice (some ⟨g5, 0, none⟩) (k + 1) c5)).setCell ⟨y, 1, none⟩ (.slice (some ⟨g11, 0, none⟩) (k + 1) c11)).heap[y]? = some (.cells #[(.slice (some ⟨g5, 0, none⟩) (k + 1) c5), (.slice (some ⟨g11, 0, none⟩) (k + 1) c11), .slice none 0 0] 113 (0, 0))) := nd3_set1 (nd3_set0 yY _) _
          have hfin2 : Hid (((Wd.setCell ⟨y, 0, none⟩ (.slice (some ⟨g5, 0, none⟩) (k + 1) c5)).setCell ⟨y, 1, none⟩ (.slice (some ⟨g11, 0, none⟩) (k + 1) c11)).ownsRow w.heap.size 9 1 (.slice (some ⟨g5, 0, none⟩) (k + 1) c5) (k + 1) (strv ((l.take (k + 1)).map Te.key))) := by
            unfold Hid
            rw [hst.out]
            exact own_set (own_set hTd.out.hk (ob_zero hyk) _ _) (ob_zero hyk) _ _
          have hfin3 : Hid (((Wd.setCell ⟨y, 0, none⟩ (.slice (some ⟨g5, 0, none⟩) (k + 1) c5)).setCell ⟨y, 1, none⟩ (.slice (some ⟨g11, 0, none⟩) (k + 1) c11)).ownsRow w.heap.size 3 1 (.slice (some ⟨g11, 0, none⟩) (k + 1) c11) (k + 1) (ints ((l.take (k + 1)).map Te.no))) := by
            unfold Hid
            rw [hit.out]
            exact own_set (own_set hTd.out.hr (ob_zero hyr) _ _) (ob_zero hyr) _ _
          have hfin4 : Hid (∀ a, ob (.slice (some ⟨g5, 0, none⟩) (k + 1) c5) a + ob (.slice (some ⟨g11, 0, none⟩) (k + 1) c11) a + one1 y a ≤ 1) := fun a => by
            by_cases e : a = y
            · rw [e, hyk, hyr, one_self]; exact Nat.le_refl _
            · rw [show one1 y a = 0 from if_neg e]; have := hTd.out.dis a; omega
          have hfin5 : Hid (Ext w ((Wd.setCell ⟨y, 0, none⟩ (.slice (some ⟨g5, 0, none⟩) (k + 1) c5)).setCell ⟨y, 1, none⟩ (.slice (some ⟨g11, 0, none⟩) (k + 1) c11))) := by
            refine Ext.set2 (hx.out.trans' hTd.out.fr (fun a ha => ?_)) hyB.out _ _
            have h8 : ob uk a = 0 := if_neg (fun e => by have := own_freshB ok.out _ e; omega)
            have h9 : ob ur a = 0 := if_neg (fun e => by have := own_freshB or_.out _ e; omega)
            show ob uk a + ob ur a = 0
            omega
          have yz0 : (fun w' : World => w'.cell? ⟨b, 0, none⟩ = some (.string x.key) ∧ w'.cell? ⟨b, 1, none⟩ = some (.int .i64 x.no)) (Wd.setCell ⟨y, 0, none⟩ (.slice (some ⟨g5, 0, none⟩) (k + 1) c5)) := ⟨cell_far yS0.1 hb.out.2.2, cell_far yS0.2 hb.out.2.2⟩
          have yz1 : (fun w' : World => w'.cell? ⟨b, 0, none⟩ = some (.string x.key) ∧ w'.cell? ⟨b, 1, none⟩ = some (.int .i64 x.no)) ((Wd.setCell ⟨y, 0, none⟩ (.slice (some ⟨g5, 0, none⟩) (k + 1) c5)).setCell ⟨y, 1, none⟩ (.slice (some ⟨g11, 0, none⟩) (k + 1) c11)) := ⟨cell_far yz0.1 hb.out.2.2, cell_far yz0.2 hb.out.2.2⟩
          have yf0 := yf 0
          have yf1 := yf 1
          refine X_one 13 rfl (by kernel_rfl) (fun K hK => ?_)
          go_simp
          refine hK _ _ ⟨⟨yz0, fun h => absurd h (by decide)⟩, ?_⟩
          clear hK K
          try simp only [Act.put, lyA, lyB, lyC, lyD, lyE, lyF]
          refine X_one 14 rfl (by kernel_rfl) (fun K hK => ?_)
          go_simp
          refine hK _ _ ⟨⟨yz0, fun h => absurd h (by decide)⟩, ?_⟩
          clear hK K
          try simp only [Act.put, lyA, lyB, lyC, lyD, lyE, lyF]
          refine X_one 15 rfl (by kernel_rfl) (fun K hK => ?_)
          go_simp
          refine hK _ _ ⟨⟨yz1, fun h => absurd h (by decide)⟩, ?_⟩
          clear hK K
          try simp only [Act.put, lyA, lyB, lyC, lyD, lyE, lyF]
          refine X_done (by kernel_rfl) (OnlyOn.normal ?_)
          clear yz0 yz1 yf0 yf1 yf yc0 yc1 yY yS0 hyk hyr
          go_wp2_with fail
          go_roundw
          case rel => exact ⟨k + 1, _, _, by omega, by go_num, hfin1, hfin2, hfin3, hfin4, hfin5⟩
          case measure => simp [intOf]; omega
      · go_simp
        have hTa := hid (hT0.out.ext ((Ext.refl W0).alloc_right (.cells #[.int .i64 x.no] 3)))
        have news_qr : Hid (∀ (j : Nat) u, [.int .i64 x.no][j]? = some u → (W0.alloc (.cells #[.int .i64 x.no] 3)).cell? ((⟨W0.heap.size, 0, none⟩ : Addr).add j) = some u) := World.news_of_block (heap_alloc_new W0 _)
        have ob_qr := hid (hT0.out.ob0 (Nat.le_refl W0.heap.size))
        refine hK _ _ ⟨⟨(hlS.out _ hTa.out.fr).2.1, fun _ => (hlS.out _ hTa.out.fr).2.2⟩, ?_⟩
        clear hK K
        try simp only [Act.put, lyA, lyB, lyC, lyD, lyE, lyF]
        generalize W0.heap.size = qr at *
        generalize (W0.alloc (.cells #[.int .i64 x.no] 3)) = Wa at *
        refine X_one 4 rfl (by kernel_rfl) (fun K hK => ?_)
        go_simp
        have hTb := hid (hTa.out.ext ((Ext.refl Wa).alloc_right (.cells #[.string x.key] 9)))
        have news_qk : Hid (∀ (j : Nat) u, [.string x.key][j]? = some u → (Wa.alloc (.cells #[.string x.key] 9)).cell? ((⟨Wa.heap.size, 0, none⟩ : Addr).add j) = some u) := World.news_of_block (heap_alloc_new Wa _)
        have ob_qk := hid (hTa.out.ob0 (Nat.le_refl Wa.heap.size))
        replace news_qr := hid (news_ext ((Ext.refl Wa).alloc_right (.cells #[.string x.key] 9)) news_qr.out)
        refine hK _ _ ⟨⟨(hlS.out _ hTb.out.fr).2.1, fun _ => (hlS.out _ hTb.out.fr).2.2⟩, ?_⟩
        clear hK K
        try simp only [Act.put, lyA, lyB, lyC, lyD, lyE, lyF]
        generalize Wa.heap.size = qk at *
        generalize (Wa.alloc (.cells #[.string x.key] 9)) = Wb at *
        refine X_one 5 rfl (by kernel_rfl) (fun K hK => ?_)
        refine step_append_lies _ rfl _ _ 38 rfl w.heap.size 9 iS _ 1 16 Tryz.underlying38 s0 s1 s2 s3 rfl (by decide) uk k sk (by simp [Act.eval, Act.put]) hTb.out.hk ⟨qk, 0, none⟩ 1 1 [.string x.key] (by simp [Act.eval, Act.put]) rfl news_qk.out (by simp [Value.oneCell']) (by decide) (by unfold maxLen; omega) (by omega) (hwb.out _ hTb.out.fr) Wb.heap.size rfl ?_
        intro g5 c5 Wc own5 hgr hat _
        have hv5 : (Value.slice (some ⟨g5, 0, none⟩) (k + 1) c5).ownBlock = uk.ownBlock ∨ ∀ k', (Value.slice (some ⟨g5, 0, none⟩) (k + 1) c5).ownBlock = some k' → Wb.heap.size ≤ k' := by
          rcases hat with h9 | h9
          · left; rw [h9]; rfl
          · right; intro k' hk'; have h8 : g5 = k' := by simpa [Value.ownBlock] using hk'
            omega
        have hTc := hid (hTb.out.push hgr own5 hv5)
        replace news_qr := hid (news_keep hgr news_qr.out ob_qr.out.1)
        clear hgr hat own5 hv5
        refine hK _ _ ⟨⟨(hlS.out _ hTc.out.fr).2.1, fun _ => (hlS.out _ hTc.out.fr).2.2⟩, ?_⟩
        clear hK K
        try simp only [Act.put, lyA, lyB, lyC, lyD, lyE, lyF]
        refine X_take0 12 (v := ?ve312) rfl (by kernel_rfl) (by kernel_rfl) (by kernel_rfl) (by kernel_rfl) (fun _ _ _ h => h) (Or.inl ⟨by rfl, ?ye312⟩) ⟨(hlS.out _ hTc.out.fr).2.1, fun _ => (hlS.out _ hTc.out.fr).2.2⟩ ?re312
        case ye312 => (intro w h; obtain ⟨_, _⟩ := h; go_simp; with_reducible rfl)
        simp only [Act.put, lyA, lyB, lyC, lyD, lyE, lyF]
        refine X_one 11 rfl (by kernel_rfl) (fun K hK => ?_)
        refine step_append_lies _ rfl _ _ 23 rfl w.heap.size 3 iI _ 1 8 Tryz.underlying23 t0 t1 t2 t3 rfl (by decide) ur k ik (by simp [Act.eval, Act.put]) hTc.out.hr ⟨qr, 0, none⟩ 1 1 [.int .i64 x.no] (by simp [Act.eval, Act.put]) rfl news_qr.out (by simp [Value.oneCell']) (by decide) (by unfold maxLen; omega) (by omega) (hwb.out _ hTc.out.fr) Wc.heap.size rfl ?_
        intro g11 c11 Wd own11 hgr hat _
        have hv11 : (Value.slice (some ⟨g11, 0, none⟩) (k + 1) c11).ownBlock = ur.ownBlock ∨ ∀ k', (Value.slice (some ⟨g11, 0, none⟩) (k + 1) c11).ownBlock = some k' → Wc.heap.size ≤ k' := by
          rcases hat with h9 | h9
          · left; rw [h9]; rfl
          · right; intro k' hk'; have h8 : g11 = k' := by simpa [Value.ownBlock] using hk'
            omega
        have hTd := hid (hTc.out.swap.push hgr own11 hv11).swap
        clear hgr hat own11 hv11
        refine hK _ _ ⟨⟨(hlS.out _ hTd.out.fr).2.1, fun _ => (hlS.out _ hTd.out.fr).2.2⟩, ?_⟩
        clear hK K
        try simp only [Act.put, lyA, lyB, lyC, lyD, lyE, lyF]
        obtain ⟨yY, yS0, -⟩ := hlS.out Wd hTd.out.fr
        have yf := Lib.frozen_of_heap yY
        have ⟨yc0, yc1, _⟩ := nd3_c yY
        have hyW := (Array.getElem?_eq_some_iff.1 yY).1
        have hyk : ob (.slice (some ⟨g5, 0, none⟩) (k + 1) c5) y = 0 := by
          have h9 := hTd.out.le y (Array.getElem?_eq_some_iff.1 hY2.out).1
          have := hfy.out
          have h8 : ob (.slice (some ⟨g5, 0, none⟩) (k + 1) c5) y + ob (.slice (some ⟨g11, 0, none⟩) (k + 1) c11) y ≤ ob uk y + ob ur y := h9
          omega
        have hyr : ob (.slice (some ⟨g11, 0, none⟩) (k + 1) c11) y = 0 := by
          have h9 := hTd.out.le y (Array.getElem?_eq_some_iff.1 hY2.out).1
          have := hfy.out
          have h8 : ob (.slice (some ⟨g5, 0, none⟩) (k + 1) c5) y + ob (.slice (some ⟨g11, 0, none⟩) (k + 1) c11) y ≤ ob uk y + ob ur y := h9
          omega
        have hfin1 : Hid (((Wd.setCell ⟨y, 0, none⟩ (.slice (some ⟨g5, 0, none⟩) (k + 1) c5)).setCell ⟨y, 1, none⟩ (.slice (some ⟨g11, 0, none⟩) (k + 1) c11)).heap[y]? = some (.cells #[(.slice (some ⟨g5, 0, none⟩) (k + 1) c5), (.slice (some ⟨g11, 0, none⟩) (k + 1) c11), .slice none 0 0] 113 (0, 0))) := nd3_set1 (nd3_set0 yY _) _
        have hfin2 : Hid (((Wd.setCell ⟨y, 0, none⟩ (.slice (some ⟨g5, 0, none⟩) (k + 1) c5)).setCell ⟨y, 1, none⟩ (.slice (some ⟨g11, 0, none⟩) (k + 1) c11)).ownsRow w.heap.size 9 1 (.slice (some ⟨g5, 0, none⟩) (k + 1) c5) (k + 1) (strv ((l.take (k + 1)).map Te.key))) := by
          unfold Hid
          rw [hst.out]
          exact own_set (own_set hTd.out.hk (ob_zero hyk) _ _) (ob_zero hyk) _ _
        have hfin3 : Hid (((Wd.setCell ⟨y, 0, none⟩ (.slice (some ⟨g5, 0, none⟩) (k + 1) c5)).setCell ⟨y, 1, none⟩ (.slice (some ⟨g11, 0, none⟩) (k + 1) c11)).ownsRow w.heap.size 3 1 (.slice (some ⟨g11, 0, none⟩) (k + 1) c11) (k + 1) (ints ((l.take (k + 1)).map Te.no))) := by
          unfold Hid
          rw [hit.out]
          exact own_set (own_set hTd.out.hr (ob_zero hyr) _ _) (ob_zero hyr) _ _
        have hfin4 : Hid (∀ a, ob (.slice (some ⟨g5, 0, none⟩) (k + 1) c5) a + ob (.slice (some ⟨g11, 0, none⟩) (k + 1) c11) a + one1 y a ≤ 1) := fun a => by
          by_cases e : a = y
          · rw [e, hyk, hyr, one_self]; exact Nat.le_refl _
          · rw [show one1 y a = 0 from if_neg e]; have := hTd.out.dis a; omega
        have hfin5 : Hid (Ext w ((Wd.setCell ⟨y, 0, none⟩ (.slice (some ⟨g5, 0, none⟩) (k + 1) c5)).setCell ⟨y, 1, none⟩ (.slice (some ⟨g11, 0, none⟩) (k + 1) c11))) := by
          refine Ext.set2 (hx.out.trans' hTd.out.fr (fun a ha => ?_)) hyB.out _ _
          have h8 : ob uk a = 0 := if_neg (fun e => by have := own_freshB ok.out _ e; omega)
          have h9 : ob ur a = 0 := if_neg (fun e => by have := own_freshB or_.out _ e; omega)
          show ob uk a + ob ur a = 0
          omega
        have yz0 : (fun w' : World => w'.cell? ⟨b, 0, none⟩ = some (.string x.key) ∧ w'.cell? ⟨b, 1, none⟩ = some (.int .i64 x.no)) (Wd.setCell ⟨y, 0, none⟩ (.slice (some ⟨g5, 0, none⟩) (k + 1) c5)) := ⟨cell_far yS0.1 hb.out.2.2, cell_far yS0.2 hb.out.2.2⟩
        have yz1 : (fun w' : World => w'.cell? ⟨b, 0, none⟩ = some (.string x.key) ∧ w'.cell? ⟨b, 1, none⟩ = some (.int .i64 x.no)) ((Wd.setCell ⟨y, 0, none⟩ (.slice (some ⟨g5, 0, none⟩) (k + 1) c5)).setCell ⟨y, 1, none⟩ (.slice (some ⟨g11, 0, none⟩) (k + 1) c11)) := ⟨cell_far yz0.1 hb.out.2.2, cell_far yz0.2 hb.out.2.2⟩
        have yf0 := yf 0
        have yf1 := yf 1
        refine X_one 13 rfl (by kernel_rfl) (fun K hK => ?_)
        go_simp
        refine hK _ _ ⟨⟨yz0, fun h => absurd h (by decide)⟩, ?_⟩
        clear hK K
        try simp only [Act.put, lyA, lyB, lyC, lyD, lyE, lyF]
        refine X_one 14 rfl (by kernel_rfl) (fun K hK => ?_)
        go_simp
        refine hK _ _ ⟨⟨yz0, fun h => absurd h (by decide)⟩, ?_⟩
        clear hK K
        try simp only [Act.put, lyA, lyB, lyC, lyD, lyE, lyF]
        refine X_one 15 rfl (by kernel_rfl) (fun K hK => ?_)
        go_simp
        refine hK _ _ ⟨⟨yz1, fun h => absurd h (by decide)⟩, ?_⟩
        clear hK K
        try simp only [Act.put, lyA, lyB, lyC, lyD, lyE, lyF]
        refine X_done (by kernel_rfl) (OnlyOn.normal ?_)
        clear yz0 yz1 yf0 yf1 yf yc0 yc1 yY yS0 hyk hyr
        go_wp2_with fail
        go_roundw
        case rel => exact ⟨k + 1, _, _, by omega, by go_num, hfin1, hfin2, hfin3, hfin4, hfin5⟩
        case measure => simp [intOf]; omega
    · obtain rfl : k = l.length := by omega
      rw [List.take_length] at ok or_
      have hNR : Hid (NR wr w.heap.size ⟨uk, ur, .slice none 0 0⟩ ⟨l.map Te.key, l.map Te.no, []⟩ (fun a => ob uk a + ob ur a)) := ⟨by rw [List.length_map]; exact ok.out, by rw [List.length_map]; exact or_.out, World.ownsRow_nil _ _ _ _, fun a => by show ob uk a + ob ur a = ob uk a + ob ur a + ob (.slice none 0 0) a; rw [hnil.out a]; rfl⟩
      have hov := hid (hownx.out wr hx.out)
      have hwz := hx.out.size
      obtain ⟨-, zk1, -, -⟩ := hxr.out wr hx.out
      have lzk := World.block_lt_of_cell? _ _ zk1
      dsimp only at lzk
      obtain ⟨yc0, yc1, yc2⟩ := nd3_c hY.out
      have lyc := World.block_lt_of_cell? _ _ yc0
      dsimp only at lyc
      obtain ⟨A1, c1, rfl, -⟩ := own_form ok.out
      obtain ⟨A2, c2, rfl, -⟩ := own_form or_.out
      have hwBr : B ≤ wr.heap.size := Nat.le_trans hB.out hwz
      go_wp2_with (at_builtin; refine wpList_push _ rfl _ _ 80 rfl B 113 iN _ 3 72 Tryz.underlying80 n0 n1 n2 n3 rfl (by decide) _ _ _ rfl hov.out [.slice A1 l.length c1, .slice A2 l.length c2, .slice none 0 0] (by simp [Act.eval]) rfl (by simp [Value.oneCell']) (by unfold maxLen; omega) (by omega) hwBr ?_)
      intro g2 d2 w3 own2 hg2 hat
      have hL1 : Hid (LI (fun a => ob (.slice Av xs.length cv) a + g a) w w3 B (.slice (some ⟨g2, 0, none⟩) (xs.length + 1) d2) (xs ++ [⟨l.map Te.key, l.map Te.no, []⟩])) := hLB.out wr w3 _ _ _ _ hx.out hNR.out hB.out (fun a => by have := dis.out a; omega) hg2 own2 (at_own hat (by omega) _ _)
      clear own2 hg2 hat hNR hov ok or_ dis hx hY yc0 yc1 yc2 lyc zk1 lzk hwBr hwz hY0 hx1 zl0 hLB hxr hr
      have hfr3 := hid (by obtain ⟨vs9, g9, h9⟩ := hL1.out; exact h9.fr : Hid (FR (fun a => ob (.slice Av xs.length cv) a + g a) w w3))
      obtain ⟨-, zk3, -, -⟩ := hin.out w3 hfr3.out.out
      have lzk3 := World.block_lt_of_cell? _ _ zk3
      dsimp only at lzk3
      replace hL1 : Hid (LI (fun a => ob (.slice Av xs.length cv) a + g a) w w3 B (.slice (some ⟨g2, 0, none⟩) (xs.length + 1) d2) (xs ++ ⟨l.map Te.key, l.map Te.no, kno F (ks.take 0) (xs.length + 1)⟩ :: kls F (ks.take 0) (xs.length + 1))) := hL1
      clear hfr3
      go_wp2_with fail
      go_loopw [1, 48] (fun o i wr => ∃ k : Nat, k ≤ ps.length ∧ i = .int .i64 k ∧ Hid (LI (fun a => ob (.slice Av xs.length cv) a + g a) w wr B o (xs ++ ⟨l.map Te.key, l.map Te.no, kno F (ks.take k) (xs.length + 1)⟩ :: kls F (ks.take k) (xs.length + 1)))) (fun _ i _ => ps.length - (intOf i).toNat)
      case atStart => exact ⟨0, by omega, rfl, hL1⟩
      case round =>
        obtain ⟨k, hk, rfl, hL⟩ := hrel
        by_cases hlt : k < ps.length
        · obtain ⟨vs9, g9, h9⟩ := hL.out
          obtain ⟨Ao, co, rfl, -⟩ := own_form h9.own
          obtain ⟨-, -, -, hkr9⟩ := hin.out wr h9.fr
          obtain ⟨q, K, hq, hK, hC⟩ := hkid.out k wr _ _ vs9 g9 hlt h9 (fun K hK => by
            have h8 := hbd.out k K hK
            rw [show (xs ++ ⟨l.map Te.key, l.map Te.no, kno F (ks.take k) (xs.length + 1)⟩ :: kls F (ks.take k) (xs.length + 1)).length = xs.length + 1 + (kls F (ks.take k) (xs.length + 1)).length by simp; omega]
            exact h8)
          obtain ⟨kad, rfl, -⟩ := hkr9.2.2.2 (by omega)
          have cq := rd_ptr hkr9 hq
          have hC' := hid hC
          have hst := hid (xs_snoc (F := F) (l := l) (xs := xs) hK)
          have h9' := hid h9
          have hb9 := hbd.out k K hK
          have hkb9 : (kls F (ks.take k) (xs.length + 1)).length ≤ 1000000 := by omega
          have hkn9 : (kno F (ks.take k) (xs.length + 1)).length ≤ 1000000 := by
            rw [kno_len, List.length_take]
            have := hpk.out
            have := hkl'.out
            omega
          have hki : (k : Int) < (ps.length : Int) := by omega
          clear hC hkr9 hq hK h9 hL hb9
          generalize hnn : (xs ++ ⟨l.map Te.key, l.map Te.no, kno F (ks.take k) (xs.length + 1)⟩ :: kls F (ks.take k) (xs.length + 1)).length = nn at *
          replace hnn := hid hnn
          generalize hkn : kno F (ks.take k) (xs.length + 1) = kn at *
          generalize hkk : kls F (ks.take k) (xs.length + 1) = kk at *
          clear hkn hkk
          go_wp2_with fail
          refine hC'.out.mono ?_
          rintro e w2 ⟨v2, rfl, hL2⟩
          obtain ⟨vs2, g2', h2⟩ := h9'.out.trans hL2
          have h2' : LIx (fun a => ob (.slice Av xs.length cv) a + g a) w w2 B v2 (xs ++ ⟨l.map Te.key, l.map Te.no, kn⟩ :: (kk ++ F K nn)) vs2 g2' := by
            have : xs ++ ⟨l.map Te.key, l.map Te.no, kn⟩ :: (kk ++ F K nn) = (xs ++ ⟨l.map Te.key, l.map Te.no, kn⟩ :: kk) ++ F K nn := by simp
            rw [this]
            exact h2
          clear h2 hL2 hC' h9' cq
          obtain ⟨v1, ⟨uk2, ur2, ud⟩, v3, g0, g1, g3, rfl, hl1, c0, c1, c3, hgs⟩ := NL.cut h2'.nl
          obtain ⟨Ad, cd, rfl, -⟩ := own_form (show w2.ownsRow B 3 1 ud kn.length (ints kn) from c1.2.2.1)
          obtain ⟨gb, cb, rfl, -, hgb, -, hcb, hfz⟩ := own_sliceK h2'.own (by rw [List.length_append, List.length_cons]; omega)
          have hcell : w2.cell? ((⟨gb, 0, none⟩ : Addr).add (xs.length * 3 + 2)) = some (.slice Ad kn.length cd) := h2'.own.cells (g := gb) rfl _ _ (rowsV_at v1 _ v3 hl1).2.2
          rw [lit_add] at hcell
          have hadd : (⟨gb, 0, none⟩ : Addr).add (xs.length * 3) = ⟨gb, xs.length * 3, none⟩ := by rw [lit_add]; simp
          rw [Nat.zero_add] at hcell
          have hlx : xs.length < (xs ++ ⟨l.map Te.key, l.map Te.no, kn⟩ :: (kk ++ F K nn)).length := by rw [List.length_append, List.length_cons]; omega
          have hlxi : (xs.length : Int) < ((xs ++ ⟨l.map Te.key, l.map Te.no, kn⟩ :: (kk ++ F K nn)).length : Int) := by omega
          have hdown := hid c1.2.2.1
          have hKid := hid (fun (w3 : World) (d' : Value) => LIx.kid (w3 := w3) (d' := d') (k := (nn : Int)) h2' hl1 c0 c1 c3 hgs)
          have hrow3 := hid (fun (w3 : World) (hg : w2.grownBy w3 (Value.slice Ad kn.length cd).ownBlock) => own_ne h2'.own hg (fun k e e2 => by
            have e3 : (Value.slice Ad kn.length cd).ownBlock = some k := by first | exact e2 | exact e2.symm
            have h1 := h2'.dis k
            rw [ob_some e, hgs k, c1.2.2.2 k, ob_some e3] at h1
            omega))
          have hB2 : B ≤ w2.heap.size := Nat.le_trans hB.out h2'.fr.2.2.2.1
          have hat3 : Hid ((rowsV (v1 ++ ⟨uk2, ur2, .slice Ad kn.length cd⟩ :: v3))[xs.length * 3 + 2]? = some (.slice Ad kn.length cd)) := (rowsV_at v1 ⟨uk2, ur2, .slice Ad kn.length cd⟩ v3 hl1).2.2
          generalize hLL : (xs ++ ⟨l.map Te.key, l.map Te.no, kn⟩ :: (kk ++ F K nn)).length = LL at *
          replace hLL := hid hLL
          clear h2' c0 c1 c3 hgs
          go_wp2_with (at_builtin; refine wpList_pushI _ rfl _ _ 23 rfl B 3 iI Tryz.underlying23 t0 t1 t2 t3 (.slice Ad kn.length cd) _ kn (by simp [Act.eval]) hdown.out nn (by simp [Act.eval]) (by omega) hB2 ?_)
          intro g6 c6 w3 own6 hg6 hat6
          have ho6 := hid (hKid.out w3 _ hg6 own6 (at_own hat6 (by omega) _ _))
          have hr6 := hrow3.out w3 hg6
          have hc6 := hr6.cells (g := gb) rfl _ _ hat3.out
          rw [lit_add, Nat.zero_add] at hc6
          have hf6 : w3.frozen? ⟨gb, xs.length * 3 + 2, none⟩ = false := by
            obtain ⟨gb', cb', e9, -, -, -, -, hz⟩ := own_sliceK hr6 (by omega)
            injection e9 with e9 _ _
            injection e9 with e9
            injection e9 with e9 _ _
            rw [e9]
            exact hz _
          have hgb6 := (World.block_lt_of_cell? _ _ hc6)
          dsimp only at hgb6
          have hfin6 : Hid (LI (fun a => ob (.slice Av xs.length cv) a + g a) w (w3.setCell ⟨gb, xs.length * 3 + 2, none⟩ (.slice (some ⟨g6, 0, none⟩) (kn.length + 1) c6)) B (.slice (some ⟨gb, 0, none⟩) LL cb) (xs ++ ⟨l.map Te.key, l.map Te.no, kno F (ks.take (k + 1)) (xs.length + 1)⟩ :: kls F (ks.take (k + 1)) (xs.length + 1))) := by
            rw [hst.out]
            exact ho6.out
          clear hr6 own6 hg6 hat6 ho6 hKid hrow3 hat3 hdown hcell
          go_wp2_with fail
          go_roundw
          case rel => exact ⟨k + 1, by omega, by go_num, hfin6⟩
          case measure => simp [intOf]; omega
        · obtain rfl : k = ps.length := by omega
          have hL' := hL
          obtain ⟨vs9, g9, h9⟩ := hL
          obtain ⟨Ao, co, rfl, -⟩ := own_form h9.own
          clear h9
          go_wp2
          go_ret2
          exact ⟨_, rfl, by rw [hfin.out]; exact hL'.out⟩
end Go.Proofs.YtjjikkhhlpikbaaGreatDoor
