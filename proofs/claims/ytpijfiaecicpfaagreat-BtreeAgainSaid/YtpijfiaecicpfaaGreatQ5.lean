/-
  The nodes of an index as a list; listing them; sort.Search; the place of an entry, of a key; Rank.
-/
import Derived.Test.YtpijfiaecicpfaaGreatQ4
set_option maxRecDepth 100000
set_option maxHeartbeats 40000000
set_option linter.unusedVariables false
set_option linter.unusedSimpArgs false
namespace Go.Proofs.YtpijfiaecicpfaaGreat
open Go.RowKit Go.Shelf
structure Nx where
  keys : List ByteArray
  recs : List Int
  kids : List Int
structure V3 where
  k : Value
  r : Value
  d : Value
def strv (l : List ByteArray) : List Value := l.map .string
theorem strv_app (a b : List ByteArray) : strv (a ++ b) = strv a ++ strv b := by simp [strv]
theorem strv_len (a : List ByteArray) : (strv a).length = a.length := by simp [strv]
def rowsV : List V3 → List Value
  | [] => []
  | v :: vs => v.k :: v.r :: v.d :: rowsV vs
theorem rowsV_len : ∀ vs : List V3, (rowsV vs).length = vs.length * 3
  | [] => rfl
  | v :: vs => by rw [rowsV, List.length_cons, List.length_cons, List.length_cons, rowsV_len vs, List.length_cons]; omega
theorem rowsV_app : ∀ a b : List V3, rowsV (a ++ b) = rowsV a ++ rowsV b
  | [], b => rfl
  | v :: a, b => by rw [List.cons_append, rowsV, rowsV, rowsV_app a b]; rfl
theorem rowsV_at (a : List V3) (v : V3) (b : List V3) {m : Nat} (hm : a.length = m) : (rowsV (a ++ v :: b))[m * 3]? = some v.k ∧ (rowsV (a ++ v :: b))[m * 3 + 1]? = some v.r ∧ (rowsV (a ++ v :: b))[m * 3 + 2]? = some v.d := by
  subst hm
  rw [rowsV_app]
  refine ⟨?_, ?_, ?_⟩ <;> rw [List.getElem?_append_right (by rw [rowsV_len]; omega), rowsV_len]
  · rw [show a.length * 3 - a.length * 3 = 0 by omega]; rfl
  · rw [show a.length * 3 + 1 - a.length * 3 = 1 by omega]; rfl
  · rw [show a.length * 3 + 2 - a.length * 3 = 2 by omega]; rfl
theorem rowsV_set (a : List V3) (v : V3) (b : List V3) {m : Nat} (hm : a.length = m) (d : Value) : (rowsV (a ++ v :: b)).set (m * 3 + 2) d = rowsV (a ++ ⟨v.k, v.r, d⟩ :: b) := by
  subst hm
  rw [rowsV_app, rowsV_app, List.set_append_right _ _ (by rw [rowsV_len]; omega), rowsV_len, show a.length * 3 + 2 - a.length * 3 = 2 by omega]
  rfl
def NR (w : World) (B : Nat) (v : V3) (x : Nx) (g : Nat → Nat) : Prop := w.ownsRow B 9 1 v.k x.keys.length (strv x.keys) ∧ w.ownsRow B 3 1 v.r x.recs.length (ints x.recs) ∧ w.ownsRow B 3 1 v.d x.kids.length (ints x.kids) ∧ ∀ a, g a = ob v.k a + ob v.r a + ob v.d a
def NL (w : World) (B : Nat) : List V3 → List Nx → (Nat → Nat) → Prop
  | [], [], f => ∀ a, f a = 0
  | v :: vs, x :: xs, f => ∃ f1 f2, NR w B v x f1 ∧ NL w B vs xs f2 ∧ ∀ a, f a = f1 a + f2 a
  | _, _, _ => False
section
variable {w w' : World} {B : Nat} {f : Nat → Nat}
theorem NL.len : ∀ {vs : List V3} {xs : List Nx} {g : Nat → Nat}, NL w B vs xs g → vs.length = xs.length
  | [], [], _, _ => rfl
  | _ :: vs, _ :: xs, g, ⟨_, _, _, h, _⟩ => by simp [h.len]
  | [], _ :: _, _, h => h.elim
  | _ :: _, [], _, h => h.elim
theorem NR.frame (hF : FR f w w') {v : V3} {x : Nx} {g : Nat → Nat} (h : NR w B v x g) (hg : ∀ a, 0 < g a → f a = 0) : NR w' B v x g := by
  obtain ⟨h1, h2, h3, h4⟩ := h
  exact ⟨hF.own h1 (fun k e => hg k (by rw [h4 k, ob_some e]; omega)), hF.own h2 (fun k e => hg k (by rw [h4 k, ob_some e]; omega)), hF.own h3 (fun k e => hg k (by rw [h4 k, ob_some e]; omega)), h4⟩
theorem NL.frame (hF : FR f w w') : ∀ {vs : List V3} {xs : List Nx} {g : Nat → Nat}, NL w B vs xs g → (∀ a, 0 < g a → f a = 0) → NL w' B vs xs g
  | [], [], g, h, _ => h
  | v :: vs, x :: xs, g, ⟨f1, f2, h1, h2, h3⟩, hg => ⟨f1, f2, h1.frame hF (fun a ha => hg a (by rw [h3 a]; omega)), NL.frame hF h2 (fun a ha => hg a (by rw [h3 a]; omega)), h3⟩
  | [], _ :: _, g, h, _ => h.elim
  | _ :: _, [], g, h, _ => h.elim
theorem NL.same {vs : List V3} {xs : List Nx} {g g' : Nat → Nat} (h : NL w B vs xs g) (e : ∀ a, g' a = g a) : NL w B vs xs g' := by
  have : g' = g := funext e
  rw [this]
  exact h
theorem NL.app : ∀ {vs us : List V3} {xs ys : List Nx} {f g : Nat → Nat}, NL w B vs xs f → NL w B us ys g → NL w B (vs ++ us) (xs ++ ys) (fun a => f a + g a)
  | [], us, [], ys, f, g, h, h2 => h2.same (fun a => by show f a + g a = g a; rw [h a]; omega)
  | v :: vs, us, x :: xs, ys, f, g, ⟨f1, f2, h1, h3, h4⟩, h2 => ⟨f1, _, h1, h3.app h2, fun a => by show f a + g a = f1 a + (f2 a + g a); rw [h4 a]; omega⟩
  | [], _, _ :: _, _, _, _, h, _ => h.elim
  | _ :: _, _, [], _, _, _, h, _ => h.elim
theorem NL.one {v : V3} {x : Nx} {g : Nat → Nat} (h : NR w B v x g) : NL w B [v] [x] g := ⟨g, fun _ => 0, h, fun _ => rfl, fun a => rfl⟩
theorem NL.cut : ∀ {x1 : List Nx} {vs : List V3} {x : Nx} {x2 : List Nx} {g : Nat → Nat}, NL w B vs (x1 ++ x :: x2) g → ∃ v1 v v2 g0 g1 g2, vs = v1 ++ v :: v2 ∧ v1.length = x1.length ∧ NL w B v1 x1 g0 ∧ NR w B v x g1 ∧ NL w B v2 x2 g2 ∧ ∀ a, g a = g0 a + g1 a + g2 a
  | [], v :: vs, x, x2, g, ⟨f1, f2, h1, h2, h3⟩ => ⟨[], v, vs, fun _ => 0, f1, f2, rfl, rfl, fun _ => rfl, h1, h2, fun a => by show g a = 0 + f1 a + f2 a; rw [h3 a]; omega⟩
  | y :: x1, u :: vs, x, x2, g, ⟨f1, f2, h1, h2, h3⟩ => by
    obtain ⟨v1, v, v2, g0, g1, g2, e1, e2, e3, e4, e5, e6⟩ := NL.cut h2
    exact ⟨u :: v1, v, v2, fun a => f1 a + g0 a, g1, g2, by rw [e1]; rfl, by simp [e2], ⟨f1, g0, h1, e3, fun _ => rfl⟩, e4, e5, fun a => by show g a = f1 a + g0 a + g1 a + g2 a; rw [h3 a, e6 a]; omega⟩
  | [], [], _, _, _, h => h.elim
  | _ :: _, [], _, _, _, h => h.elim
theorem NR.bound {v : V3} {x : Nx} {g : Nat → Nat} (h : NR w B v x g) : ∀ a, w.heap.size ≤ a → g a = 0 := fun a ha => by
  obtain ⟨h1, h2, h3, h4⟩ := h
  rw [h4 a, own_bound h1 ha, own_bound h2 ha, own_bound h3 ha]
theorem NL.bound : ∀ {vs : List V3} {xs : List Nx} {g : Nat → Nat}, NL w B vs xs g → ∀ a, w.heap.size ≤ a → g a = 0
  | [], [], g, h, a, _ => h a
  | v :: vs, x :: xs, g, ⟨f1, f2, h1, h2, h3⟩, a, ha => by rw [h3 a, h1.bound a ha, NL.bound h2 a ha]
  | [], _ :: _, g, h, _, _ => h.elim
  | _ :: _, [], g, h, _, _ => h.elim
end
structure LIx (f0 : Nat → Nat) (w0 w : World) (B : Nat) (v : Value) (xs : List Nx) (vs : List V3) (g : Nat → Nat) : Prop where
  own : w.ownsRow B 48 3 v xs.length (rowsV vs)
  nl : NL w B vs xs g
  dis : ∀ a, ob v a + g a ≤ 1
  le : ∀ a, a < w0.heap.size → ob v a + g a ≤ f0 a
  fr : FR f0 w0 w
def LI (f0 : Nat → Nat) (w0 w : World) (B : Nat) (v : Value) (xs : List Nx) : Prop := ∃ vs g, LIx f0 w0 w B v xs vs g
section
variable {f0 : Nat → Nat} {w0 w w' w3 : World} {B : Nat} {v v' : Value} {xs xs' : List Nx} {vs : List V3} {g : Nat → Nat}
theorem LIx.trans (h : LIx f0 w0 w B v xs vs g) (h2 : LI (fun a => ob v a + g a) w w' B v' xs') : LI f0 w0 w' B v' xs' := by
  obtain ⟨vs', g', h3⟩ := h2
  exact ⟨vs', g', h3.own, h3.nl, h3.dis, fun a ha => Nat.le_trans (h3.le a (Nat.lt_of_lt_of_le ha h.fr.2.2.2.1)) (h.le a ha), h.fr.trans h3.fr (fun k hk h0 => by have := h.le k hk; show ob v k + g k = 0; omega)⟩
theorem LIx.ext (h : LIx f0 w0 w B v xs vs g) (hx : Ext w w') : LIx f0 w0 w' B v xs vs g :=
  ⟨hx.own h.own, h.nl.frame (f := fun _ => 0) (FR.of_ext hx) (fun _ _ => rfl), h.dis, h.le, h.fr.trans (FR.of_ext (f := f0) hx) (fun _ _ h => h)⟩
theorem FR.of_grown {f : Nat → Nat} {row : Option Nat} (hg : w.grownBy w' row) (hf : ∀ k, row = some k → 0 < f k) : FR f w w' := ⟨hg.os.symm, hg.tape.symm, hg.output.symm, hg.size, fun k hk h0 => hg.block k hk (fun e => by have h1 := hf k (by first | exact e | exact e.symm); omega)⟩
theorem LIx.add (h : LIx f0 w0 w B v xs vs g) {w1 : World} (hx : Ext w w1) {u : V3} {x : Nx} {gu : Nat → Nat} (hu : NR w1 w.heap.size u x gu) (hB : B ≤ w.heap.size) (hd : ∀ a, gu a ≤ 1) (hg : w1.grownBy w' v.ownBlock) (ho : w'.ownsRow B 48 3 v' (xs.length + 1) (rowsV vs ++ [u.k, u.r, u.d])) (hv : v'.ownBlock = v.ownBlock ∨ ∀ k, v'.ownBlock = some k → w1.heap.size ≤ k) : LI f0 w0 w' B v' (xs ++ [x]) := by
  have hsz := h.fr.2.2.2.1
  have hs1 := hx.size
  have hlow : ∀ a, a < w.heap.size → gu a = 0 := fun a ha => by
    obtain ⟨h1, h2, h3, h4⟩ := hu
    rw [h4 a, show ob u.k a = 0 from if_neg (fun e => by have := own_freshB h1 _ e; omega), show ob u.r a = 0 from if_neg (fun e => by have := own_freshB h2 _ e; omega), show ob u.d a = 0 from if_neg (fun e => by have := own_freshB h3 _ e; omega)]
  have hF : FR (ob v) w1 w' := FR.of_grown hg (fun k e => by rw [ob_some e]; decide)
  have hnl := (h.nl.frame (f := fun _ => 0) (FR.of_ext hx) (fun _ _ => rfl)).frame hF (fun a ha => by have := h.dis a; omega)
  have hvlow : ∀ a, w.heap.size ≤ a → ob v a = 0 := fun a ha => own_bound h.own ha
  have hu2 := hu.frame hF (fun a ha => by
    by_cases e : a < w.heap.size
    · have := hlow a e; omega
    · exact hvlow a (by omega))
  have hu3 : NR w' B u x gu := ⟨own_baseK hu2.1 hB, own_baseK hu2.2.1 hB, own_baseK hu2.2.2.1 hB, hu2.2.2.2⟩
  refine ⟨vs ++ [u], _, ?_, hnl.app (NL.one hu3), fun a => ?_, fun a ha => ?_, (h.fr.trans (FR.of_ext (f := f0) hx) (fun _ _ h => h)).trans hF (fun k hk h0 => by have := h.le k hk; omega)⟩
  · rw [rowsV_app, List.length_append]
    exact ho
  · show ob v' a + (g a + gu a) ≤ 1
    by_cases e : a < w.heap.size
    · rw [hlow a e]
      have h1 := h.dis a
      rcases hv with h2 | h2
      · rw [ob_same h2]; omega
      · rw [show ob v' a = 0 from if_neg (fun e2 => by have := h2 a e2; omega)]; omega
    · rw [h.nl.bound a (by omega)]
      have h1 := hd a
      rcases hv with h2 | h2
      · rw [ob_same h2, hvlow a (by omega)]; omega
      · by_cases e2 : v'.ownBlock = some a
        · rw [hu.bound a (h2 a e2), ob_some e2]; exact Nat.le_refl _
        · rw [show ob v' a = 0 from if_neg e2]; omega
  · show ob v' a + (g a + gu a) ≤ f0 a
    have ha2 := Nat.lt_of_lt_of_le ha hsz
    rw [hlow a ha2]
    have h1 := h.le a ha
    rcases hv with h2 | h2
    · rw [ob_same h2]; omega
    · rw [show ob v' a = 0 from if_neg (fun e2 => by have := h2 a e2; omega)]; omega
theorem LIx.kid {x1 x2 : List Nx} {x : Nx} {gb n c : Nat} {k : Int} {d' : Value} {v1 v2 : List V3} {u : V3} {g0 g1 g2 : Nat → Nat} (h : LIx f0 w0 w B (.slice (some ⟨gb, 0, none⟩) n c) (x1 ++ x :: x2) (v1 ++ u :: v2) g) (hl : v1.length = x1.length) (h0 : NL w B v1 x1 g0) (h1 : NR w B u x g1) (h2 : NL w B v2 x2 g2) (hgs : ∀ a, g a = g0 a + g1 a + g2 a)
    (hg : w.grownBy w3 u.d.ownBlock) (ho : w3.ownsRow B 3 1 d' (x.kids.length + 1) (ints (x.kids ++ [k]))) (hv : d'.ownBlock = u.d.ownBlock ∨ ∀ k, d'.ownBlock = some k → w.heap.size ≤ k) : LI f0 w0 (w3.setCell ⟨gb, x1.length * 3 + 2, none⟩ d') B (.slice (some ⟨gb, 0, none⟩) n c) (x1 ++ ⟨x.keys, x.recs, x.kids ++ [k]⟩ :: x2) := by
  have hsz := h.fr.2.2.2.1
  obtain ⟨n1, n2, n3, n4⟩ := h1
  have hobv : ∀ a, ob (.slice (some ⟨gb, 0, none⟩) n c) a = one1 gb a := fun a => by
    unfold ob one1
    by_cases e : a = gb
    · rw [if_pos e, if_pos (by rw [e]; rfl)]
    · rw [if_neg e, if_neg]
      intro e2
      have h9 : gb = a := by simpa [Value.ownBlock] using e2
      exact e h9.symm
  have hgb : gb < w.heap.size := (h.own.lt gb rfl).2
  have hF : FR (fun a => ob u.d a) w w3 := FR.of_grown hg (fun k e => by show 0 < ob u.d k; rw [ob_some e]; decide)
  have hd : ∀ a, one1 gb a + (g0 a + (ob u.k a + ob u.r a + ob u.d a) + g2 a) ≤ 1 := fun a => by have := h.dis a; rw [hobv a, hgs a, n4 a] at this; exact this
  have hF2 : FR (fun a => ob u.d a + one1 gb a) w (w3.setCell ⟨gb, x1.length * 3 + 2, none⟩ d') := (hF.mono (fun k _ h0 => by have h9 : ob u.d k + one1 gb k = 0 := h0; show ob u.d k = 0; omega)).trans (fr_set (b := gb)) (fun k _ h0 => by have h9 : ob u.d k + one1 gb k = 0 := h0; show one1 gb k = 0; omega)
  have hd'g : d'.ownBlock ≠ some gb := fun e => by
    rcases hv with h9 | h9
    · rw [h9] at e
      have := hd gb
      rw [one_self, ob_some e] at this
      omega
    · have := h9 gb e; omega
  have hobd : ∀ a, a < w.heap.size → ob d' a ≤ ob u.d a := fun a ha => by
    rcases hv with h9 | h9
    · rw [ob_same h9]; exact Nat.le_refl _
    · rw [show ob d' a = 0 from if_neg (fun e => by have := h9 a e; omega)]; exact Nat.zero_le _
  have hobd2 : ∀ a, w.heap.size ≤ a → one1 gb a = 0 ∧ g0 a = 0 ∧ g2 a = 0 ∧ ob u.k a = 0 ∧ ob u.r a = 0 := fun a ha => ⟨if_neg (by omega), h0.bound a ha, h2.bound a ha, own_bound n1 ha, own_bound n2 ha⟩
  have k1 : NL (w3.setCell ⟨gb, x1.length * 3 + 2, none⟩ d') B v1 x1 g0 := h0.frame hF2 (fun a ha => by have := hd a; show ob u.d a + one1 gb a = 0; omega)
  have k2 : NL (w3.setCell ⟨gb, x1.length * 3 + 2, none⟩ d') B v2 x2 g2 := h2.frame hF2 (fun a ha => by have := hd a; show ob u.d a + one1 gb a = 0; omega)
  have k3 : NR (w3.setCell ⟨gb, x1.length * 3 + 2, none⟩ d') B ⟨u.k, u.r, d'⟩ ⟨x.keys, x.recs, x.kids ++ [k]⟩ (fun a => ob u.k a + ob u.r a + ob d' a) := by
    refine ⟨hF2.own n1 (fun k e => ?_), hF2.own n2 (fun k e => ?_), ?_, fun _ => rfl⟩
    · have := hd k; rw [ob_some e] at this; show ob u.d k + one1 gb k = 0; omega
    · have := hd k; rw [ob_some e] at this; show ob u.d k + one1 gb k = 0; omega
    · rw [List.length_append]
      exact own_set ho hd'g _ _
  refine ⟨v1 ++ ⟨u.k, u.r, d'⟩ :: v2, fun a => g0 a + ((ob u.k a + ob u.r a + ob d' a) + g2 a), ?_, k1.app ⟨_, _, k3, k2, fun _ => rfl⟩, fun a => ?_, fun a ha => ?_, h.fr.trans hF2 (fun k hk h9 => ?_)⟩
  · rw [← rowsV_set v1 u v2 hl d']
    have ho3 := own_ne h.own hg (fun k e e2 => by
      have e3 : u.d.ownBlock = some k := by first | exact e2 | exact e2.symm
      have := hd k
      have e4 : ob (.slice (some ⟨gb, 0, none⟩) n c) k = 1 := ob_some e
      rw [hobv k] at e4
      rw [ob_some e3] at this
      omega)
    have := own_setK (o := x1.length * 3 + 2) (u := d') (by
      have hn : (x1 ++ x :: x2).length = n := by
        obtain ⟨A9, c9, h9, _⟩ := own_form h.own
        injection h9 with _ h9 _
        exact h9.symm
      rw [hn] at ho3
      exact ho3)
    have hn : (x1 ++ ⟨x.keys, x.recs, x.kids ++ [k]⟩ :: x2).length = n := by
      obtain ⟨A9, c9, h9, _⟩ := own_form h.own
      injection h9 with _ h9 _
      rw [h9]
      simp
    rw [hn]
    exact this
  · rw [hobv a]
    show one1 gb a + (g0 a + (ob u.k a + ob u.r a + ob d' a + g2 a)) ≤ 1
    by_cases ha : a < w.heap.size
    · have := hd a; have := hobd a ha; omega
    · obtain ⟨q1, q2, q3, q4, q5⟩ := hobd2 a (by omega)
      have : ob d' a ≤ 1 := by unfold ob; split <;> omega
      omega
  · rw [hobv a]
    show one1 gb a + (g0 a + (ob u.k a + ob u.r a + ob d' a + g2 a)) ≤ f0 a
    have q1 := h.le a ha
    rw [hobv a, hgs a, n4 a] at q1
    have := hobd a (by omega)
    omega
  · have q1 := h.le k hk
    rw [hobv k, hgs k, n4 k] at q1
    show ob u.d k + one1 gb k = 0
    omega
end
def kls (F : BT → Nat → List Nx) : List BT → Nat → List Nx
  | [], _ => []
  | K :: ks, s => F K s ++ kls F ks (s + (F K s).length)
def kno (F : BT → Nat → List Nx) : List BT → Nat → List Int
  | [], _ => []
  | K :: ks, s => (s : Int) :: kno F ks (s + (F K s).length)
theorem kls_app (F : BT → Nat → List Nx) : ∀ (a b : List BT) (s : Nat), kls F (a ++ b) s = kls F a s ++ kls F b (s + (kls F a s).length)
  | [], b, s => by simp [kls]
  | K :: a, b, s => by
    rw [List.cons_append, kls, kls, kls_app F a b, List.append_assoc, List.length_append]
    congr 3
    omega
theorem kno_app (F : BT → Nat → List Nx) : ∀ (a b : List BT) (s : Nat), kno F (a ++ b) s = kno F a s ++ kno F b (s + (kls F a s).length)
  | [], b, s => by simp [kls, kno]
  | K :: a, b, s => by
    rw [List.cons_append, kno, kno, kls, kno_app F a b, List.length_append]
    simp only [List.cons_append]
    congr 3
    omega
theorem kno_len (F : BT → Nat → List Nx) : ∀ (a : List BT) (s : Nat), (kno F a s).length = a.length
  | [], _ => rfl
  | K :: a, s => by rw [kno, List.length_cons, List.length_cons, kno_len F a]
def ndX (F : BT → Nat → List Nx) (l : List Te) (ks : List BT) (m : Nat) : List Nx := ⟨l.map Te.key, l.map Te.no, kno F ks (m + 1)⟩ :: kls F ks (m + 1)
def lst : Nat → BT → Nat → List Nx
  | 0, .nd l ks, m => ndX (fun _ _ => []) l [] m
  | h + 1, .nd l ks, m => ndX (lst h) l ks m
theorem xs_snoc {F : BT → Nat → List Nx} {l : List Te} {ks : List BT} {K : BT} {i : Nat} {xs : List Nx} (hK : ks[i]? = some K) : xs ++ ⟨l.map Te.key, l.map Te.no, kno F (ks.take (i + 1)) (xs.length + 1)⟩ :: kls F (ks.take (i + 1)) (xs.length + 1) = xs ++ ⟨l.map Te.key, l.map Te.no, kno F (ks.take i) (xs.length + 1) ++ [((xs ++ ⟨l.map Te.key, l.map Te.no, kno F (ks.take i) (xs.length + 1)⟩ :: kls F (ks.take i) (xs.length + 1)).length : Int)]⟩ :: (kls F (ks.take i) (xs.length + 1) ++ F K (xs ++ ⟨l.map Te.key, l.map Te.no, kno F (ks.take i) (xs.length + 1)⟩ :: kls F (ks.take i) (xs.length + 1)).length) := by
  have hn : (xs ++ ⟨l.map Te.key, l.map Te.no, kno F (ks.take i) (xs.length + 1)⟩ :: kls F (ks.take i) (xs.length + 1)).length = xs.length + 1 + (kls F (ks.take i) (xs.length + 1)).length := by simp; omega
  rw [hn, List.take_add_one, hK, kno_app, kls_app]
  simp [kno, kls]
theorem infoS : (Tryz.prog.info? 9).map (fun i => (i.zero, i.size, i.bytes)) = some (some (.string ⟨#[]⟩), 1, 16) := by kernel_rfl
theorem infoI : (Tryz.prog.info? 3).map (fun i => (i.zero, i.size, i.bytes)) = some (some (.int .i64 0), 1, 8) := by kernel_rfl
theorem infoAN : (Tryz.prog.info? 48).map (fun i => (i.zero, i.size, i.bytes)) = some (some (.agg #[.slice none 0 0, .slice none 0 0, .slice none 0 0]), 3, 72) := by kernel_rfl
theorem nd3_set0 {w : World} {p : Nat} {a b c : Value} {t : TypeId} (h : w.heap[p]? = some (.cells #[a, b, c] t (0, 0))) (u : Value) : (w.setCell ⟨p, 0, none⟩ u).heap[p]? = some (.cells #[u, b, c] t (0, 0)) := by
  simp [World.setCell, Array.getElem?_modify, h]
theorem nd3_set1 {w : World} {p : Nat} {a b c : Value} {t : TypeId} (h : w.heap[p]? = some (.cells #[a, b, c] t (0, 0))) (u : Value) : (w.setCell ⟨p, 1, none⟩ u).heap[p]? = some (.cells #[a, u, c] t (0, 0)) := by
  simp [World.setCell, Array.getElem?_modify, h]
theorem nd3_c {w : World} {p : Nat} {a b c : Value} {t : TypeId} (h : w.heap[p]? = some (.cells #[a, b, c] t (0, 0))) : w.cell? ⟨p, 0, none⟩ = some a ∧ w.cell? ⟨p, 1, none⟩ = some b ∧ w.cell? ⟨p, 2, none⟩ = some c := by
  refine ⟨?_, ?_, ?_⟩ <;> rw [Lib.cell_of_heap h] <;> rfl
theorem Ext.set2 {w w' : World} (h : Ext w w') {y i j : Nat} (hy : w.heap.size ≤ y) (u v : Value) : Ext w ((w'.setCell ⟨y, i, none⟩ u).setCell ⟨y, j, none⟩ v) := (h.set (p := ⟨y, i, none⟩) hy u).set (p := ⟨y, j, none⟩) hy v
theorem listed_step (h : Nat) (F : BT → Nat → List Nx) (ks : List BT)
    (ih : ∀ (q : Nat) (K : BT) (fk : Nat → Nat) (w' : World) (B : Nat) (v : Value) (xs : List Nx) (vs : List V3) (g : Nat → Nat), K ∈ ks → TN w' h q K fk → B ≤ w'.heap.size → w'.ownsRow B 48 3 v xs.length (rowsV vs) → NL w' B vs xs g → (∀ a, ob v a + g a ≤ 1) → (∀ a, 0 < ob v a + g a → fk a = 0) → xs.length + (F K xs.length).length ≤ 1000000 → Calls Tryz.prog 43 #[.pointer (some ⟨q, 0, none⟩), v] w' fun e w2 => ∃ v', e = .returned (.tuple #[v', .int .i64 xs.length]) ∧ LI (fun a => ob v a + g a) w' w2 B v' (xs ++ F K xs.length))
    (p : Nat) (l : List Te) (ps : List Nat) (lv kv : Value) (gk : Nat → Nat) (w : World) (B : Nat) (v : Value) (xs : List Nx) (vs : List V3) (g : Nat → Nat) (e1 : w.heap[p]? = some (.cells #[lv, kv] 55 (0, 0))) (e2 : w.ownsRow 0 83 2 lv l.length (tents l)) (e3 : w.ownsRow 0 51 1 kv ps.length (ptrs ps)) (e5 : Ks (TN w h) ps ks gk)
    (hB : B ≤ w.heap.size) (hown : w.ownsRow B 48 3 v xs.length (rowsV vs)) (hnl : NL w B vs xs g) (hd : ∀ a, ob v a + g a ≤ 1) (hz : ∀ a, 0 < ob v a + g a → one1 p a + ob lv a + ob kv a + gk a = 0) (hn : xs.length + (ndX F l ks xs.length).length ≤ 1000000) (hll : l.length ≤ 1000000) (hkl : ks.length ≤ 1000000) :
    Calls Tryz.prog 43 #[.pointer (some ⟨p, 0, none⟩), v] w fun e w2 => ∃ v', e = .returned (.tuple #[v', .int .i64 xs.length]) ∧ LI (fun a => ob v a + g a) w w2 B v' (xs ++ ndX F l ks xs.length) := by
  obtain ⟨iS, s0, s1, s2, s3⟩ := info_parts infoS
  obtain ⟨iI, t0, t1, t2, t3⟩ := info_parts infoI
  obtain ⟨iN, n0, n1, n2, n3⟩ := info_parts infoAN
  obtain ⟨A, c, rfl, hr⟩ := own_rd e2
  obtain ⟨kA, kc, rfl, hkr⟩ := own_rd e3
  obtain ⟨Av, cv, rfl, -⟩ := own_form hown
  have hmx := Rd.max hr
  have hkmx := Rd.max hkr
  have hpk := e5.len
  have hkb : (ks.length : Nat) ≤ (kls F ks (xs.length + 1)).length + ks.length := by omega
  have hLI0 : Hid (LIx (fun a => ob (.slice Av xs.length cv) a + g a) w w B (.slice Av xs.length cv) xs vs g) := ⟨hown, hnl, hd, fun _ _ => Nat.le_refl _, FR.of_ext (Ext.refl w)⟩
  have hin : Hid (∀ w', FR (fun a => ob (.slice Av xs.length cv) a + g a) w w' → w'.cell? ⟨p, 0, none⟩ = some (.slice A l.length c) ∧ w'.cell? ⟨p, 1, none⟩ = some (.slice kA ps.length kc) ∧ RdN w' A l.length c l ∧ Rd w' 1 kA ps.length kc (ptrs ps)) := fun w' hF => by
    have hz' : ∀ a, 0 < one1 p a + ob (.slice A l.length c) a + ob (.slice kA ps.length kc) a + gk a → ob (.slice Av xs.length cv) a + g a = 0 := fun a ha => by
      rcases Nat.eq_zero_or_pos (ob (.slice Av xs.length cv) a + g a) with h0 | h0
      · exact h0
      · have := hz a h0; omega
    have e1' := (hF.2.2.2.2 p (Array.getElem?_eq_some_iff.1 e1).1 (hz' p (by rw [one_self]; omega))).trans e1
    exact ⟨node_c0 e1', node_c1 e1', Rd.of_own (hF.own e2 (fun k e => hz' k (by rw [ob_some e]; omega))), Rd.of_own (hF.own e3 (fun k e => hz' k (by rw [ob_some e]; omega)))⟩
  have hkid : Hid (∀ (i : Nat) (w' : World) (v' : Value) (xs' : List Nx) (vs' : List V3) (g' : Nat → Nat), i < ps.length → LIx (fun a => ob (.slice Av xs.length cv) a + g a) w w' B v' xs' vs' g' → (∀ K, ks[i]? = some K → xs'.length + (F K xs'.length).length ≤ 1000000) → ∃ q K, ps[i]? = some q ∧ ks[i]? = some K ∧ Calls Tryz.prog 43 #[.pointer (some ⟨q, 0, none⟩), v'] w' fun e w2 => ∃ v2, e = .returned (.tuple #[v2, .int .i64 xs'.length]) ∧ LI (fun a => ob v' a + g' a) w' w2 B v2 (xs' ++ F K xs'.length)) := fun i w' v' xs' vs' g' hi hL hb => by
    have hlt : i < ks.length := by omega
    have hK := List.getElem?_eq_getElem hlt
    obtain ⟨q, g0, g1, g2, hq, hTK, -, -, hgs⟩ := e5.cut hK
    refine ⟨q, ks[i], hq, hK, ih q ks[i] g1 w' B v' xs' vs' g' (List.getElem_mem hlt) ?_ (Nat.le_trans hB hL.fr.2.2.2.1) hL.own hL.nl hL.dis (fun a ha => ?_) (hb _ hK)⟩
    · refine hTK.frame hL.fr (fun a ha => ?_)
      rcases Nat.eq_zero_or_pos (ob (.slice Av xs.length cv) a + g a) with h0 | h0
      · exact h0
      · have := hz a h0; rw [hgs a] at this; omega
    · by_cases haw : a < w.heap.size
      · have h1 := hL.le a haw
        have h2 := hz a (by omega)
        rw [hgs a] at h2
        omega
      · exact TN.bound hTK a (by omega)
  have hbd : Hid (∀ i K, ks[i]? = some K → xs.length + 1 + (kls F (ks.take i) (xs.length + 1)).length + (F K (xs.length + 1 + (kls F (ks.take i) (xs.length + 1)).length)).length ≤ 1000000) := fun i K hK => by
    have h1 : (ndX F l ks xs.length).length = (kls F ks (xs.length + 1)).length + 1 := rfl
    obtain ⟨hlt, rfl⟩ := List.getElem?_eq_some_iff.1 hK
    have h2 : ks = ks.take i ++ (ks[i] :: ks.drop (i + 1)) := list_cut hlt
    have key : ∀ s9, (kls F (ks.take i) s9).length + (F ks[i] (s9 + (kls F (ks.take i) s9).length)).length ≤ (kls F ks s9).length := fun s9 => by
      have h4 : kls F ks s9 = kls F (ks.take i) s9 ++ (F ks[i] (s9 + (kls F (ks.take i) s9).length) ++ kls F (ks.drop (i + 1)) (s9 + (kls F (ks.take i) s9).length + (F ks[i] (s9 + (kls F (ks.take i) s9).length)).length)) := by
        conv => lhs; rw [h2, kls_app, kls]
      have h5 := congrArg List.length h4
      rw [List.length_append, List.length_append] at h5
      omega
    have := key (xs.length + 1)
    omega
  have hkl' := hid hkl
  have hn1 : xs.length + 1 ≤ 1000000 := by
    have h1 : (ndX F l ks xs.length).length = (kls F ks (xs.length + 1)).length + 1 := rfl
    omega
  have hLB := hid (fun (w1 w' : World) (u : V3) (x : Nx) (gu : Nat → Nat) (v' : Value) (hx : Ext w w1) => LIx.add hLI0.out hx (u := u) (x := x) (gu := gu) (w' := w') (v' := v'))
  have hownx := hid (fun w' (hx : Ext w w') => hx.own hown)
  have hfin : Hid (xs ++ ndX F l ks xs.length = xs ++ ⟨l.map Te.key, l.map Te.no, kno F (ks.take ps.length) (xs.length + 1)⟩ :: kls F (ks.take ps.length) (xs.length + 1)) := by
    unfold Hid
    rw [List.take_of_length_le (Nat.le_of_eq hpk.symm)]
    rfl
  replace hB := hid hB
  replace hpk := hid hpk
  have hxr := hid (fun w' (hx : Ext w w') => hin.out w' (FR.of_ext hx))
  have hin0 := hxr.out w (Ext.refl w)
  obtain ⟨zl0, zk0, -, -⟩ := hin0
  clear e1 e2 e3 e5 hown hnl hd hz hn hkr ih hkb
  go_enter Tryz.func43, Tryz.ntmps43
  go_upto_region 3 with fail
  obtain ⟨y, hy⟩ : ∃ y, y = w.heap.size := ⟨_, rfl⟩
  have hY0 := heap_alloc_new w (.cells #[.slice none 0 0, .slice none 0 0, .slice none 0 0] 48)
  rw [← hy] at hY0
  simp only [← hy]
  replace hY0 := hid hY0
  have hx1 := hid ((Ext.refl w).alloc_right (.cells #[.slice none 0 0, .slice none 0 0, .slice none 0 0] 48))
  replace zl0 := hx1.out.cell zl0
  generalize w.alloc (.cells #[.slice none 0 0, .slice none 0 0, .slice none 0 0] 48) = w1 at *
  have hnil : Hid (∀ a, ob (.slice none 0 0) a = 0) := fun a => if_neg (by intro e; cases e)
  have hyB : Hid (w.heap.size ≤ y) := by unfold Hid; omega
  replace hy := hid hy
  go_wp2_with fail
  go_loopw [20] (fun i wr => ∃ (k : Nat) (uk ur : Value), k ≤ l.length ∧ i = .int .i64 k ∧ Hid (wr.heap[y]? = some (.cells #[uk, ur, .slice none 0 0] 48 (0, 0))) ∧ Hid (wr.ownsRow w.heap.size 9 1 uk k (strv ((l.take k).map Te.key))) ∧ Hid (wr.ownsRow w.heap.size 3 1 ur k (ints ((l.take k).map Te.no))) ∧ Hid (∀ a, ob uk a + ob ur a + one1 y a ≤ 1) ∧ Hid (Ext w wr)) (fun i _ => l.length - (intOf i).toNat)
  case atStart => exact ⟨0, _, _, by omega, rfl, hY0, World.ownsRow_nil _ _ _ _, World.ownsRow_nil _ _ _ _, fun a => by rw [hnil.out a]; unfold one1; split <;> omega, hx1⟩
  case round =>
    obtain ⟨k, uk, ur, hk, rfl, hY, ok, or_, dis, hx⟩ := hrel
    by_cases hlt : k < l.length
    · obtain ⟨-, -, hr', -⟩ := hxr.out wr hx.out
      obtain ⟨ad, rfl, z0, z1⟩ := hr'.at_ hlt
      have hst : Hid (strv ((l.take (k + 1)).map Te.key) = strv ((l.take k).map Te.key) ++ [.string (tth l k).key]) := by
        unfold Hid
        rw [List.take_succ_eq_append_getElem hlt, List.map_append, strv_app, tth_get hlt]
        rfl
      have hit : Hid (ints ((l.take (k + 1)).map Te.no) = ints ((l.take k).map Te.no) ++ [.int .i64 (tth l k).no]) := by
        unfold Hid
        rw [List.take_succ_eq_append_getElem hlt, List.map_append, ints_append, tth_get hlt]
        rfl
      generalize tth l k = x at *
      generalize hsk : strv ((l.take k).map Te.key) = sk at *
      generalize hik : ints ((l.take k).map Te.no) = ik at *
      clear hsk hik
      have hE := heap_alloc_new wr (.cells #[.string x.key, .int .i64 x.no] 83)
      have hxe := (Ext.refl wr).alloc_right (.cells #[.string x.key, .int .i64 x.no] 83)
      go_upto_region 6 with fail
      have hb : Hid (ob uk wr.heap.size = 0 ∧ ob ur wr.heap.size = 0 ∧ y ≠ wr.heap.size) := by
        have h1 := (Array.getElem?_eq_some_iff.1 hY.out).1
        exact ⟨own_bound ok.out (Nat.le_refl _), own_bound or_.out (Nat.le_refl _), by omega⟩
      obtain ⟨b, hbe⟩ : ∃ b, b = wr.heap.size := ⟨_, rfl⟩
      rw [← hbe] at hE hb
      simp only [← hbe]
      replace hbe := hid hbe
      replace hY := hid ((hxe.block (Array.getElem?_eq_some_iff.1 hY.out).1).trans hY.out)
      replace ok := hid (hxe.own ok.out)
      replace or_ := hid (hxe.own or_.out)
      replace hx := hid (hx.out.trans hxe)
      clear z0 z1 hr' hxe
      generalize wr.alloc (.cells #[.string x.key, .int .i64 x.no] 83) = w2 at *
      refine region_X (fun w' : World => w'.cell? ⟨b, 0, none⟩ = some (.string x.key) ∧ w'.cell? ⟨b, 1, none⟩ = some (.int .i64 x.no)) (fun w' : World => w'.cell? ⟨y, 0, none⟩ = some uk ∧ w'.cell? ⟨y, 1, none⟩ = some ur) (fun j => j == 13 || j == 15) (by kernel_rfl) ?_
      have hE2 : Hid (w2.drew.heap[b]? = some (.cells #[.string x.key, .int .i64 x.no] 83 (0, 0))) := hE
      have hY2 : Hid (w2.drew.heap[y]? = some (.cells #[uk, ur, .slice none 0 0] 48 (0, 0))) := hY
      replace ok : Hid (w2.drew.ownsRow w.heap.size 9 1 uk k sk) := own_drewN ok.out 1
      replace or_ : Hid (w2.drew.ownsRow w.heap.size 3 1 ur k ik) := own_drewN or_.out 1
      replace hx := hid (hx.out.drew_right)
      generalize w2.drew = W0 at *
      clear hE hY
      have hfy : Hid (ob uk y + ob ur y = 0) := by have := dis.out y; rw [one_self] at this; unfold Hid; omega
      have hfb : Hid (ob uk b + ob ur b = 0) := by have := hb.out.1; have := hb.out.2.1; unfold Hid; omega
      have hlS : Hid (∀ W, FR (fun a => ob uk a + ob ur a) W0 W → W.heap[y]? = some (.cells #[uk, ur, .slice none 0 0] 48 (0, 0)) ∧ (fun w' : World => w'.cell? ⟨b, 0, none⟩ = some (.string x.key) ∧ w'.cell? ⟨b, 1, none⟩ = some (.int .i64 x.no)) W ∧ (fun w' : World => w'.cell? ⟨y, 0, none⟩ = some uk ∧ w'.cell? ⟨y, 1, none⟩ = some ur) W) := fun W hF => by
        have q1 := (hF.2.2.2.2 y (Array.getElem?_eq_some_iff.1 hY2.out).1 hfy.out).trans hY2.out
        have q2 := (hF.2.2.2.2 b (Array.getElem?_eq_some_iff.1 hE2.out).1 hfb.out).trans hE2.out
        exact ⟨q1, ⟨by rw [Lib.cell_of_heap q2]; rfl, by rw [Lib.cell_of_heap q2]; rfl⟩, ⟨(nd3_c q1).1, (nd3_c q1).2.1⟩⟩
      have hT0 : Hid (Two (fun a => ob uk a + ob ur a) W0 W0 w.heap.size 9 3 1 1 uk ur k k sk ik) := ⟨ok.out, or_.out, fun a => by have := dis.out a; omega, fun _ _ => Nat.le_refl _, FR.of_ext (Ext.refl _)⟩
      have hS : Hid ((fun w' : World => w'.cell? ⟨b, 0, none⟩ = some (.string x.key) ∧ w'.cell? ⟨b, 1, none⟩ = some (.int .i64 x.no)) W0 ∧ (fun w' : World => w'.cell? ⟨y, 0, none⟩ = some uk ∧ w'.cell? ⟨y, 1, none⟩ = some ur) W0) := (hlS.out W0 hT0.out.fr).2
      have hwb : Hid (∀ W, FR (fun a => ob uk a + ob ur a) W0 W → w.heap.size ≤ W.heap.size) := fun W hF => Nat.le_trans hx.out.size hF.2.2.2.1
      have hkk : k ≤ 1000000 := by omega
      refine X_take0 0 (v := ?vc0) rfl (by kernel_rfl) (by kernel_rfl) (by kernel_rfl) (by kernel_rfl) (fun _ _ _ h => h) (Or.inl ⟨by rfl, ?yc0⟩) ⟨hS.out.1, fun _ => hS.out.2⟩ ?rc0
      case yc0 => (intro w h; obtain ⟨_, _⟩ := h; go_simp; with_reducible rfl)
      simp only [Act.put, lyA, lyB, lyC, lyD, lyE, lyF]
      refine X_take0 2 (v := ?vc2) rfl (by kernel_rfl) (by kernel_rfl) (by kernel_rfl) (by kernel_rfl) (fun _ _ _ h => h) (Or.inl ⟨by rfl, ?yc2⟩) ⟨hS.out.1, fun _ => hS.out.2⟩ ?rc2
      case yc2 => (intro w h; obtain ⟨_, _⟩ := h; go_simp; with_reducible rfl)
      simp only [Act.put, lyA, lyB, lyC, lyD, lyE, lyF]
      refine X_take0 3 (v := ?vc3) rfl (by kernel_rfl) (by kernel_rfl) (by kernel_rfl) (by kernel_rfl) (fun _ _ _ h => h) (Or.inl ⟨by rfl, ?yc3⟩) ⟨hS.out.1, fun _ => hS.out.2⟩ ?rc3
      case yc3 => (intro w h; obtain ⟨_, _⟩ := h; go_simp; with_reducible rfl)
      simp only [Act.put, lyA, lyB, lyC, lyD, lyE, lyF]
      refine X_take0 6 (v := ?vc6) rfl (by kernel_rfl) (by kernel_rfl) (by kernel_rfl) (by kernel_rfl) (fun _ _ _ h => h) (Or.inl ⟨by rfl, ?yc6⟩) ⟨hS.out.1, fun _ => hS.out.2⟩ ?rc6
      case yc6 => (intro w h; obtain ⟨_, _⟩ := h; go_simp; with_reducible rfl)
      simp only [Act.put, lyA, lyB, lyC, lyD, lyE, lyF]
      refine X_take0 8 (v := ?vc8) rfl (by kernel_rfl) (by kernel_rfl) (by kernel_rfl) (by kernel_rfl) (fun _ _ _ h => h) (Or.inl ⟨by rfl, ?yc8⟩) ⟨hS.out.1, fun _ => hS.out.2⟩ ?rc8
      case yc8 => (intro w h; obtain ⟨_, _⟩ := h; go_simp; with_reducible rfl)
      simp only [Act.put, lyA, lyB, lyC, lyD, lyE, lyF]
      refine X_take0 9 (v := ?vc9) rfl (by kernel_rfl) (by kernel_rfl) (by kernel_rfl) (by kernel_rfl) (fun _ _ _ h => h) (Or.inl ⟨by rfl, ?yc9⟩) ⟨hS.out.1, fun _ => hS.out.2⟩ ?rc9
      case yc9 => (intro w h; obtain ⟨_, _⟩ := h; go_simp; with_reducible rfl)
      simp only [Act.put, lyA, lyB, lyC, lyD, lyE, lyF]
      refine X_take1 1 (v := ?vc1) rfl (by kernel_rfl) (by kernel_rfl) (by kernel_rfl) (by kernel_rfl) (by kernel_rfl) (by kernel_rfl) (fun _ _ _ h => h) (Or.inl ⟨by rfl, ?yc1⟩) ⟨hS.out.1, fun _ => hS.out.2⟩ ?rc1
      case yc1 => (intro w hSw; obtain ⟨⟨_, _⟩, _, _⟩ := hSw; (go_simp; with_reducible rfl))
      simp only [Act.put, lyA, lyB, lyC, lyD, lyE, lyF]
      refine X_take1 7 (v := ?vc7) rfl (by kernel_rfl) (by kernel_rfl) (by kernel_rfl) (by kernel_rfl) (by kernel_rfl) (by kernel_rfl) (fun _ _ _ h => h) (Or.inl ⟨by rfl, ?yc7⟩) ⟨hS.out.1, fun _ => hS.out.2⟩ ?rc7
      case yc7 => (intro w hSw; obtain ⟨⟨_, _⟩, _, _⟩ := hSw; (go_simp; with_reducible rfl))
      simp only [Act.put, lyA, lyB, lyC, lyD, lyE, lyF]
      refine X_two 4 10 rfl rfl (by kernel_rfl) (fun K hK => ?_) (fun K hK => ?_)
      · go_simp
        have hTa := hid (hT0.out.ext ((Ext.refl W0).alloc_right (.cells #[.string x.key] 9)))
        have news_qk : Hid (∀ (j : Nat) u, [.string x.key][j]? = some u → (W0.alloc (.cells #[.string x.key] 9)).cell? ((⟨W0.heap.size, 0, none⟩ : Addr).add j) = some u) := World.news_of_block (heap_alloc_new W0 _)
        have ob_qk := hid (hT0.out.ob0 (Nat.le_refl W0.heap.size))
        refine hK _ _ ⟨⟨(hlS.out _ hTa.out.fr).2.1, fun _ => (hlS.out _ hTa.out.fr).2.2⟩, ?_⟩
        clear hK K
        try simp only [Act.put, lyA, lyB, lyC, lyD, lyE, lyF]
        generalize W0.heap.size = qk at *
        generalize (W0.alloc (.cells #[.string x.key] 9)) = Wa at *
        refine X_two 5 10 rfl rfl (by kernel_rfl) (fun K hK => ?_) (fun K hK => ?_)
        · refine step_append_lies _ rfl _ _ 28 rfl w.heap.size 9 iS _ 1 16 Tryz.underlying28 s0 s1 s2 s3 rfl (by decide) uk k sk (by simp [Act.eval, Act.put]) hTa.out.hk ⟨qk, 0, none⟩ 1 1 [.string x.key] (by simp [Act.eval, Act.put]) rfl news_qk.out (by simp [Value.oneCell']) (by decide) (by unfold maxLen; omega) (by omega) (hwb.out _ hTa.out.fr) Wa.heap.size rfl ?_
          intro g5 c5 Wb own5 hgr hat _
          have hv5 : (Value.slice (some ⟨g5, 0, none⟩) (k + 1) c5).ownBlock = uk.ownBlock ∨ ∀ k', (Value.slice (some ⟨g5, 0, none⟩) (k + 1) c5).ownBlock = some k' → Wa.heap.size ≤ k' := by
            rcases hat with h9 | h9
            · left; rw [h9]; rfl
            · right; intro k' hk'; have h8 : g5 = k' := by simpa [Value.ownBlock] using hk'
              omega
          have hTb := hid (hTa.out.push hgr own5 hv5)
          clear hgr hat own5 hv5
          refine hK _ _ ⟨⟨(hlS.out _ hTb.out.fr).2.1, fun _ => (hlS.out _ hTb.out.fr).2.2⟩, ?_⟩
          clear hK K
          try simp only [Act.put, lyA, lyB, lyC, lyD, lyE, lyF]
          refine X_take0 12 (v := ?ve112) rfl (by kernel_rfl) (by kernel_rfl) (by kernel_rfl) (by kernel_rfl) (fun _ _ _ h => h) (Or.inl ⟨by rfl, ?ye112⟩) ⟨(hlS.out _ hTb.out.fr).2.1, fun _ => (hlS.out _ hTb.out.fr).2.2⟩ ?re112
          case ye112 => (intro w h; obtain ⟨_, _⟩ := h; go_simp; with_reducible rfl)
          simp only [Act.put, lyA, lyB, lyC, lyD, lyE, lyF]
          refine X_one 10 rfl (by kernel_rfl) (fun K hK => ?_)
          go_simp
          have hTc := hid (hTb.out.ext ((Ext.refl Wb).alloc_right (.cells #[.int .i64 x.no] 3)))
          have news_qr : Hid (∀ (j : Nat) u, [.int .i64 x.no][j]? = some u → (Wb.alloc (.cells #[.int .i64 x.no] 3)).cell? ((⟨Wb.heap.size, 0, none⟩ : Addr).add j) = some u) := World.news_of_block (heap_alloc_new Wb _)
          have ob_qr := hid (hTb.out.ob0 (Nat.le_refl Wb.heap.size))
          refine hK _ _ ⟨⟨(hlS.out _ hTc.out.fr).2.1, fun _ => (hlS.out _ hTc.out.fr).2.2⟩, ?_⟩
          clear hK K
          try simp only [Act.put, lyA, lyB, lyC, lyD, lyE, lyF]
          generalize Wb.heap.size = qr at *
          generalize (Wb.alloc (.cells #[.int .i64 x.no] 3)) = Wc at *
          refine X_one 11 rfl (by kernel_rfl) (fun K hK => ?_)
          refine step_append_lies _ rfl _ _ 29 rfl w.heap.size 3 iI _ 1 8 Tryz.underlying29 t0 t1 t2 t3 rfl (by decide) ur k ik (by simp [Act.eval, Act.put]) hTc.out.hr ⟨qr, 0, none⟩ 1 1 [.int .i64 x.no] (by simp [Act.eval, Act.put]) rfl news_qr.out (by simp [Value.oneCell']) (by decide) (by unfold maxLen; omega) (by omega) (hwb.out _ hTc.out.fr) Wc.heap.size rfl ?_
          intro g11 c11 Wd own11 hgr hat _
          have hv11 : (Value.slice (some ⟨g11, 0, none⟩) (k + 1) c11).ownBlock = ur.ownBlock ∨ ∀ k', (Value.slice (some ⟨g11, 0, none⟩) (k + 1) c11).ownBlock = some k' → Wc.heap.size ≤ k' := by
            rcases hat with h9 | h9
            · left; rw [h9]; rfl
            · right; intro k' hk'; have h8 : g11 = k' := by simpa [Value.ownBlock] using hk'
              omega
          have hTd := hid (hTc.out.swap.push hgr own11 hv11).swap
          clear hgr hat own11 hv11
          refine hK _ _ ⟨⟨(hlS.out _ hTd.out.fr).2.1, fun _ => (hlS.out _ hTd.out.fr).2.2⟩, ?_⟩
          clear hK K
          try simp only [Act.put, lyA, lyB, lyC, lyD, lyE, lyF]
          obtain ⟨yY, yS0, -⟩ := hlS.out Wd hTd.out.fr
          have yf := Lib.frozen_of_heap yY
          have ⟨yc0, yc1, _⟩ := nd3_c yY
          have hyW := (Array.getElem?_eq_some_iff.1 yY).1
          have hyk : ob (.slice (some ⟨g5, 0, none⟩) (k + 1) c5) y = 0 := by
            have h9 := hTd.out.le y (Array.getElem?_eq_some_iff.1 hY2.out).1
            have := hfy.out
            have h8 : ob (.slice (some ⟨g5, 0, none⟩) (k + 1) c5) y + ob (.slice (some ⟨g11, 0, none⟩) (k + 1) c11) y ≤ ob uk y + ob ur y := h9
            omega
          have hyr : ob (.slice (some ⟨g11, 0, none⟩) (k + 1) c11) y = 0 := by
            have h9 := hTd.out.le y (Array.getElem?_eq_some_iff.1 hY2.out).1
            have := hfy.out
            have h8 : ob (.slice (some ⟨g5, 0, none⟩) (k + 1) c5) y + ob (.slice (some ⟨g11, 0, none⟩) (k + 1) c11) y ≤ ob uk y + ob ur y := h9
            omega
          have hfin1 : Hid (((Wd.setCell ⟨y, 0, none⟩ (.slice (some ⟨g5, 0, none⟩) (k + 1) c5)).setCell ⟨y, 1, none⟩ (.slice (some ⟨g11, 0, none⟩) (k + 1) c11)).heap[y]? = some (.cells #[(.slice (some ⟨g5, 0, none⟩) (k + 1) c5), (.slice (some ⟨g11, 0, none⟩) (k + 1) c11), .slice none 0 0] 48 (0, 0))) := nd3_set1 (nd3_set0 yY _) _
          have hfin2 : Hid (((Wd.setCell ⟨y, 0, none⟩ (.slice (some ⟨g5, 0, none⟩) (k + 1) c5)).setCell ⟨y, 1, none⟩ (.slice (some ⟨g11, 0, none⟩) (k + 1) c11)).ownsRow w.heap.size 9 1 (.slice (some ⟨g5, 0, none⟩) (k + 1) c5) (k + 1) (strv ((l.take (k + 1)).map Te.key))) := by
            unfold Hid
            rw [hst.out]
            exact own_set (own_set hTd.out.hk (ob_zero hyk) _ _) (ob_zero hyk) _ _
          have hfin3 : Hid (((Wd.setCell ⟨y, 0, none⟩ (.slice (some ⟨g5, 0, none⟩) (k + 1) c5)).setCell ⟨y, 1, none⟩ (.slice (some ⟨g11, 0, none⟩) (k + 1) c11)).ownsRow w.heap.size 3 1 (.slice (some ⟨g11, 0, none⟩) (k + 1) c11) (k + 1) (ints ((l.take (k + 1)).map Te.no))) := by
            unfold Hid
            rw [hit.out]
            exact own_set (own_set hTd.out.hr (ob_zero hyr) _ _) (ob_zero hyr) _ _
          have hfin4 : Hid (∀ a, ob (.slice (some ⟨g5, 0, none⟩) (k + 1) c5) a + ob (.slice (some ⟨g11, 0, none⟩) (k + 1) c11) a + one1 y a ≤ 1) := fun a => by
            by_cases e : a = y
            · rw [e, hyk, hyr, one_self]; exact Nat.le_refl _
            · rw [show one1 y a = 0 from if_neg e]; have := hTd.out.dis a; omega
          have hfin5 : Hid (Ext w ((Wd.setCell ⟨y, 0, none⟩ (.slice (some ⟨g5, 0, none⟩) (k + 1) c5)).setCell ⟨y, 1, none⟩ (.slice (some ⟨g11, 0, none⟩) (k + 1) c11))) := by
            refine Ext.set2 (hx.out.trans' hTd.out.fr (fun a ha => ?_)) hyB.out _ _
            have h8 : ob uk a = 0 := if_neg (fun e => by have := own_freshB ok.out _ e; omega)
            have h9 : ob ur a = 0 := if_neg (fun e => by have := own_freshB or_.out _ e; omega)
            show ob uk a + ob ur a = 0
            omega
          have yz0 : (fun w' : World => w'.cell? ⟨b, 0, none⟩ = some (.string x.key) ∧ w'.cell? ⟨b, 1, none⟩ = some (.int .i64 x.no)) (Wd.setCell ⟨y, 0, none⟩ (.slice (some ⟨g5, 0, none⟩) (k + 1) c5)) := ⟨cell_far yS0.1 hb.out.2.2, cell_far yS0.2 hb.out.2.2⟩
          have yz1 : (fun w' : World => w'.cell? ⟨b, 0, none⟩ = some (.string x.key) ∧ w'.cell? ⟨b, 1, none⟩ = some (.int .i64 x.no)) ((Wd.setCell ⟨y, 0, none⟩ (.slice (some ⟨g5, 0, none⟩) (k + 1) c5)).setCell ⟨y, 1, none⟩ (.slice (some ⟨g11, 0, none⟩) (k + 1) c11)) := ⟨cell_far yz0.1 hb.out.2.2, cell_far yz0.2 hb.out.2.2⟩
          have yf0 := yf 0
          have yf1 := yf 1
          refine X_one 13 rfl (by kernel_rfl) (fun K hK => ?_)
          go_simp
          refine hK _ _ ⟨⟨yz0, fun h => absurd h (by decide)⟩, ?_⟩
          clear hK K
          try simp only [Act.put, lyA, lyB, lyC, lyD, lyE, lyF]
          refine X_one 14 rfl (by kernel_rfl) (fun K hK => ?_)
          go_simp
          refine hK _ _ ⟨⟨yz0, fun h => absurd h (by decide)⟩, ?_⟩
          clear hK K
          try simp only [Act.put, lyA, lyB, lyC, lyD, lyE, lyF]
          refine X_one 15 rfl (by kernel_rfl) (fun K hK => ?_)
          go_simp
          refine hK _ _ ⟨⟨yz1, fun h => absurd h (by decide)⟩, ?_⟩
          clear hK K
          try simp only [Act.put, lyA, lyB, lyC, lyD, lyE, lyF]
          refine X_done (by kernel_rfl) (OnlyOn.normal ?_)
          clear yz0 yz1 yf0 yf1 yf yc0 yc1 yY yS0 hyk hyr
          go_wp2_with fail
          go_roundw
          case rel => exact ⟨k + 1, _, _, by omega, by go_num, hfin1, hfin2, hfin3, hfin4, hfin5⟩
          case measure => simp [intOf]; omega
        · go_simp
          have hTb := hid (hTa.out.ext ((Ext.refl Wa).alloc_right (.cells #[.int .i64 x.no] 3)))
          have news_qr : Hid (∀ (j : Nat) u, [.int .i64 x.no][j]? = some u → (Wa.alloc (.cells #[.int .i64 x.no] 3)).cell? ((⟨Wa.heap.size, 0, none⟩ : Addr).add j) = some u) := World.news_of_block (heap_alloc_new Wa _)
          have ob_qr := hid (hTa.out.ob0 (Nat.le_refl Wa.heap.size))
          replace news_qk := hid (news_ext ((Ext.refl Wa).alloc_right (.cells #[.int .i64 x.no] 3)) news_qk.out)
          refine hK _ _ ⟨⟨(hlS.out _ hTb.out.fr).2.1, fun _ => (hlS.out _ hTb.out.fr).2.2⟩, ?_⟩
          clear hK K
          try simp only [Act.put, lyA, lyB, lyC, lyD, lyE, lyF]
          generalize Wa.heap.size = qr at *
          generalize (Wa.alloc (.cells #[.int .i64 x.no] 3)) = Wb at *
          refine X_one 5 rfl (by kernel_rfl) (fun K hK => ?_)
          refine step_append_lies _ rfl _ _ 28 rfl w.heap.size 9 iS _ 1 16 Tryz.underlying28 s0 s1 s2 s3 rfl (by decide) uk k sk (by simp [Act.eval, Act.put]) hTb.out.hk ⟨qk, 0, none⟩ 1 1 [.string x.key] (by simp [Act.eval, Act.put]) rfl news_qk.out (by simp [Value.oneCell']) (by decide) (by unfold maxLen; omega) (by omega) (hwb.out _ hTb.out.fr) Wb.heap.size rfl ?_
          intro g5 c5 Wc own5 hgr hat _
          have hv5 : (Value.slice (some ⟨g5, 0, none⟩) (k + 1) c5).ownBlock = uk.ownBlock ∨ ∀ k', (Value.slice (some ⟨g5, 0, none⟩) (k + 1) c5).ownBlock = some k' → Wb.heap.size ≤ k' := by
            rcases hat with h9 | h9
            · left; rw [h9]; rfl
            · right; intro k' hk'; have h8 : g5 = k' := by simpa [Value.ownBlock] using hk'
              omega
          have hTc := hid (hTb.out.push hgr own5 hv5)
          replace news_qr := hid (news_keep hgr news_qr.out ob_qr.out.1)
          clear hgr hat own5 hv5
          refine hK _ _ ⟨⟨(hlS.out _ hTc.out.fr).2.1, fun _ => (hlS.out _ hTc.out.fr).2.2⟩, ?_⟩
          clear hK K
          try simp only [Act.put, lyA, lyB, lyC, lyD, lyE, lyF]
          refine X_take0 12 (v := ?ve212) rfl (by kernel_rfl) (by kernel_rfl) (by kernel_rfl) (by kernel_rfl) (fun _ _ _ h => h) (Or.inl ⟨by rfl, ?ye212⟩) ⟨(hlS.out _ hTc.out.fr).2.1, fun _ => (hlS.out _ hTc.out.fr).2.2⟩ ?re212
          case ye212 => (intro w h; obtain ⟨_, _⟩ := h; go_simp; with_reducible rfl)
          simp only [Act.put, lyA, lyB, lyC, lyD, lyE, lyF]
          refine X_one 11 rfl (by kernel_rfl) (fun K hK => ?_)
          refine step_append_lies _ rfl _ _ 29 rfl w.heap.size 3 iI _ 1 8 Tryz.underlying29 t0 t1 t2 t3 rfl (by decide) ur k ik (by simp [Act.eval, Act.put]) hTc.out.hr ⟨qr, 0, none⟩ 1 1 [.int .i64 x.no] (by simp [Act.eval, Act.put]) rfl news_qr.out (by simp [Value.oneCell']) (by decide) (by unfold maxLen; omega) (by omega) (hwb.out _ hTc.out.fr) Wc.heap.size rfl ?_
          intro g11 c11 Wd own11 hgr hat _
          have hv11 : (Value.slice (some ⟨g11, 0, none⟩) (k + 1) c11).ownBlock = ur.ownBlock ∨ ∀ k', (Value.slice (some ⟨g11, 0, none⟩) (k + 1) c11).ownBlock = some k' → Wc.heap.size ≤ k' := by
            rcases hat with h9 | h9
            · left; rw [h9]; rfl
            · right; intro k' hk'; have h8 : g11 = k' := by simpa [Value.ownBlock] using hk'
              omega
          have hTd := hid (hTc.out.swap.push hgr own11 hv11).swap
          clear hgr hat own11 hv11
          refine hK _ _ ⟨⟨(hlS.out _ hTd.out.fr).2.1, fun _ => (hlS.out _ hTd.out.fr).2.2⟩, ?_⟩
          clear hK K
          try simp only [Act.put, lyA, lyB, lyC, lyD, lyE, lyF]
          obtain ⟨yY, yS0, -⟩ := hlS.out Wd hTd.out.fr
          have yf := Lib.frozen_of_heap yY
          have ⟨yc0, yc1, _⟩ := nd3_c yY
          have hyW := (Array.getElem?_eq_some_iff.1 yY).1
          have hyk : ob (.slice (some ⟨g5, 0, none⟩) (k + 1) c5) y = 0 := by
            have h9 := hTd.out.le y (Array.getElem?_eq_some_iff.1 hY2.out).1
            have := hfy.out
            have h8 : ob (.slice (some ⟨g5, 0, none⟩) (k + 1) c5) y + ob (.slice (some ⟨g11, 0, none⟩) (k + 1) c11) y ≤ ob uk y + ob ur y := h9
            omega
          have hyr : ob (.slice (some ⟨g11, 0, none⟩) (k + 1) c11) y = 0 := by
            have h9 := hTd.out.le y (Array.getElem?_eq_some_iff.1 hY2.out).1
            have := hfy.out
            have h8 : ob (.slice (some ⟨g5, 0, none⟩) (k + 1) c5) y + ob (.slice (some ⟨g11, 0, none⟩) (k + 1) c11) y ≤ ob uk y + ob ur y := h9
            omega
          have hfin1 : Hid (((Wd.setCell ⟨y, 0, none⟩ (.slice (some ⟨g5, 0, none⟩) (k + 1) c5)).setCell ⟨y, 1, none⟩ (.slice (some ⟨g11, 0, none⟩) (k + 1) c11)).heap[y]? = some (.cells #[(.slice (some ⟨g5, 0, none⟩) (k + 1) c5), (.slice (some ⟨g11, 0, none⟩) (k + 1) c11), .slice none 0 0] 48 (0, 0))) := nd3_set1 (nd3_set0 yY _) _
          have hfin2 : Hid (((Wd.setCell ⟨y, 0, none⟩ (.slice (some ⟨g5, 0, none⟩) (k + 1) c5)).setCell ⟨y, 1, none⟩ (.slice (some ⟨g11, 0, none⟩) (k + 1) c11)).ownsRow w.heap.size 9 1 (.slice (some ⟨g5, 0, none⟩) (k + 1) c5) (k + 1) (strv ((l.take (k + 1)).map Te.key))) := by
            unfold Hid
            rw [hst.out]
            exact own_set (own_set hTd.out.hk (ob_zero hyk) _ _) (ob_zero hyk) _ _
          have hfin3 : Hid (((Wd.setCell ⟨y, 0, none⟩ (.slice (some ⟨g5, 0, none⟩) (k + 1) c5)).setCell ⟨y, 1, none⟩ (.slice (some ⟨g11, 0, none⟩) (k + 1) c11)).ownsRow w.heap.size 3 1 (.slice (some ⟨g11, 0, none⟩) (k + 1) c11) (k + 1) (ints ((l.take (k + 1)).map Te.no))) := by
            unfold Hid
            rw [hit.out]
            exact own_set (own_set hTd.out.hr (ob_zero hyr) _ _) (ob_zero hyr) _ _
          have hfin4 : Hid (∀ a, ob (.slice (some ⟨g5, 0, none⟩) (k + 1) c5) a + ob (.slice (some ⟨g11, 0, none⟩) (k + 1) c11) a + one1 y a ≤ 1) := fun a => by
            by_cases e : a = y
            · rw [e, hyk, hyr, one_self]; exact Nat.le_refl _
            · rw [show one1 y a = 0 from if_neg e]; have := hTd.out.dis a; omega
          have hfin5 : Hid (Ext w ((Wd.setCell ⟨y, 0, none⟩ (.slice (some ⟨g5, 0, none⟩) (k + 1) c5)).setCell ⟨y, 1, none⟩ (.slice (some ⟨g11, 0, none⟩) (k + 1) c11))) := by
            refine Ext.set2 (hx.out.trans' hTd.out.fr (fun a ha => ?_)) hyB.out _ _
            have h8 : ob uk a = 0 := if_neg (fun e => by have := own_freshB ok.out _ e; omega)
            have h9 : ob ur a = 0 := if_neg (fun e => by have := own_freshB or_.out _ e; omega)
            show ob uk a + ob ur a = 0
            omega
          have yz0 : (fun w' : World => w'.cell? ⟨b, 0, none⟩ = some (.string x.key) ∧ w'.cell? ⟨b, 1, none⟩ = some (.int .i64 x.no)) (Wd.setCell ⟨y, 0, none⟩ (.slice (some ⟨g5, 0, none⟩) (k + 1) c5)) := ⟨cell_far yS0.1 hb.out.2.2, cell_far yS0.2 hb.out.2.2⟩
          have yz1 : (fun w' : World => w'.cell? ⟨b, 0, none⟩ = some (.string x.key) ∧ w'.cell? ⟨b, 1, none⟩ = some (.int .i64 x.no)) ((Wd.setCell ⟨y, 0, none⟩ (.slice (some ⟨g5, 0, none⟩) (k + 1) c5)).setCell ⟨y, 1, none⟩ (.slice (some ⟨g11, 0, none⟩) (k + 1) c11)) := ⟨cell_far yz0.1 hb.out.2.2, cell_far yz0.2 hb.out.2.2⟩
          have yf0 := yf 0
          have yf1 := yf 1
          refine X_one 13 rfl (by kernel_rfl) (fun K hK => ?_)
          go_simp
          refine hK _ _ ⟨⟨yz0, fun h => absurd h (by decide)⟩, ?_⟩
          clear hK K
          try simp only [Act.put, lyA, lyB, lyC, lyD, lyE, lyF]
          refine X_one 14 rfl (by kernel_rfl) (fun K hK => ?_)
          go_simp
          refine hK _ _ ⟨⟨yz0, fun h => absurd h (by decide)⟩, ?_⟩
          clear hK K
          try simp only [Act.put, lyA, lyB, lyC, lyD, lyE, lyF]
          refine X_one 15 rfl (by kernel_rfl) (fun K hK => ?_)
          go_simp
          refine hK _ _ ⟨⟨yz1, fun h => absurd h (by decide)⟩, ?_⟩
          clear hK K
          try simp only [Act.put, lyA, lyB, lyC, lyD, lyE, lyF]
          refine X_done (by kernel_rfl) (OnlyOn.normal ?_)
          clear yz0 yz1 yf0 yf1 yf yc0 yc1 yY yS0 hyk hyr
          go_wp2_with fail
          go_roundw
          case rel => exact ⟨k + 1, _, _, by omega, by go_num, hfin1, hfin2, hfin3, hfin4, hfin5⟩
          case measure => simp [intOf]; omega
      · go_simp
        have hTa := hid (hT0.out.ext ((Ext.refl W0).alloc_right (.cells #[.int .i64 x.no] 3)))
        have news_qr : Hid (∀ (j : Nat) u, [.int .i64 x.no][j]? = some u → (W0.alloc (.cells #[.int .i64 x.no] 3)).cell? ((⟨W0.heap.size, 0, none⟩ : Addr).add j) = some u) := World.news_of_block (heap_alloc_new W0 _)
        have ob_qr := hid (hT0.out.ob0 (Nat.le_refl W0.heap.size))
        refine hK _ _ ⟨⟨(hlS.out _ hTa.out.fr).2.1, fun _ => (hlS.out _ hTa.out.fr).2.2⟩, ?_⟩
        clear hK K
        try simp only [Act.put, lyA, lyB, lyC, lyD, lyE, lyF]
        generalize W0.heap.size = qr at *
        generalize (W0.alloc (.cells #[.int .i64 x.no] 3)) = Wa at *
        refine X_one 4 rfl (by kernel_rfl) (fun K hK => ?_)
        go_simp
        have hTb := hid (hTa.out.ext ((Ext.refl Wa).alloc_right (.cells #[.string x.key] 9)))
        have news_qk : Hid (∀ (j : Nat) u, [.string x.key][j]? = some u → (Wa.alloc (.cells #[.string x.key] 9)).cell? ((⟨Wa.heap.size, 0, none⟩ : Addr).add j) = some u) := World.news_of_block (heap_alloc_new Wa _)
        have ob_qk := hid (hTa.out.ob0 (Nat.le_refl Wa.heap.size))
        replace news_qr := hid (news_ext ((Ext.refl Wa).alloc_right (.cells #[.string x.key] 9)) news_qr.out)
        refine hK _ _ ⟨⟨(hlS.out _ hTb.out.fr).2.1, fun _ => (hlS.out _ hTb.out.fr).2.2⟩, ?_⟩
        clear hK K
        try simp only [Act.put, lyA, lyB, lyC, lyD, lyE, lyF]
        generalize Wa.heap.size = qk at *
        generalize (Wa.alloc (.cells #[.string x.key] 9)) = Wb at *
        refine X_one 5 rfl (by kernel_rfl) (fun K hK => ?_)
        refine step_append_lies _ rfl _ _ 28 rfl w.heap.size 9 iS _ 1 16 Tryz.underlying28 s0 s1 s2 s3 rfl (by decide) uk k sk (by simp [Act.eval, Act.put]) hTb.out.hk ⟨qk, 0, none⟩ 1 1 [.string x.key] (by simp [Act.eval, Act.put]) rfl news_qk.out (by simp [Value.oneCell']) (by decide) (by unfold maxLen; omega) (by omega) (hwb.out _ hTb.out.fr) Wb.heap.size rfl ?_
        intro g5 c5 Wc own5 hgr hat _
        have hv5 : (Value.slice (some ⟨g5, 0, none⟩) (k + 1) c5).ownBlock = uk.ownBlock ∨ ∀ k', (Value.slice (some ⟨g5, 0, none⟩) (k + 1) c5).ownBlock = some k' → Wb.heap.size ≤ k' := by
          rcases hat with h9 | h9
          · left; rw [h9]; rfl
          · right; intro k' hk'; have h8 : g5 = k' := by simpa [Value.ownBlock] using hk'
            omega
        have hTc := hid (hTb.out.push hgr own5 hv5)
        replace news_qr := hid (news_keep hgr news_qr.out ob_qr.out.1)
        clear hgr hat own5 hv5
        refine hK _ _ ⟨⟨(hlS.out _ hTc.out.fr).2.1, fun _ => (hlS.out _ hTc.out.fr).2.2⟩, ?_⟩
        clear hK K
        try simp only [Act.put, lyA, lyB, lyC, lyD, lyE, lyF]
        refine X_take0 12 (v := ?ve312) rfl (by kernel_rfl) (by kernel_rfl) (by kernel_rfl) (by kernel_rfl) (fun _ _ _ h => h) (Or.inl ⟨by rfl, ?ye312⟩) ⟨(hlS.out _ hTc.out.fr).2.1, fun _ => (hlS.out _ hTc.out.fr).2.2⟩ ?re312
        case ye312 => (intro w h; obtain ⟨_, _⟩ := h; go_simp; with_reducible rfl)
        simp only [Act.put, lyA, lyB, lyC, lyD, lyE, lyF]
        refine X_one 11 rfl (by kernel_rfl) (fun K hK => ?_)
        refine step_append_lies _ rfl _ _ 29 rfl w.heap.size 3 iI _ 1 8 Tryz.underlying29 t0 t1 t2 t3 rfl (by decide) ur k ik (by simp [Act.eval, Act.put]) hTc.out.hr ⟨qr, 0, none⟩ 1 1 [.int .i64 x.no] (by simp [Act.eval, Act.put]) rfl news_qr.out (by simp [Value.oneCell']) (by decide) (by unfold maxLen; omega) (by omega) (hwb.out _ hTc.out.fr) Wc.heap.size rfl ?_
        intro g11 c11 Wd own11 hgr hat _
        have hv11 : (Value.slice (some ⟨g11, 0, none⟩) (k + 1) c11).ownBlock = ur.ownBlock ∨ ∀ k', (Value.slice (some ⟨g11, 0, none⟩) (k + 1) c11).ownBlock = some k' → Wc.heap.size ≤ k' := by
          rcases hat with h9 | h9
          · left; rw [h9]; rfl
          · right; intro k' hk'; have h8 : g11 = k' := by simpa [Value.ownBlock] using hk'
            omega
        have hTd := hid (hTc.out.swap.push hgr own11 hv11).swap
        clear hgr hat own11 hv11
        refine hK _ _ ⟨⟨(hlS.out _ hTd.out.fr).2.1, fun _ => (hlS.out _ hTd.out.fr).2.2⟩, ?_⟩
        clear hK K
        try simp only [Act.put, lyA, lyB, lyC, lyD, lyE, lyF]
        obtain ⟨yY, yS0, -⟩ := hlS.out Wd hTd.out.fr
        have yf := Lib.frozen_of_heap yY
        have ⟨yc0, yc1, _⟩ := nd3_c yY
        have hyW := (Array.getElem?_eq_some_iff.1 yY).1
        have hyk : ob (.slice (some ⟨g5, 0, none⟩) (k + 1) c5) y = 0 := by
          have h9 := hTd.out.le y (Array.getElem?_eq_some_iff.1 hY2.out).1
          have := hfy.out
          have h8 : ob (.slice (some ⟨g5, 0, none⟩) (k + 1) c5) y + ob (.slice (some ⟨g11, 0, none⟩) (k + 1) c11) y ≤ ob uk y + ob ur y := h9
          omega
        have hyr : ob (.slice (some ⟨g11, 0, none⟩) (k + 1) c11) y = 0 := by
          have h9 := hTd.out.le y (Array.getElem?_eq_some_iff.1 hY2.out).1
          have := hfy.out
          have h8 : ob (.slice (some ⟨g5, 0, none⟩) (k + 1) c5) y + ob (.slice (some ⟨g11, 0, none⟩) (k + 1) c11) y ≤ ob uk y + ob ur y := h9
          omega
        have hfin1 : Hid (((Wd.setCell ⟨y, 0, none⟩ (.slice (some ⟨g5, 0, none⟩) (k + 1) c5)).setCell ⟨y, 1, none⟩ (.slice (some ⟨g11, 0, none⟩) (k + 1) c11)).heap[y]? = some (.cells #[(.slice (some ⟨g5, 0, none⟩) (k + 1) c5), (.slice (some ⟨g11, 0, none⟩) (k + 1) c11), .slice none 0 0] 48 (0, 0))) := nd3_set1 (nd3_set0 yY _) _
        have hfin2 : Hid (((Wd.setCell ⟨y, 0, none⟩ (.slice (some ⟨g5, 0, none⟩) (k + 1) c5)).setCell ⟨y, 1, none⟩ (.slice (some ⟨g11, 0, none⟩) (k + 1) c11)).ownsRow w.heap.size 9 1 (.slice (some ⟨g5, 0, none⟩) (k + 1) c5) (k + 1) (strv ((l.take (k + 1)).map Te.key))) := by
          unfold Hid
          rw [hst.out]
          exact own_set (own_set hTd.out.hk (ob_zero hyk) _ _) (ob_zero hyk) _ _
        have hfin3 : Hid (((Wd.setCell ⟨y, 0, none⟩ (.slice (some ⟨g5, 0, none⟩) (k + 1) c5)).setCell ⟨y, 1, none⟩ (.slice (some ⟨g11, 0, none⟩) (k + 1) c11)).ownsRow w.heap.size 3 1 (.slice (some ⟨g11, 0, none⟩) (k + 1) c11) (k + 1) (ints ((l.take (k + 1)).map Te.no))) := by
          unfold Hid
          rw [hit.out]
          exact own_set (own_set hTd.out.hr (ob_zero hyr) _ _) (ob_zero hyr) _ _
        have hfin4 : Hid (∀ a, ob (.slice (some ⟨g5, 0, none⟩) (k + 1) c5) a + ob (.slice (some ⟨g11, 0, none⟩) (k + 1) c11) a + one1 y a ≤ 1) := fun a => by
          by_cases e : a = y
          · rw [e, hyk, hyr, one_self]; exact Nat.le_refl _
          · rw [show one1 y a = 0 from if_neg e]; have := hTd.out.dis a; omega
        have hfin5 : Hid (Ext w ((Wd.setCell ⟨y, 0, none⟩ (.slice (some ⟨g5, 0, none⟩) (k + 1) c5)).setCell ⟨y, 1, none⟩ (.slice (some ⟨g11, 0, none⟩) (k + 1) c11))) := by
          refine Ext.set2 (hx.out.trans' hTd.out.fr (fun a ha => ?_)) hyB.out _ _
          have h8 : ob uk a = 0 := if_neg (fun e => by have := own_freshB ok.out _ e; omega)
          have h9 : ob ur a = 0 := if_neg (fun e => by have := own_freshB or_.out _ e; omega)
          show ob uk a + ob ur a = 0
          omega
        have yz0 : (fun w' : World => w'.cell? ⟨b, 0, none⟩ = some (.string x.key) ∧ w'.cell? ⟨b, 1, none⟩ = some (.int .i64 x.no)) (Wd.setCell ⟨y, 0, none⟩ (.slice (some ⟨g5, 0, none⟩) (k + 1) c5)) := ⟨cell_far yS0.1 hb.out.2.2, cell_far yS0.2 hb.out.2.2⟩
        have yz1 : (fun w' : World => w'.cell? ⟨b, 0, none⟩ = some (.string x.key) ∧ w'.cell? ⟨b, 1, none⟩ = some (.int .i64 x.no)) ((Wd.setCell ⟨y, 0, none⟩ (.slice (some ⟨g5, 0, none⟩) (k + 1) c5)).setCell ⟨y, 1, none⟩ (.slice (some ⟨g11, 0, none⟩) (k + 1) c11)) := ⟨cell_far yz0.1 hb.out.2.2, cell_far yz0.2 hb.out.2.2⟩
        have yf0 := yf 0
        have yf1 := yf 1
        refine X_one 13 rfl (by kernel_rfl) (fun K hK => ?_)
        go_simp
        refine hK _ _ ⟨⟨yz0, fun h => absurd h (by decide)⟩, ?_⟩
        clear hK K
        try simp only [Act.put, lyA, lyB, lyC, lyD, lyE, lyF]
        refine X_one 14 rfl (by kernel_rfl) (fun K hK => ?_)
        go_simp
        refine hK _ _ ⟨⟨yz0, fun h => absurd h (by decide)⟩, ?_⟩
        clear hK K
        try simp only [Act.put, lyA, lyB, lyC, lyD, lyE, lyF]
        refine X_one 15 rfl (by kernel_rfl) (fun K hK => ?_)
        go_simp
        refine hK _ _ ⟨⟨yz1, fun h => absurd h (by decide)⟩, ?_⟩
        clear hK K
        try simp only [Act.put, lyA, lyB, lyC, lyD, lyE, lyF]
        refine X_done (by kernel_rfl) (OnlyOn.normal ?_)
        clear yz0 yz1 yf0 yf1 yf yc0 yc1 yY yS0 hyk hyr
        go_wp2_with fail
        go_roundw
        case rel => exact ⟨k + 1, _, _, by omega, by go_num, hfin1, hfin2, hfin3, hfin4, hfin5⟩
        case measure => simp [intOf]; omega
    · obtain rfl : k = l.length := by omega
      rw [List.take_length] at ok or_
      have hNR : Hid (NR wr w.heap.size ⟨uk, ur, .slice none 0 0⟩ ⟨l.map Te.key, l.map Te.no, []⟩ (fun a => ob uk a + ob ur a)) := ⟨by rw [List.length_map]; exact ok.out, by rw [List.length_map]; exact or_.out, World.ownsRow_nil _ _ _ _, fun a => by show ob uk a + ob ur a = ob uk a + ob ur a + ob (.slice none 0 0) a; rw [hnil.out a]; rfl⟩
      have hov := hid (hownx.out wr hx.out)
      have hwz := hx.out.size
      obtain ⟨-, zk1, -, -⟩ := hxr.out wr hx.out
      have lzk := World.block_lt_of_cell? _ _ zk1
      dsimp only at lzk
      obtain ⟨yc0, yc1, yc2⟩ := nd3_c hY.out
      have lyc := World.block_lt_of_cell? _ _ yc0
      dsimp only at lyc
      obtain ⟨A1, c1, rfl, -⟩ := own_form ok.out
      obtain ⟨A2, c2, rfl, -⟩ := own_form or_.out
      have hwBr : B ≤ wr.heap.size := Nat.le_trans hB.out hwz
      go_wp2_with (at_builtin; refine wpList_push _ rfl _ _ 38 rfl B 48 iN _ 3 72 Tryz.underlying38 n0 n1 n2 n3 rfl (by decide) _ _ _ rfl hov.out [.slice A1 l.length c1, .slice A2 l.length c2, .slice none 0 0] (by simp [Act.eval]) rfl (by simp [Value.oneCell']) (by unfold maxLen; omega) (by omega) hwBr ?_)
      intro g2 d2 w3 own2 hg2 hat
      have hL1 : Hid (LI (fun a => ob (.slice Av xs.length cv) a + g a) w w3 B (.slice (some ⟨g2, 0, none⟩) (xs.length + 1) d2) (xs ++ [⟨l.map Te.key, l.map Te.no, []⟩])) := hLB.out wr w3 _ _ _ _ hx.out hNR.out hB.out (fun a => by have := dis.out a; omega) hg2 own2 (at_own hat (by omega) _ _)
      clear own2 hg2 hat hNR hov ok or_ dis hx hY yc0 yc1 yc2 lyc zk1 lzk hwBr hwz hY0 hx1 zl0 hLB hxr hr
      have hfr3 := hid (by obtain ⟨vs9, g9, h9⟩ := hL1.out; exact h9.fr : Hid (FR (fun a => ob (.slice Av xs.length cv) a + g a) w w3))
      obtain ⟨-, zk3, -, -⟩ := hin.out w3 hfr3.out.out
      have lzk3 := World.block_lt_of_cell? _ _ zk3
      dsimp only at lzk3
      replace hL1 : Hid (LI (fun a => ob (.slice Av xs.length cv) a + g a) w w3 B (.slice (some ⟨g2, 0, none⟩) (xs.length + 1) d2) (xs ++ ⟨l.map Te.key, l.map Te.no, kno F (ks.take 0) (xs.length + 1)⟩ :: kls F (ks.take 0) (xs.length + 1))) := hL1
      clear hfr3
      go_wp2_with fail
      go_loopw [1, 48] (fun o i wr => ∃ k : Nat, k ≤ ps.length ∧ i = .int .i64 k ∧ Hid (LI (fun a => ob (.slice Av xs.length cv) a + g a) w wr B o (xs ++ ⟨l.map Te.key, l.map Te.no, kno F (ks.take k) (xs.length + 1)⟩ :: kls F (ks.take k) (xs.length + 1)))) (fun _ i _ => ps.length - (intOf i).toNat)
      case atStart => exact ⟨0, by omega, rfl, hL1⟩
      case round =>
        obtain ⟨k, hk, rfl, hL⟩ := hrel
        by_cases hlt : k < ps.length
        · obtain ⟨vs9, g9, h9⟩ := hL.out
          obtain ⟨Ao, co, rfl, -⟩ := own_form h9.own
          obtain ⟨-, -, -, hkr9⟩ := hin.out wr h9.fr
          obtain ⟨q, K, hq, hK, hC⟩ := hkid.out k wr _ _ vs9 g9 hlt h9 (fun K hK => by
            have h8 := hbd.out k K hK
            rw [show (xs ++ ⟨l.map Te.key, l.map Te.no, kno F (ks.take k) (xs.length + 1)⟩ :: kls F (ks.take k) (xs.length + 1)).length = xs.length + 1 + (kls F (ks.take k) (xs.length + 1)).length by simp; omega]
            exact h8)
          obtain ⟨kad, rfl, -⟩ := hkr9.2.2.2 (by omega)
          have cq := rd_ptr hkr9 hq
          have hC' := hid hC
          have hst := hid (xs_snoc (F := F) (l := l) (xs := xs) hK)
          have h9' := hid h9
          have hb9 := hbd.out k K hK
          have hkb9 : (kls F (ks.take k) (xs.length + 1)).length ≤ 1000000 := by omega
          have hkn9 : (kno F (ks.take k) (xs.length + 1)).length ≤ 1000000 := by
            rw [kno_len, List.length_take]
            have := hpk.out
            have := hkl'.out
            omega
          have hki : (k : Int) < (ps.length : Int) := by omega
          clear hC hkr9 hq hK h9 hL hb9
          generalize hnn : (xs ++ ⟨l.map Te.key, l.map Te.no, kno F (ks.take k) (xs.length + 1)⟩ :: kls F (ks.take k) (xs.length + 1)).length = nn at *
          replace hnn := hid hnn
          generalize hkn : kno F (ks.take k) (xs.length + 1) = kn at *
          generalize hkk : kls F (ks.take k) (xs.length + 1) = kk at *
          clear hkn hkk
          go_wp2_with fail
          refine hC'.out.mono ?_
          rintro e w2 ⟨v2, rfl, hL2⟩
          obtain ⟨vs2, g2', h2⟩ := h9'.out.trans hL2
          have h2' : LIx (fun a => ob (.slice Av xs.length cv) a + g a) w w2 B v2 (xs ++ ⟨l.map Te.key, l.map Te.no, kn⟩ :: (kk ++ F K nn)) vs2 g2' := by
            have : xs ++ ⟨l.map Te.key, l.map Te.no, kn⟩ :: (kk ++ F K nn) = (xs ++ ⟨l.map Te.key, l.map Te.no, kn⟩ :: kk) ++ F K nn := by simp
            rw [this]
            exact h2
          clear h2 hL2 hC' h9' cq
          obtain ⟨v1, ⟨uk2, ur2, ud⟩, v3, g0, g1, g3, rfl, hl1, c0, c1, c3, hgs⟩ := NL.cut h2'.nl
          obtain ⟨Ad, cd, rfl, -⟩ := own_form (show w2.ownsRow B 3 1 ud kn.length (ints kn) from c1.2.2.1)
          obtain ⟨gb, cb, rfl, -, hgb, -, hcb, hfz⟩ := own_sliceK h2'.own (by rw [List.length_append, List.length_cons]; omega)
          have hcell : w2.cell? ((⟨gb, 0, none⟩ : Addr).add (xs.length * 3 + 2)) = some (.slice Ad kn.length cd) := h2'.own.cells (g := gb) rfl _ _ (rowsV_at v1 _ v3 hl1).2.2
          rw [lit_add] at hcell
          have hadd : (⟨gb, 0, none⟩ : Addr).add (xs.length * 3) = ⟨gb, xs.length * 3, none⟩ := by rw [lit_add]; simp
          rw [Nat.zero_add] at hcell
          have hlx : xs.length < (xs ++ ⟨l.map Te.key, l.map Te.no, kn⟩ :: (kk ++ F K nn)).length := by rw [List.length_append, List.length_cons]; omega
          have hlxi : (xs.length : Int) < ((xs ++ ⟨l.map Te.key, l.map Te.no, kn⟩ :: (kk ++ F K nn)).length : Int) := by omega
          have hdown := hid c1.2.2.1
          have hKid := hid (fun (w3 : World) (d' : Value) => LIx.kid (w3 := w3) (d' := d') (k := (nn : Int)) h2' hl1 c0 c1 c3 hgs)
          have hrow3 := hid (fun (w3 : World) (hg : w2.grownBy w3 (Value.slice Ad kn.length cd).ownBlock) => own_ne h2'.own hg (fun k e e2 => by
            have e3 : (Value.slice Ad kn.length cd).ownBlock = some k := by first | exact e2 | exact e2.symm
            have h1 := h2'.dis k
            rw [ob_some e, hgs k, c1.2.2.2 k, ob_some e3] at h1
            omega))
          have hB2 : B ≤ w2.heap.size := Nat.le_trans hB.out h2'.fr.2.2.2.1
          have hat3 : Hid ((rowsV (v1 ++ ⟨uk2, ur2, .slice Ad kn.length cd⟩ :: v3))[xs.length * 3 + 2]? = some (.slice Ad kn.length cd)) := (rowsV_at v1 ⟨uk2, ur2, .slice Ad kn.length cd⟩ v3 hl1).2.2
          generalize hLL : (xs ++ ⟨l.map Te.key, l.map Te.no, kn⟩ :: (kk ++ F K nn)).length = LL at *
          replace hLL := hid hLL
          clear h2' c0 c1 c3 hgs
          go_wp2_with (at_builtin; refine wpList_pushI _ rfl _ _ 29 rfl B 3 iI Tryz.underlying29 t0 t1 t2 t3 (.slice Ad kn.length cd) _ kn (by simp [Act.eval]) hdown.out nn (by simp [Act.eval]) (by omega) hB2 ?_)
          intro g6 c6 w3 own6 hg6 hat6
          have ho6 := hid (hKid.out w3 _ hg6 own6 (at_own hat6 (by omega) _ _))
          have hr6 := hrow3.out w3 hg6
          have hc6 := hr6.cells (g := gb) rfl _ _ hat3.out
          rw [lit_add, Nat.zero_add] at hc6
          have hf6 : w3.frozen? ⟨gb, xs.length * 3 + 2, none⟩ = false := by
            obtain ⟨gb', cb', e9, -, -, -, -, hz⟩ := own_sliceK hr6 (by omega)
            injection e9 with e9 _ _
            injection e9 with e9
            injection e9 with e9 _ _
            rw [e9]
            exact hz _
          have hgb6 := (World.block_lt_of_cell? _ _ hc6)
          dsimp only at hgb6
          have hfin6 : Hid (LI (fun a => ob (.slice Av xs.length cv) a + g a) w (w3.setCell ⟨gb, xs.length * 3 + 2, none⟩ (.slice (some ⟨g6, 0, none⟩) (kn.length + 1) c6)) B (.slice (some ⟨gb, 0, none⟩) LL cb) (xs ++ ⟨l.map Te.key, l.map Te.no, kno F (ks.take (k + 1)) (xs.length + 1)⟩ :: kls F (ks.take (k + 1)) (xs.length + 1))) := by
            rw [hst.out]
            exact ho6.out
          clear hr6 own6 hg6 hat6 ho6 hKid hrow3 hat3 hdown hcell
          go_wp2_with fail
          go_roundw
          case rel => exact ⟨k + 1, by omega, by go_num, hfin6⟩
          case measure => simp [intOf]; omega
        · obtain rfl : k = ps.length := by omega
          have hL' := hL
          obtain ⟨vs9, g9, h9⟩ := hL
          obtain ⟨Ao, co, rfl, -⟩ := own_form h9.own
          clear h9
          go_wp2
          go_ret2
          exact ⟨_, rfl, by rw [hfin.out]; exact hL'.out⟩
open Go.RowKit Go.Shelf
theorem search_any (n r fid : Nat) (x y : Value) (Q : Nat → Bool) (w : World) (hn : n ≤ 1000000) (hr : r ≤ n) (en : ∀ (a : Value) (w : World), (callFunc fid #[a, x, y]).run Tryz.prog w = .ok (.enter fid #[a, x, y]) w)
    (hC : Hid (∀ (k : Nat) (w' : World), k < n → Ext w w' → Calls Tryz.prog fid #[.int .i64 k, x, y] w' (Give (.bool (Q k)) w'))) (h1 : Hid (∀ t, t < r → Q t = false)) (h2 : Hid (∀ t, r ≤ t → t < n → Q t = true)) : Calls Tryz.prog 57 #[.int .i64 n, .func (.func fid) #[] #[x, y]] w (Give (.int .i64 r) w) := by
  go_enter Tryz.func57, Tryz.ntmps57
  go_wp2_with fail
  go_loopw [5, 6] (fun i j wr => ∃ lo hi : Nat, i = .int .i64 lo ∧ j = .int .i64 hi ∧ lo ≤ r ∧ r ≤ hi ∧ hi ≤ n ∧ Hid (Ext w wr)) (fun i j _ => (intOf j).toNat - (intOf i).toNat)
  case atStart => exact ⟨0, n, rfl, rfl, by omega, by omega, by omega, Ext.refl _⟩
  case round =>
    obtain ⟨lo, hi, rfl, rfl, hle, hri, hhi, hx⟩ := hrel
    by_cases hlt : lo < hi
    · obtain ⟨md, hmd⟩ : ∃ md, md = (lo + hi) / 2 := ⟨_, rfl⟩
      have hm1 : lo ≤ md ∧ md < hi := by omega
      have hms : ((lo : Int) + (hi : Int)) / 2 = (md : Int) := by omega
      have hcl := hid (hC.out md wr (by omega) hx.out)
      by_cases hmr : md < r
      · rw [h1.out md hmr] at hcl
        replace hmd := hid hmd
        go_wp2_with fail
        refine (hcl.out).mono ?_
        rintro e w3 ⟨rfl, hx3⟩
        replace hx := hid (hx.out.trans hx3)
        clear hx3 hcl
        go_wp2_with fail
        go_roundw
        case rel => exact ⟨md + 1, hi, by go_num, rfl, by omega, hri, hhi, hx⟩
        case measure => simp [intOf]; omega
      · rw [h2.out md (by omega) (by omega)] at hcl
        replace hmd := hid hmd
        go_wp2_with fail
        refine (hcl.out).mono ?_
        rintro e w3 ⟨rfl, hx3⟩
        replace hx := hid (hx.out.trans hx3)
        clear hx3 hcl
        go_wp2_with fail
        go_roundw
        case rel => exact ⟨lo, md, rfl, rfl, hle, by omega, by omega, hx⟩
        case measure => simp [intOf]; omega
    · obtain rfl : lo = r := by omega
      obtain rfl : hi = lo := by omega
      go_wp2
      go_ret
      exact ⟨rfl, hx.out⟩
theorem fromC_any (A : Option Addr) (n c p q k : Nat) (l : List Te) (e : Te) (w : World) (hl : RdN w A n c l) (hk : k < n) (hn : n ≤ 1000000) (hp : w.cell? ⟨p, 0, none⟩ = some (.slice A n c)) (h0 : w.cell? ⟨q, 0, none⟩ = some (.string e.key)) (h1 : w.cell? ⟨q, 1, none⟩ = some (.int .i64 e.no)) : Calls Tryz.prog 68 #[.int .i64 k, .pointer (some ⟨p, 0, none⟩), .pointer (some ⟨q, 0, none⟩)] w (Give (.bool (decide (0 ≤ cmpT (tth l k) e))) w) := by
  obtain ⟨ad, rfl, x0, x1⟩ := hl.at_ hk
  have hmx := Rd.max hl
  have hkn : (k : Int) < (n : Int) := by omega
  generalize tth l k = x at *
  replace hl := hid hl
  go_enter Tryz.func68, Tryz.ntmps68
  go_upto_region 1 with fail
  have I0 : (fun w' : World => w'.cell? ⟨p, 0, none⟩ = some (.slice (some ad) n c) ∧ w'.cell? (ad.add (k * 2)) = some (.string x.key) ∧ w'.cell? ⟨(ad.add (k * 2)).block, (ad.add (k * 2)).off + 1, none⟩ = some (.int .i64 x.no) ∧ w'.cell? ⟨q, 0, none⟩ = some (.string e.key) ∧ w'.cell? ⟨q, 1, none⟩ = some (.int .i64 e.no)) w.drew := ⟨hp, x0, x1, h0, h1⟩
  have hx := hid ((Ext.refl w).drew_right)
  refine region_J (fun w' : World => w'.cell? ⟨p, 0, none⟩ = some (.slice (some ad) n c) ∧ w'.cell? (ad.add (k * 2)) = some (.string x.key) ∧ w'.cell? ⟨(ad.add (k * 2)).block, (ad.add (k * 2)).off + 1, none⟩ = some (.int .i64 x.no) ∧ w'.cell? ⟨q, 0, none⟩ = some (.string e.key) ∧ w'.cell? ⟨q, 1, none⟩ = some (.int .i64 e.no)) 8 (by kernel_rfl) ?_
  clear hp x0 x1 h0 h1
  generalize w.drew = w1 at *
  refine JO 0 (v := ?vc0) I0 ?yc0 ?rc0
  case yc0 => (intro w h; obtain ⟨_, _, _, _, _⟩ := h; go_simp; with_reducible rfl)
  simp only [Act.put, lyA, lyB, lyC, lyD, lyE, lyF]
  refine JO 1 (v := ?vc1) I0 ?yc1 ?rc1
  case yc1 => (intro w h; obtain ⟨_, _, _, _, _⟩ := h; go_simp; with_reducible rfl)
  simp only [Act.put, lyA, lyB, lyC, lyD, lyE, lyF]
  refine JO 2 (v := ?vc2) I0 ?yc2 ?rc2
  case yc2 => (intro w h; obtain ⟨_, _, _, _, _⟩ := h; go_simp; with_reducible rfl)
  simp only [Act.put, lyA, lyB, lyC, lyD, lyE, lyF]
  refine JO 3 (v := ?vc3) I0 ?yc3 ?rc3
  case yc3 => (intro w h; obtain ⟨_, _, _, _, _⟩ := h; go_simp; with_reducible rfl)
  simp only [Act.put, lyA, lyB, lyC, lyD, lyE, lyF]
  refine JO 4 (v := ?vc4) I0 ?yc4 ?rc4
  case yc4 => (intro w h; obtain ⟨_, _, _, _, _⟩ := h; go_simp; with_reducible rfl)
  simp only [Act.put, lyA, lyB, lyC, lyD, lyE, lyF]
  refine J_one 5 rfl (by kernel_rfl) (fun K hK => ?_)
  go_simp
  refine (compare_any x e _ ).mono ?_
  rintro e' w5 ⟨rfl, hx5⟩
  have I5 : (fun w' : World => w'.cell? ⟨p, 0, none⟩ = some (.slice (some ad) n c) ∧ w'.cell? (ad.add (k * 2)) = some (.string x.key) ∧ w'.cell? ⟨(ad.add (k * 2)).block, (ad.add (k * 2)).off + 1, none⟩ = some (.int .i64 x.no) ∧ w'.cell? ⟨q, 0, none⟩ = some (.string e.key) ∧ w'.cell? ⟨q, 1, none⟩ = some (.int .i64 e.no)) w5 := ⟨hx5.cell I0.1, hx5.cell I0.2.1, hx5.cell I0.2.2.1, hx5.cell I0.2.2.2.1, hx5.cell I0.2.2.2.2⟩
  have hx6 := hid (hx.out.trans hx5)
  clear hx5
  refine hK _ _ ⟨fun _ => I5, ?_⟩
  clear hK K
  try simp only [Act.put, lyA, lyB, lyC, lyD, lyE, lyF]
  refine JO 6 (v := ?vce6) I5 ?yce6 ?rce6
  case yce6 => (intro w h; obtain ⟨_, _, _, _, _⟩ := h; go_simp; with_reducible rfl)
  simp only [Act.put, lyA, lyB, lyC, lyD, lyE, lyF]
  refine J_one 7 rfl (by kernel_rfl) (fun K hK => ?_)
  go_simp
  refine hK _ _ ⟨fun _ => I5, ?_⟩
  clear hK K
  try simp only [Act.put, lyD, lyE, lyF]
  refine J_done (by kernel_rfl) (OnlyOn.normal ?_)
  generalize cmpT x e = z at *
  go_wp2
  go_ret
  exact ⟨by first | rfl | (congr 2; simp), hx6.out⟩
theorem nextC_any (A : Option Addr) (n c p q k : Nat) (l : List Te) (e : Te) (w : World) (hl : RdN w A n c l) (hk : k < n) (hn : n ≤ 1000000) (hp : w.cell? ⟨p, 0, none⟩ = some (.slice A n c)) (h0 : w.cell? ⟨q, 0, none⟩ = some (.string e.key)) (h1 : w.cell? ⟨q, 1, none⟩ = some (.int .i64 e.no)) : Calls Tryz.prog 58 #[.int .i64 k, .pointer (some ⟨p, 0, none⟩), .pointer (some ⟨q, 0, none⟩)] w (Give (.bool (decide (0 < cmpT (tth l k) e))) w) := by
  obtain ⟨ad, rfl, x0, x1⟩ := hl.at_ hk
  have hmx := Rd.max hl
  have hkn : (k : Int) < (n : Int) := by omega
  generalize tth l k = x at *
  replace hl := hid hl
  go_enter Tryz.func58, Tryz.ntmps58
  go_upto_region 1 with fail
  have I0 : (fun w' : World => w'.cell? ⟨p, 0, none⟩ = some (.slice (some ad) n c) ∧ w'.cell? (ad.add (k * 2)) = some (.string x.key) ∧ w'.cell? ⟨(ad.add (k * 2)).block, (ad.add (k * 2)).off + 1, none⟩ = some (.int .i64 x.no) ∧ w'.cell? ⟨q, 0, none⟩ = some (.string e.key) ∧ w'.cell? ⟨q, 1, none⟩ = some (.int .i64 e.no)) w.drew := ⟨hp, x0, x1, h0, h1⟩
  have hx := hid ((Ext.refl w).drew_right)
  refine region_J (fun w' : World => w'.cell? ⟨p, 0, none⟩ = some (.slice (some ad) n c) ∧ w'.cell? (ad.add (k * 2)) = some (.string x.key) ∧ w'.cell? ⟨(ad.add (k * 2)).block, (ad.add (k * 2)).off + 1, none⟩ = some (.int .i64 x.no) ∧ w'.cell? ⟨q, 0, none⟩ = some (.string e.key) ∧ w'.cell? ⟨q, 1, none⟩ = some (.int .i64 e.no)) 8 (by kernel_rfl) ?_
  clear hp x0 x1 h0 h1
  generalize w.drew = w1 at *
  refine JO 0 (v := ?vd0) I0 ?yd0 ?rd0
  case yd0 => (intro w h; obtain ⟨_, _, _, _, _⟩ := h; go_simp; with_reducible rfl)
  simp only [Act.put, lyA, lyB, lyC, lyD, lyE, lyF]
  refine JO 1 (v := ?vd1) I0 ?yd1 ?rd1
  case yd1 => (intro w h; obtain ⟨_, _, _, _, _⟩ := h; go_simp; with_reducible rfl)
  simp only [Act.put, lyA, lyB, lyC, lyD, lyE, lyF]
  refine JO 2 (v := ?vd2) I0 ?yd2 ?rd2
  case yd2 => (intro w h; obtain ⟨_, _, _, _, _⟩ := h; go_simp; with_reducible rfl)
  simp only [Act.put, lyA, lyB, lyC, lyD, lyE, lyF]
  refine JO 3 (v := ?vd3) I0 ?yd3 ?rd3
  case yd3 => (intro w h; obtain ⟨_, _, _, _, _⟩ := h; go_simp; with_reducible rfl)
  simp only [Act.put, lyA, lyB, lyC, lyD, lyE, lyF]
  refine JO 4 (v := ?vd4) I0 ?yd4 ?rd4
  case yd4 => (intro w h; obtain ⟨_, _, _, _, _⟩ := h; go_simp; with_reducible rfl)
  simp only [Act.put, lyA, lyB, lyC, lyD, lyE, lyF]
  refine J_one 5 rfl (by kernel_rfl) (fun K hK => ?_)
  go_simp
  refine (compare_any x e _ ).mono ?_
  rintro e' w5 ⟨rfl, hx5⟩
  have I5 : (fun w' : World => w'.cell? ⟨p, 0, none⟩ = some (.slice (some ad) n c) ∧ w'.cell? (ad.add (k * 2)) = some (.string x.key) ∧ w'.cell? ⟨(ad.add (k * 2)).block, (ad.add (k * 2)).off + 1, none⟩ = some (.int .i64 x.no) ∧ w'.cell? ⟨q, 0, none⟩ = some (.string e.key) ∧ w'.cell? ⟨q, 1, none⟩ = some (.int .i64 e.no)) w5 := ⟨hx5.cell I0.1, hx5.cell I0.2.1, hx5.cell I0.2.2.1, hx5.cell I0.2.2.2.1, hx5.cell I0.2.2.2.2⟩
  have hx6 := hid (hx.out.trans hx5)
  clear hx5
  refine hK _ _ ⟨fun _ => I5, ?_⟩
  clear hK K
  try simp only [Act.put, lyA, lyB, lyC, lyD, lyE, lyF]
  refine JO 6 (v := ?vde6) I5 ?yde6 ?rde6
  case yde6 => (intro w h; obtain ⟨_, _, _, _, _⟩ := h; go_simp; with_reducible rfl)
  simp only [Act.put, lyA, lyB, lyC, lyD, lyE, lyF]
  refine J_one 7 rfl (by kernel_rfl) (fun K hK => ?_)
  go_simp
  refine hK _ _ ⟨fun _ => I5, ?_⟩
  clear hK K
  try simp only [Act.put, lyD, lyE, lyF]
  refine J_done (by kernel_rfl) (OnlyOn.normal ?_)
  generalize cmpT x e = z at *
  go_wp2
  go_ret
  exact ⟨by first | rfl | (congr 2; simp), hx6.out⟩
theorem from_any (A : Option Addr) (n c : Nat) (l : List Te) (e : Te) (w : World) (hl : RdN w A n c l) (hS : Srt l) (hn : n ≤ 1000000) : Calls Tryz.prog 48 #[.slice A n c, .agg #[.string e.key, .int .i64 e.no]] w (Give (.int .i64 (rankT l e)) w) := by
  have hlen := hl.len
  have hx := hid (((Ext.refl w).alloc_right (.cells #[.slice A n c] 52)).alloc_right (.cells #[.string e.key, .int .i64 e.no] 83))
  have hp0 := heap_alloc_new w (.cells #[.slice A n c] 52)
  have hq := heap_alloc_new (w.alloc (.cells #[.slice A n c] 52)) (.cells #[.string e.key, .int .i64 e.no] 83)
  have hp := (((Ext.refl (w.alloc (.cells #[.slice A n c] 52))).alloc_right (.cells #[.string e.key, .int .i64 e.no] 83)).block (Array.getElem?_eq_some_iff.1 hp0).1).trans hp0
  rw [World.size_alloc] at hq
  obtain ⟨r1, r2, r3⟩ := rank_cut hS e
  have en : ∀ (x y a : Value) (w : World), (callFunc 68 #[a, x, y]).run Tryz.prog w = .ok (.enter 68 #[a, x, y]) w := fun x y a w => by kernel_rfl
  have hQ1 : Hid (∀ t, t < rankT l e → decide (0 ≤ cmpT (tth l t) e) = false) := fun t ht => by
    have := r2 (tth l t) (by rw [tth_get (by omega)]; exact List.mem_take_iff_getElem.2 ⟨t, by omega, rfl⟩)
    exact decide_eq_false (by omega)
  have hQ2 : Hid (∀ t, rankT l e ≤ t → t < n → decide (0 ≤ cmpT (tth l t) e) = true) := fun t ht htn => by
    have := r3 (tth l t) (by rw [tth_get (by omega)]; exact List.mem_drop_iff_getElem.2 ⟨t - rankT l e, by omega, by congr 1; omega⟩)
    exact decide_eq_true (by omega)
  have hC : Hid (∀ w1, Ext ((w.alloc (.cells #[.slice A n c] 52)).alloc (.cells #[.string e.key, .int .i64 e.no] 83)) w1 → Calls Tryz.prog 57 #[.int .i64 n, .func (.func 68) #[] #[.pointer (some ⟨w.heap.size, 0, none⟩), .pointer (some ⟨w.heap.size + 1, 0, none⟩)]] w1 (Give (.int .i64 (rankT l e)) w1)) := fun w1 hx1 => by
    refine search_any n (rankT l e) 68 _ _ _ w1 hn (by omega) (en _ _) (fun k w' hk hx' => fromC_any A n c _ _ k l e w' (hl.ext (hx.out.trans (hx1.trans hx'))) hk hn ?_ ?_ ?_) hQ1 hQ2
    · exact (hx1.trans hx').cell (by rw [Lib.cell_of_heap hp]; rfl)
    · exact (hx1.trans hx').cell (by rw [Lib.cell_of_heap hq]; rfl)
    · exact (hx1.trans hx').cell (by rw [Lib.cell_of_heap hq]; rfl)
  have zp : ((w.alloc (.cells #[.slice A n c] 52)).alloc (.cells #[.string e.key, .int .i64 e.no] 83)).cell? ⟨w.heap.size, 0, none⟩ = some (.slice A n c) := by rw [Lib.cell_of_heap hp]; rfl
  have lz := World.block_lt_of_cell? _ _ zp
  dsimp only at lz
  have hmx := Rd.max hl
  generalize rankT l e = r at *
  clear r1 r2 r3 hp hq hp0 hQ1 hQ2 hl hlen hS
  go_enter Tryz.func48, Tryz.ntmps48
  go_upto_region 1 with fail
  generalize (w.alloc (.cells #[.slice A n c] 52)).alloc (.cells #[.string e.key, .int .i64 e.no] 83) = w1 at *
  go_wp2_with fail
  refine (hC.out _ (Ext.refl _)).mono ?_
  rintro e' w3 ⟨rfl, hx3⟩
  go_wp2
  go_ret
  exact ⟨rfl, hx.out.trans hx3⟩
theorem Rank_any (t : Nat) (L : List Te) (h p : Nat) (T : BT) (fT : Nat → Nat) (s : ByteArray) (i : Int) (w : World) (H : TreeAt 0 w t L h p T fT) : Calls Tryz.prog 17 #[.pointer (some ⟨t, 0, none⟩), .string s, .int .i64 i] w (Give (.int .i64 (rankT L ⟨s, i⟩)) w) := by
  have hE := hid (entries_any t L h p T fT w H)
  have hsr := hid H.sr
  have hle := hid H.le
  clear H
  go_enter Tryz.func17, Tryz.ntmps17
  go_wp2_with fail
  refine hE.out.mono ?_
  rintro e w2 ⟨v, rfl, own2, hx⟩
  obtain ⟨A, c, rfl, -⟩ := own_form own2
  have hF := hid (from_any A L.length c L ⟨s, i⟩ w2 (Rd.of_own own2) hsr.out (by have := hle.out; omega))
  generalize rankT L ⟨s, i⟩ = r at *
  clear own2
  go_wp2_with fail
  refine hF.out.mono ?_
  rintro e w3 ⟨rfl, hx3⟩
  go_wp2
  go_ret
  exact ⟨rfl, hx.trans hx3⟩
end Go.Proofs.YtpijfiaecicpfaaGreat
