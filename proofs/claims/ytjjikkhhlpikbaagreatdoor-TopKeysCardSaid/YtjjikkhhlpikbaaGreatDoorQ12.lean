/-
  A slice of ints that is cut at its ends and appended to: a queue, a stack. A row of bools, told by a function; Bytes, and the readers of both; For TopKeys, plainly: what each loop keeps of the row of values and of the index; For TopKeys: values with their keys and numbers in a row, beside an index that turns; The index that a tree lists is a right one, with the tree's entries. No program in sight; The reference's Check and Len; what two lists have in common; holds; The reference's Entries, wrong and Check; The reference's depths; The reference's entries; The reference's isTree; keysKnown: two keys stand in the order of their values.
-/
import Derived.Test.YtjjikkhhlpikbaaGreatDoorQ11
import Derived.Test.YtjjikkhhlpikbaaGreatDoorQ5
import Derived.Test.YtjjikkhhlpikbaaGreatDoorQ8
import Derived.Deep.MidRow
import Derived.Test.YtjjikkhhlpikbaaGreatDoorQ3
import Derived.Test.YtjjikkhhlpikbaaGreatDoorQ2
import Derived.Deep.AppendSrc
import Derived.Laws.IdiomCopy
import Derived.Deep.Upon
import Derived.Test.YtjjikkhhlpikbaaGreatDoorQ10
import Derived.Test.YtjjikkhhlpikbaaGreatDoorQ9
set_option maxRecDepth 100000
set_option maxHeartbeats 40000000
set_option linter.unusedVariables false
set_option linter.unusedSimpArgs false
namespace Go.Proofs.YtjjikkhhlpikbaaGreatDoor
open Go.RowKit Go.Shelf
structure Et where
  k : Int
  n : Int
  s : ByteArray
  key : ByteArray
  no : Int
def Et.te (x : Et) : Te := ⟨x.key, x.no⟩
def ecl (x : Et) : List Value := [.int .i64 x.k, .int .i64 x.n, .string x.s, .string x.key, .int .i64 x.no]
def ecls (l : List Et) : List Value := l.flatMap ecl
def eth (l : List Et) (k : Nat) : Et := l.getD k ⟨0, 0, ⟨#[]⟩, ⟨#[]⟩, 0⟩
theorem eth_get {l : List Et} {k : Nat} (h : k < l.length) : eth l k = l[k] := by simp [eth, List.getD, h]
theorem ecls_nil : ecls [] = [] := rfl
theorem ecls_cons (x : Et) (l : List Et) : ecls (x :: l) = ecl x ++ ecls l := rfl
theorem ecls_app (a b : List Et) : ecls (a ++ b) = ecls a ++ ecls b := by simp [ecls]
theorem ecls_take : ∀ (l : List Et) (k : Nat), (ecls l).take (k * 5) = ecls (l.take k)
  | [], k => by simp [ecls]
  | x :: l, 0 => by simp [ecls]
  | x :: l, k + 1 => by
    have ih := ecls_take l k
    rw [show (k + 1) * 5 = (ecl x).length + k * 5 by simp [ecl]; omega, ecls_cons, List.take_append, List.take_of_length_le (by omega)]
    simp [ih, ecls_cons]
theorem ecls_drop : ∀ (l : List Et) (k : Nat), (ecls l).drop (k * 5) = ecls (l.drop k)
  | [], k => by simp [ecls]
  | x :: l, 0 => by simp [ecls]
  | x :: l, k + 1 => by
    have ih := ecls_drop l k
    rw [show (k + 1) * 5 = (ecl x).length + k * 5 by simp [ecl]; omega, ecls_cons, List.drop_append, List.drop_of_length_le (by omega)]
    simp [ih]
theorem ecls_at : ∀ (l : List Et) (k : Nat), k < l.length → ∀ j, j < 5 → (ecls l)[k * 5 + j]? = (ecl (eth l k))[j]?
  | [], k, h, j, hj => by simp at h
  | x :: l, 0, h, j, hj => by
    rw [ecls_cons, List.getElem?_append_left (by simp [ecl]; omega)]
    simp [eth]
  | x :: l, k + 1, h, j, hj => by
    have ih := ecls_at l k (by simpa using h) j hj
    rw [ecls_cons, List.getElem?_append_right (by simp [ecl]; omega), show (k + 1) * 5 + j - (ecl x).length = k * 5 + j by simp [ecl]; omega, ih]
    simp [eth]
theorem ecls_one : ∀ (l : List Et), ∀ u ∈ ecls l, u.oneCell' = true := by
  intro l u hu
  obtain ⟨x, hx, hm⟩ := List.mem_flatMap.1 hu
  simp [ecl] at hm
  rcases hm with rfl | rfl | rfl | rfl | rfl <;> rfl
theorem ecls_set (x : Et) : ∀ (l : List Et) (k : Nat), k < l.length → (((((ecls l).set (k * 5) (.int .i64 x.k)).set (k * 5 + 1) (.int .i64 x.n)).set (k * 5 + 2) (.string x.s)).set (k * 5 + 3) (.string x.key)).set (k * 5 + 4) (.int .i64 x.no) = ecls (l.set k x)
  | [], k, h => by simp at h
  | y :: l, 0, _ => by simp [ecls, ecl]
  | y :: l, k + 1, h => by
    have ih := ecls_set x l k (by simpa using h)
    rw [show (k + 1) * 5 = k * 5 + 1 + 1 + 1 + 1 + 1 by omega]
    simp only [ecls_cons, ecl, List.cons_append, List.nil_append, List.set_cons_succ, List.set_cons_zero]
    rw [← ih]
theorem own_store {w : World} {g n c k : Nat} {l : List Et} {x : Et} (h : w.ownsRow 0 36 5 (.slice (some ⟨g, 0, none⟩) n c) n (ecls l)) (hk : k < l.length) :
    (w.setCells g (k * 5) (ecl x)).ownsRow 0 36 5 (.slice (some ⟨g, 0, none⟩) n c) n (ecls (l.set k x)) := by
  rw [← ecls_set x l k hk]
  exact own_setK (own_setK (own_setK (own_setK (own_setK h))))
theorem store_rw : ∀ (vs : List Value) (w : World) (g n c o : Nat), Rw (.slice (some ⟨g, 0, none⟩) n c) (.slice (some ⟨g, 0, none⟩) n c) w (w.setCells g o vs)
  | [], w, g, n, c, o => ⟨World.grownBy.refl w _, .inl rfl⟩
  | v :: vs, w, g, n, c, o => by
    obtain ⟨h1, h2⟩ := store_rw vs (w.setCell ⟨g, o, none⟩ v) g n c (o + 1)
    have h3 := h1.size
    have e : (w.setCell ⟨g, o, none⟩ v).heap.size = w.heap.size := by simp [World.setCell]
    rw [e] at h3
    refine ⟨⟨h1.os, h1.tape, h1.output, h3, fun k hk hne => ?_⟩, .inl rfl⟩
    show ((w.setCell ⟨g, o, none⟩ v).setCells g (o + 1) vs).heap[k]? = _
    rw [h1.block k (by simpa [World.setCell] using hk) hne]
    have hg : g ≠ k := fun e => hne (by rw [e]; rfl)
    simp [World.setCell, Array.getElem?_modify, hg]
theorem own_cells {W : World} {g c n k : Nat} {l : List Et} (h : W.ownsRow 0 36 5 (.slice (some ⟨g, 0, none⟩) n c) n (ecls l)) (hk : k < l.length) : W.rangeAt g (k * 5) (ecl (eth l k)) := fun j v hv => by
  have hc := h.cells (g := g) rfl
  have hj : j < 5 := by have := (List.getElem?_eq_some_iff.1 hv).1; simpa [ecl] using this
  have e1 := hc (k * 5 + j) v (by rw [ecls_at l k hk j hj]; exact hv)
  rw [lit_add, Nat.zero_add] at e1
  exact e1
theorem own_there {W : World} {g c n k : Nat} {l : List Et} (h : W.ownsRow 0 36 5 (.slice (some ⟨g, 0, none⟩) n c) n (ecls l)) (hk : k < l.length) : W.there g (k * 5) 5 := fun j hj => by
  refine ⟨(own_cells h hk).isSome j (by simpa [ecl] using hj), ?_⟩
  rcases h.2 with ⟨hv, _⟩ | ⟨g', cap, cur, hv, _, hg, _⟩
  · cases hv
  · injection hv with e1
    injection e1 with e1
    injection e1 with e1
    subst e1
    exact Lib.frozen_of_heap hg _
def Five (w : World) (ad : Addr) (x : Et) : Prop := w.cell? ad = some (.int .i64 x.k) ∧ w.cell? ⟨ad.block, ad.off + 1, none⟩ = some (.int .i64 x.n) ∧ w.cell? ⟨ad.block, ad.off + 2, none⟩ = some (.string x.s) ∧ w.cell? ⟨ad.block, ad.off + 3, none⟩ = some (.string x.key) ∧ w.cell? ⟨ad.block, ad.off + 4, none⟩ = some (.int .i64 x.no)
theorem own_five {W : World} {ad : Addr} {c n k : Nat} {l : List Et} (h : W.ownsRow 0 36 5 (.slice (some ad) n c) n (ecls l)) (hk : k < l.length) :
    W.cell? (ad.add (k * 5)) = some (.int .i64 (eth l k).k) ∧ W.cell? ⟨(ad.add (k * 5)).block, (ad.add (k * 5)).off + 1, none⟩ = some (.int .i64 (eth l k).n) ∧ W.cell? ⟨(ad.add (k * 5)).block, (ad.add (k * 5)).off + 2, none⟩ = some (.string (eth l k).s) ∧
    W.cell? ⟨(ad.add (k * 5)).block, (ad.add (k * 5)).off + 3, none⟩ = some (.string (eth l k).key) ∧ W.cell? ⟨(ad.add (k * 5)).block, (ad.add (k * 5)).off + 4, none⟩ = some (.int .i64 (eth l k).no) := by
  have e := own_lit h
  rw [e] at h
  have hc := own_cells h hk
  rw [e, lit_add, Nat.zero_add]
  exact ⟨hc 0 _ rfl, hc 1 _ rfl, hc 2 _ rfl, hc 3 _ rfl, hc 4 _ rfl⟩
theorem infoT : (Tryz.prog.info? 36).map (fun i => (i.zero, i.size, i.bytes)) = some (some (.agg #[.int .i64 0, .int .i64 0, .string ⟨#[]⟩, .string ⟨#[]⟩, .int .i64 0]), 5, 56) := by kernel_rfl
theorem appT (w : World) (ty : TypeId) (v : Value) (n : Nat) (xs : List Value) (hown : w.ownsRow 0 36 5 v n xs) (A : Option Addr) (m c : Nat) (es : List Value) (hr : Rd w 5 A m c es) (h1 : ∀ u ∈ es, u.oneCell' = true) (hn : n + m ≤ 1000000) :
    ∃ v' w', (Builtin.append_ #[29, 29] ty #[v, .slice A m c]).run Tryz.prog w = .ok v' w' ∧ w'.ownsRow 0 36 5 v' (n + m) (xs ++ es) ∧ Rw v v' w w' := by
  obtain ⟨i0, hi0, hz0, hz1, hz2⟩ := info_parts infoT
  exact app_rw w _ ty _ i0 _ 5 56 Tryz.underlying29 hi0 hz0 hz1 hz2 rfl (by decide) v n xs hown A m c es hr h1 (by unfold maxLen; omega) (by omega)
def TT (w0 w : World) (t : Nat) (L : List Te) (v : Value) (l : List Et) : Prop := w0.heap.size ≤ t ∧ Ext w0 w ∧ ∃ h p T fT, TreeAt 0 w t L h p T fT ∧ (∀ a, a < w0.heap.size → fT a = 0) ∧ w.ownsRow 0 36 5 v l.length (ecls l) ∧ ∀ k, v.ownBlock = some k → w0.heap.size ≤ k ∧ k ≠ t ∧ fT k = 0
section
variable {w0 w w' : World} {t : Nat} {L : List Te} {v v' : Value} {l l' : List Et}
theorem TT.ta (H : TT w0 w t L v l) : TA w0 w t L := by
  obtain ⟨h1, h2, h, p, T, fT, h3, h4, h5, h6⟩ := H
  exact ⟨h1, h2, h, p, T, fT, h3, h4⟩
theorem TT.own (H : TT w0 w t L v l) : w.ownsRow 0 36 5 v l.length (ecls l) := by
  obtain ⟨h1, h2, h, p, T, fT, h3, h4, h5, h6⟩ := H
  exact h5
theorem TT.ownN {N : Nat} (H : TT w0 w t L v l) (hN : l.length = N) : w.ownsRow 0 36 5 v N (ecls l) := by
  rw [← hN]; exact H.own
theorem TT.old (H : TT w0 w t L v l) : Ext w0 w := H.2.1
theorem TT.ext (H : TT w0 w t L v l) (hx : Ext w w') : TT w0 w' t L v l := by
  obtain ⟨h1, h2, h, p, T, fT, h3, h4, h5, h6⟩ := H
  exact ⟨h1, h2.trans hx, h, p, T, fT, h3.ext hx, h4, hx.own h5, h6⟩
theorem TT.turn {h p : Nat} {T : BT} {fT : Nat → Nat} {L' : List Te} (H : TreeAt 0 w t L h p T fT) (h1 : w0.heap.size ≤ t) (hx : Ext w0 w) (h4 : ∀ a, a < w0.heap.size → fT a = 0) (h5 : w.ownsRow 0 36 5 v l.length (ecls l)) (h6 : ∀ k, v.ownBlock = some k → w0.heap.size ≤ k ∧ k ≠ t ∧ fT k = 0) (ht : TreeTurned 0 w w' t fT L') : TT w0 w' t L' v l := by
  have h7 := TA.turn H h1 hx h4 ht
  obtain ⟨h', p', T', f', H', k1, k2⟩ := ht
  refine ⟨h7.1, h7.2.1, h', p', T', f', H', fun a ha => ?_, k2.own h5 (fun k hk => ?_), fun k hk => ?_⟩
  · have := k1 a (Nat.lt_of_lt_of_le ha hx.size)
    have := h4 a ha
    omega
  · obtain ⟨m1, m2, m3⟩ := h6 k hk
    show one1 t k + fT k = 0
    rw [m3, show one1 t k = 0 from if_neg (by omega)]
  · obtain ⟨m1, m2, m3⟩ := h6 k hk
    have := k1 k (h5.lt k hk).2
    exact ⟨m1, m2, by omega⟩
theorem TT.put (H : TT w0 w t L v l) (s : ByteArray) (n : Int) : Calls Tryz.prog 8 #[.pointer (some ⟨t, 0, none⟩), .string s, .int .i64 n] w fun e w' => e = .returned (.int .i64 (putEr L ⟨s, n⟩)) ∧ TT w0 w' t (putLs L ⟨s, n⟩) v l := by
  obtain ⟨h1, h2, h, p, T, fT, h3, h4, h5, h6⟩ := H
  refine (Put_any t L h p T fT s n w h3).mono ?_
  rintro e w' ⟨rfl, ht⟩
  exact ⟨rfl, TT.turn h3 h1 h2 h4 h5 h6 ht⟩
theorem TT.take (H : TT w0 w t L v l) (s : ByteArray) (n : Int) : Calls Tryz.prog 9 #[.pointer (some ⟨t, 0, none⟩), .string s, .int .i64 n] w fun e w' => e = .returned (.int .i64 (takeEr L ⟨s, n⟩)) ∧ TT w0 w' t (takeLs L ⟨s, n⟩) v l := by
  obtain ⟨h1, h2, h, p, T, fT, h3, h4, h5, h6⟩ := H
  refine (Take_any t L h p T fT s n w h3 _ _ rfl rfl).mono ?_
  rintro e w' ⟨rfl, ht⟩
  exact ⟨rfl, TT.turn h3 h1 h2 h4 h5 h6 ht⟩
theorem TT.row (H : TT w0 w t L v l) (ho : w'.ownsRow 0 36 5 v' l'.length (ecls l')) (hr : Rw v v' w w') : TT w0 w' t L v' l' := by
  obtain ⟨h1, h2, h, p, T, fT, h3, h4, h5, h6⟩ := H
  have hg := hr.1
  have hlt := h3.lt
  have hs := h2.size
  have hx : Ext w0 w' := ⟨hg.os.trans h2.os, hg.tape.trans h2.tape, hg.output.trans h2.output, Nat.le_trans h2.size hg.size, fun k hk => (hg.block k (by omega) (fun e => by have := (h6 k e.symm).1; omega)).trans (h2.block hk)⟩
  have hF : FR (ob v) w w' := FR.of_grown hg (fun k hk => by rw [ob_some hk]; decide)
  obtain ⟨q, hq⟩ := h3.ht
  have ht : ob v t = 0 := if_neg (fun e => (h6 t e).2.1 rfl)
  have hT : TreeAt 0 w' t L h p T fT := ⟨⟨q, (hF.2.2.2.2 t (Array.getElem?_eq_some_iff.1 hq).1 ht).trans hq⟩, h3.tn.frame hF (fun a ha => if_neg (fun e => by have := (h6 a e).2.2; omega)), h3.nd, h3.sh, h3.l4, h3.l1, h3.fl, h3.sr, h3.ok, h3.le⟩
  refine ⟨h1, hx, h, p, T, fT, hT, h4, ho, fun k hk => ?_⟩
  rcases hr.2 with e | e
  · exact h6 k (by rw [← e]; exact hk)
  · have h7 := e k hk
    exact ⟨by omega, by omega, h3.tn.bound k h7⟩
theorem TT.fresh (H : TT w0 w t L v l) (hx : Ext w w') (ho : w'.ownsRow 0 36 5 v' l'.length (ecls l')) (hn : ∀ k, v'.ownBlock = some k → w.heap.size ≤ k) : TT w0 w' t L v' l' := by
  obtain ⟨h1, h2, h, p, T, fT, h3, h4, h5, h6⟩ := H
  have hlt := h3.lt
  have hs := h2.size
  exact ⟨h1, h2.trans hx, h, p, T, fT, h3.ext hx, h4, ho, fun k hk => by have h7 := hn k hk; exact ⟨by omega, by omega, h3.tn.bound k h7⟩⟩
theorem TT.start (H : TA w0 w t L) : TT w0 w t L (.slice none 0 0) [] := by
  obtain ⟨h1, h2, h, p, T, fT, h3, h4⟩ := H
  exact ⟨h1, h2, h, p, T, fT, h3, h4, World.ownsRow_nil _ _ _ _, fun k hk => by cases hk⟩
end
theorem TT.swap {w0 W : World} {t : Nat} {L : List Te} {l : List Et} {ae : Addr} {N cv b c : Nat} (H : TT w0 W t L (.slice (some ae) N cv) l) (hN : l.length = N) (hb : b < N) (hc : c < N) (hne : c ≠ b) :
    W.there ae.block (b * 5) 5 ∧ (W.setCells ae.block (b * 5) (ecl (eth l c))).there ae.block (c * 5) 5 ∧ ae.add (b * 5) = ⟨ae.block, b * 5, none⟩ ∧ ae.add (c * 5) = ⟨ae.block, c * 5, none⟩ ∧
    TT w0 ((W.setCells ae.block (b * 5) (ecl (eth l c))).setCells ae.block (c * 5) (ecl (eth l b))) t L (.slice (some ae) N cv) ((l.set b (eth l c)).set c (eth l b)) := by
  subst hN
  have ho := H.own
  have e := own_lit ho
  rw [e] at ho H ⊢
  generalize ae.block = g at *
  have o1 := own_store (x := eth l c) ho hb
  have hl : (l.set b (eth l c)).length = l.length := List.length_set
  have o2 := own_store (x := eth l b) (k := c) o1 (by rw [hl]; exact hc)
  have r1 := store_rw (ecl (eth l c)) W g l.length cv (b * 5)
  have r2 := store_rw (ecl (eth l b)) (W.setCells g (b * 5) (ecl (eth l c))) g l.length cv (c * 5)
  have T1 := H.row (l' := l.set b (eth l c)) (by rw [hl]; exact o1) r1
  have T2 := T1.row (l' := (l.set b (eth l c)).set c (eth l b)) (by rw [List.length_set, hl]; exact o2) r2
  exact ⟨own_there ho hb, own_there o1 (by rw [hl]; exact hc), by rw [lit_add, Nat.zero_add], by rw [lit_add, Nat.zero_add], T2⟩
theorem ext_grown {w w' : World} (hg : w.grownBy w' none) : Ext w w' := ⟨hg.os, hg.tape, hg.output, hg.size, fun k hk => hg.block k hk (by simp)⟩
theorem TT.cut {w0 W : World} {t : Nat} {L : List Te} {l : List Et} {ae : Addr} {c b b1 : Nat} (H : TT w0 W t L (.slice (some ae) l.length c) l) (hb : b < l.length) (hb1 : b1 = b + 1) (hl : l.length ≤ 1000) (ty1 ty2 : TypeId) :
    ∃ v7 w7 A8 c8 w8, (Builtin.append_ #[29, 29] ty1 #[.slice none 0 0, .slice (some ae) b c]).run Tryz.prog W = .ok v7 w7 ∧
      (Builtin.append_ #[29, 29] ty2 #[v7, .slice (if c = b1 then some ae else some (ae.add (b1 * 5))) (l.length - b1) (c - b1)]).run Tryz.prog w7 = .ok (.slice A8 (l.take b ++ l.drop (b + 1)).length c8) w8 ∧
      TT w0 w8 t L (.slice A8 (l.take b ++ l.drop (b + 1)).length c8) (l.take b ++ l.drop (b + 1)) := by
  subst hb1
  have hr := Rd.of_own H.own
  have r1 := hr.takeK (m := b) (by omega)
  have r2 := hr.cut (k := b + 1) (by omega)
  rw [ecls_take] at r1
  rw [ecls_drop] at r2
  obtain ⟨v7, w7, happ1, ho7, hrw7⟩ := appT W ty1 (.slice none 0 0) 0 [] (World.ownsRow_nil _ _ _ _) (some ae) b c _ r1 (ecls_one _) (by omega)
  have hx7 := ext_grown hrw7.1
  obtain ⟨v8, w8, happ2, ho8, hrw8⟩ := appT w7 ty2 v7 (0 + b) _ ho7 _ _ _ _ (r2.ext hx7) (ecls_one _) (by omega)
  have f7 : ∀ k, v7.ownBlock = some k → W.heap.size ≤ k := fun k hk => by
    rcases hrw7.2 with e | e
    · rw [e] at hk; cases hk
    · exact e k hk
  have hs7 := hx7.size
  have hx8 : Ext W w8 := ⟨hrw8.1.os.trans hx7.os, hrw8.1.tape.trans hx7.tape, hrw8.1.output.trans hx7.output, Nat.le_trans hs7 hrw8.1.size, fun k hk => (hrw8.1.block k (by omega) (fun e => by have := f7 k e.symm; omega)).trans (hx7.block hk)⟩
  have hlen : (l.take b ++ l.drop (b + 1)).length = 0 + b + (l.length - (b + 1)) := by rw [List.length_append, List.length_take, List.length_drop]; omega
  rw [List.nil_append, ← ecls_app, ← hlen] at ho8
  obtain ⟨A8, c8, rfl, -⟩ := own_form ho8
  refine ⟨v7, w7, A8, c8, w8, happ1, happ2, H.fresh hx8 ho8 (fun k hk => ?_)⟩
  rcases hrw8.2 with e | e
  · exact f7 k (by rw [← e]; exact hk)
  · have := e k hk; omega
end Go.Proofs.YtjjikkhhlpikbaaGreatDoor
namespace Go.Proofs.YtjjikkhhlpikbaaGreatDoor.Ky
open Go.RowKit Go.Shelf
theorem Num_any (n : Int) (w : World) : Calls Tryz.prog 12 #[.int .i64 n] w (Give (vV 2 n { data := #[] }) w) := by
  go_enter Tryz.func12, Tryz.ntmps12
  go_wp2
  exact bodyPost_ret (v := .agg #[.int .i64 2, .int .i64 n, .string { data := #[] }]) (by simp [results, Tryz.results12, go_sem]) rfl ⟨rfl, (Ext.refl w).alloc_right _⟩
theorem co0 : Co 0 0 := askP_ok (by decide)
theorem enc_ok {k n : Int} {s : ByteArray} {p c : Int} (hC : askP p c = 0) (h : valE k n s = 0) : encS k n s p c false = keyB k n s p c ∧ askV k n s p c = 0 := by
  have e : askV k n s p c = 0 := by rw [askV_yes h]; exact hC
  exact ⟨by rw [enc_yes e, turnS_f], e⟩
theorem num_ok : valE 2 (-1) ⟨#[]⟩ = 0 ∧ valE 2 7 ⟨#[]⟩ = 0 := by
  constructor <;> decide
theorem two_put : ∃ a b : ByteArray, Hid (encS 2 (-1) ⟨#[]⟩ 0 0 false = a) ∧ Hid (encS 2 7 ⟨#[]⟩ 0 0 false = b) ∧ putEr [] ⟨b, 1⟩ = 0 ∧ putLs [] ⟨b, 1⟩ = [⟨b, 1⟩] ∧ putEr [⟨b, 1⟩] ⟨a, 2⟩ = 0 ∧ putLs [⟨b, 1⟩] ⟨a, 2⟩ = [⟨a, 2⟩, ⟨b, 1⟩] := by
  obtain ⟨v1, v2⟩ := num_ok
  refine ⟨keyB 2 (-1) ⟨#[]⟩ 0 0, keyB 2 7 ⟨#[]⟩ 0 0, (enc_ok (by decide) v1).1, (enc_ok (by decide) v2).1, ?_⟩
  have s1 := keyB_size 2 (-1) ⟨#[]⟩ 0 0
  have s2 := keyB_size 2 7 ⟨#[]⟩ 0 0
  have h1 : cmpT ⟨keyB 2 (-1) ⟨#[]⟩ 0 0, 2⟩ ⟨keyB 2 7 ⟨#[]⟩ 0 0, 1⟩ < 0 := by
    have h := befB_eq (r := 2) (r' := 1) co0 v1 v2 (by decide) (by decide)
    rw [show befB (befN 2 (-1) ⟨#[]⟩ 2 7 ⟨#[]⟩ 0 0) 2 1 = true by decide] at h
    exact of_decide_eq_true h.symm
  generalize keyB 2 (-1) ⟨#[]⟩ 0 0 = a at *
  generalize keyB 2 7 ⟨#[]⟩ 0 0 = b at *
  have h2 : 0 < cmpT ⟨b, 1⟩ ⟨a, 2⟩ := by rw [cmpT_anti]; omega
  have o1 : okT ⟨b, 1⟩ = true := by unfold okT; simp; omega
  have o2 : okT ⟨a, 2⟩ = true := by unfold okT; simp; omega
  have m2 : memT [⟨b, 1⟩] ⟨a, 2⟩ = false := by
    unfold memT
    rw [List.any_cons, List.any_nil, Bool.or_false, beq_eq_false_iff_ne]
    omega
  have p1 : putEr [] ⟨b, 1⟩ = 0 := by unfold putEr; rw [if_pos o1, if_neg (by unfold memT; simp), if_neg (by simp)]
  have p2 : putEr [⟨b, 1⟩] ⟨a, 2⟩ = 0 := by unfold putEr; rw [if_pos o2, if_neg (by rw [m2]; decide), if_neg (by simp)]
  refine ⟨p1, by unfold putLs; rw [if_pos p1]; rfl, p2, ?_⟩
  unfold putLs
  rw [if_pos p2, insT, if_neg (by omega)]
theorem keysKnown_any (w : World) (hm : ML w) : Calls Tryz.prog 4 #[] w (Give (.bool true) w) := by
  obtain ⟨a, b, ha, hb, p1, p2, p3, p4⟩ := two_put
  have hN := hid (New_TA w w (Ext.refl w))
  have hE1 := hid (fun w' (hx : Ext w w') => Encode_any 2 (-1) ⟨#[]⟩ 0 0 false w' (hm.ext hx))
  have hE2 := hid (fun w' (hx : Ext w w') => Encode_any 2 7 ⟨#[]⟩ 0 0 false w' (hm.ext hx))
  rw [ha.out, (enc_ok (by decide) num_ok.1).2] at hE1
  rw [hb.out, (enc_ok (by decide) num_ok.2).2] at hE2
  unfold GiveSE at hE1 hE2
  have hP1 := hid (fun w' t (H : TA w w' t []) => Put_TA H b 1)
  rw [p1, p2] at hP1
  have hP2 := hid (fun w' t (H : TA w w' t [⟨b, 1⟩]) => Put_TA H a 2)
  rw [p3, p4] at hP2
  have hA := hid (fun w' t (H : TA w w' t [⟨a, 2⟩, ⟨b, 1⟩]) => At_TA H 0 (some ⟨a, 2⟩) rfl)
  unfold vV at hE1 hE2
  clear ha hb p1 p2 p3 p4
  go_enter Tryz.func4, Tryz.ntmps4
  go_wp2_with fail
  refine hN.out.mono ?_
  rintro e w1 ⟨t, rfl, hT, hx1⟩
  replace hT := hid hT
  replace hx1 := hid hx1
  clear hN
  go_wp2_with fail
  refine (Num_any (-1) w1).mono ?_
  rintro e w2 ⟨rfl, hx2⟩
  replace hT := hid (hT.out.ext hx2)
  replace hx1 := hid (hx1.out.trans hx2)
  clear hx2
  unfold vV
  go_wp2_with fail
  refine (hE1.out _ hx1.out).mono ?_
  rintro e w3 ⟨rfl, hx3⟩
  replace hT := hid (hT.out.ext hx3)
  replace hx1 := hid (hx1.out.trans hx3)
  clear hx3 hE1
  go_wp2_with fail
  refine (Num_any 7 w3).mono ?_
  rintro e w4 ⟨rfl, hx4⟩
  replace hT := hid (hT.out.ext hx4)
  replace hx1 := hid (hx1.out.trans hx4)
  clear hx4
  unfold vV
  go_wp2_with fail
  refine (hE2.out _ hx1.out).mono ?_
  rintro e w5 ⟨rfl, hx5⟩
  replace hT := hid (hT.out.ext hx5)
  clear hx5 hx1 hE2
  go_wp2_with fail
  refine (hP1.out _ t hT.out).mono ?_
  rintro e w6 ⟨rfl, hT6⟩
  replace hT := hid hT6
  clear hP1 hT6
  go_wp2_with fail
  refine (hP2.out _ t hT.out).mono ?_
  rintro e w7 ⟨rfl, hT7⟩
  replace hT := hid hT7
  clear hP2 hT7
  go_wp2_with fail
  refine (hA.out _ t hT.out).mono ?_
  rintro e w8 ⟨rfl, hx8⟩
  replace hT := hid (hT.out.ext hx8)
  clear hA hx8
  simp only [TV]
  go_wp2
  go_ret
  exact ⟨rfl, hT.out.2.1⟩
end Go.Proofs.YtjjikkhhlpikbaaGreatDoor.Ky
namespace Go.Proofs.YtjjikkhhlpikbaaGreatDoor.Ky
open Go.RowKit Go.Shelf
def Gd (p c : Int) (l : List Et) : Prop := ∀ x ∈ l, valE x.k x.n x.s = 0 ∧ x.s.size ≤ 48 ∧ x.key = keyB x.k x.n x.s p c
def Iv (p c : Int) (i : Nat) (L : List Te) (l : List Et) : Prop := Gd p c l ∧ (l.map Et.te).Perm L ∧ (∀ x ∈ l, 1 ≤ x.no ∧ x.no ≤ (i : Int)) ∧ l.length ≤ i
section
variable {p c : Int} {i : Nat} {L : List Te} {l : List Et}
theorem Iv.nil (p c : Int) (i : Nat) : Iv p c i [] [] := ⟨(fun x hx => by cases hx), List.Perm.refl _, (fun x hx => by cases hx), Nat.zero_le _⟩
theorem Iv.len (h : Iv p c i L l) : L.length = l.length := by have := h.2.1.length_eq; rw [List.length_map] at this; exact this.symm
theorem Iv.more (h : Iv p c i L l) {j : Nat} (hj : i ≤ j) : Iv p c j L l := ⟨h.1, h.2.1, fun x hx => by have := h.2.2.1 x hx; omega, Nat.le_trans h.2.2.2 hj⟩
theorem Iv.put (h : Iv p c i L l) (hi : i < 200) {k n : Int} {s : ByteArray} (hv : valE k n s = 0) (hs : s.size ≤ 48) :
    putEr L ⟨keyB k n s p c, (i : Int) + 1⟩ = 0 ∧ Iv p c (i + 1) (putLs L ⟨keyB k n s p c, (i : Int) + 1⟩) (l ++ [⟨k, n, s, keyB k n s p c, (i : Int) + 1⟩]) ∧
    putEr (putLs L ⟨keyB k n s p c, (i : Int) + 1⟩) ⟨keyB k n s p c, (i : Int) + 1⟩ = 5 ∧ putLs (putLs L ⟨keyB k n s p c, (i : Int) + 1⟩) ⟨keyB k n s p c, (i : Int) + 1⟩ = putLs L ⟨keyB k n s p c, (i : Int) + 1⟩ := by
  obtain ⟨h1, h2, h3, h4⟩ := h
  have hsz := keyB_size k n s p c
  have hok : okT ⟨keyB k n s p c, (i : Int) + 1⟩ = true := by unfold okT; simp; omega
  have hno : (⟨keyB k n s p c, (i : Int) + 1⟩ : Te) ∉ L := fun hm => by
    obtain ⟨x, hx, e⟩ := List.mem_map.1 (h2.symm.subset hm)
    have := (h3 x hx).2
    have e2 : x.no = (i : Int) + 1 := congrArg Te.no e
    omega
  have hL : L.length ≤ 200 := by have := h2.length_eq; rw [List.length_map] at this; omega
  have e0 : putEr L ⟨keyB k n s p c, (i : Int) + 1⟩ = 0 := by
    unfold putEr
    rw [if_pos hok, if_neg (fun hm => hno (memT_iff.1 hm)), if_neg (by omega)]
  have e1 : putLs L ⟨keyB k n s p c, (i : Int) + 1⟩ = insT L ⟨keyB k n s p c, (i : Int) + 1⟩ := by unfold putLs; rw [if_pos e0]
  have e2 := put_there hok (L := insT L ⟨keyB k n s p c, (i : Int) + 1⟩) (mem_ins.2 (.inl rfl))
  rw [e1]
  refine ⟨e0, ⟨fun x hx => ?_, ?_, fun x hx => ?_, by simp; omega⟩, e2.1, e2.2⟩
  · rcases List.mem_append.1 hx with h5 | h5
    · exact h1 x h5
    · obtain rfl := List.mem_singleton.1 h5
      exact ⟨hv, hs, rfl⟩
  · rw [List.map_append]
    refine List.Perm.trans ?_ (ins_perm L _).symm
    exact (List.perm_append_comm).trans (List.Perm.cons _ h2)
  · rcases List.mem_append.1 hx with h5 | h5
    · have := h3 x h5; omega
    · obtain rfl := List.mem_singleton.1 h5
      exact ⟨by show (1 : Int) ≤ (i : Int) + 1; omega, by show (i : Int) + 1 ≤ _; omega⟩
theorem cut_perm {α : Type} {l : List α} {k : Nat} (hk : k < l.length) : l.Perm (l[k] :: (l.take k ++ l.drop (k + 1))) := by
  have e : l.take k ++ l[k] :: l.drop (k + 1) = l := by rw [← List.drop_eq_getElem_cons hk, List.take_append_drop]
  have h := (List.perm_middle (a := l[k]) (l₁ := l.take k) (l₂ := l.drop (k + 1)))
  rw [e] at h
  exact h
theorem srt_nodup {L : List Te} (h : Srt L) : L.Nodup := by
  unfold Srt at h
  refine h.imp ?_
  intro a b hab e
  rw [e, cmpT_refl] at hab
  exact absurd hab (by decide)
theorem Iv.take (h : Iv p c i L l) (hS : Srt L) (hok : ∀ x ∈ L, okT x = true) {k : Nat} (hk : k < l.length) :
    takeEr L (eth l k).te = 0 ∧ takeEr (takeLs L (eth l k).te) (eth l k).te = 4 ∧ takeLs (takeLs L (eth l k).te) (eth l k).te = takeLs L (eth l k).te ∧ Iv p c i (takeLs L (eth l k).te) (l.take k ++ l.drop (k + 1)) := by
  obtain ⟨h1, h2, h3, h4⟩ := h
  have hp := cut_perm hk
  rw [eth_get hk]
  generalize hx : l[k] = x at *
  have hm : x.te ∈ L := h2.subset (List.mem_map.2 ⟨x, hp.symm.subset (List.mem_cons_self ..), rfl⟩)
  have e0 : takeEr L x.te = 0 := by unfold takeEr; rw [if_pos (hok _ hm), if_pos (memT_iff.2 hm)]
  have e1 : takeLs L x.te = delT L x.te := by unfold takeLs; rw [if_pos e0]
  have hd := del_perm hm
  have hn : x.te ∉ delT L x.te := by
    have := (hd.nodup_iff).1 (srt_nodup hS)
    exact (List.nodup_cons.1 this).1
  rw [e1]
  have e2 : takeEr (delT L x.te) x.te = 4 := by unfold takeEr; rw [if_pos (hok _ hm), if_neg (fun h => hn (memT_iff.1 h))]
  refine ⟨e0, e2, by unfold takeLs; rw [if_neg (by rw [e2]; decide)], ⟨fun y hy => h1 y (hp.symm.subset (List.mem_cons_of_mem _ hy)), ?_, fun y hy => h3 y (hp.symm.subset (List.mem_cons_of_mem _ hy)), ?_⟩⟩
  · have h5 := hp.map Et.te
    rw [List.map_cons] at h5
    exact (h5.symm.trans (h2.trans hd)).cons_inv
  · have := hp.length_eq
    rw [List.length_cons] at this
    omega
theorem Iv.swap (h : Iv p c i L l) {k : Nat} (h0 : 0 < k) (hk : k < l.length) :
    Iv p c i L ((l.set k (eth l (k - 1))).set (k - 1) (eth l k)) ∧ ((l.set k (eth l (k - 1))).set (k - 1) (eth l k)).map Et.te = swT (l.map Et.te) k := by
  have hk1 : k - 1 < l.length := by omega
  have he : ((l.set k (eth l (k - 1))).set (k - 1) (eth l k)).map Et.te = swT (l.map Et.te) k := by
    unfold swT
    rw [List.map_set, List.map_set, tth_get (by rw [List.length_map]; exact hk1), tth_get (by rw [List.length_map]; exact hk), List.getElem_map, List.getElem_map, eth_get hk, eth_get hk1]
  have hmem : ∀ x ∈ (l.set k (eth l (k - 1))).set (k - 1) (eth l k), x ∈ l := fun x hx => by
    rcases List.mem_or_eq_of_mem_set hx with h5 | h5
    · rcases List.mem_or_eq_of_mem_set h5 with h6 | h6
      · exact h6
      · rw [h6, eth_get hk1]; exact List.getElem_mem hk1
    · rw [h5, eth_get hk]; exact List.getElem_mem hk
  refine ⟨⟨fun x hx => h.1 x (hmem x hx), ?_, fun x hx => h.2.2.1 x (hmem x hx), by rw [List.length_set, List.length_set]; exact h.2.2.2⟩, he⟩
  rw [he]
  exact (swT_perm h0 (by rw [List.length_map]; exact hk)).trans h.2.1
theorem map_te {l : List Et} {k : Nat} (hk : k < l.length) : tth (l.map Et.te) k = (eth l k).te := by rw [tth_get (by rw [List.length_map]; exact hk), List.getElem_map, eth_get hk]
theorem Iv.before (h : Iv p c i L l) (hC : Co p c) {j k : Nat} (hj : j < l.length) (hk : k < l.length) :
    befB (befN (eth l j).k (eth l j).n (eth l j).s (eth l k).k (eth l k).n (eth l k).s p c) (eth l j).no (eth l k).no = decide (cmpT (tth (l.map Et.te) j) (tth (l.map Et.te) k) < 0) := by
  have mj : eth l j ∈ l := by rw [eth_get hj]; exact List.getElem_mem hj
  have mk : eth l k ∈ l := by rw [eth_get hk]; exact List.getElem_mem hk
  obtain ⟨a1, a2, a3⟩ := h.1 _ mj
  obtain ⟨b1, b2, b3⟩ := h.1 _ mk
  rw [befB_eq hC a1 b1 a2 b2, map_te hj, map_te hk]
  unfold Et.te
  rw [a3, b3]
theorem Iv.less (h : Iv p c i L l) (hS : Srt L) {j k : Nat} (hjk : j ≠ k) (hj : j < l.length) (hk : k < l.length) (hn : ¬ cmpT (tth (l.map Et.te) j) (tth (l.map Et.te) k) < 0) : cmpT (tth (l.map Et.te) k) (tth (l.map Et.te) j) < 0 := by
  have hnd := (h.2.1.nodup_iff).2 (srt_nodup hS)
  have hne : tth (l.map Et.te) j ≠ tth (l.map Et.te) k := fun e => by
    rw [tth_get (by rw [List.length_map]; exact hj), tth_get (by rw [List.length_map]; exact hk)] at e
    exact hjk ((List.getElem_inj hnd).1 e)
  have h0 : cmpT (tth (l.map Et.te) j) (tth (l.map Et.te) k) ≠ 0 := fun e => hne (cmpT_zero.1 e)
  rw [cmpT_anti]
  omega
theorem Iv.done (h : Iv p c i L l) (hS : Srt L) (ho : So (l.map Et.te) l.length) : l.map Et.te = L := srt_perm (So.srt (by rw [List.length_map]; exact ho)) hS h.2.1
end
theorem keys_of {l : List Et} {L : List Te} (h : l.map Et.te = L) : l.map Et.key = L.map Te.key ∧ l.map Et.no = L.map Te.no := by
  rw [← h, List.map_map, List.map_map]
  exact ⟨rfl, rfl⟩
theorem pick_at (r : Int) (n : Nat) (h0 : 0 < n) (h1 : n ≤ 1000) : ∃ b : Nat, (wrap64 (r.tmod (n : Int) + (n : Int))).tmod (n : Int) = (b : Int) ∧ b < n := by
  have t1 := Int.tmod_lt_of_pos r (show (0 : Int) < (n : Int) by omega)
  have t2 := Int.lt_tmod_of_pos r (show (0 : Int) < (n : Int) by omega)
  have e : wrap64 (r.tmod (n : Int) + (n : Int)) = r.tmod (n : Int) + (n : Int) := IntWalk.wrap64_in _ ⟨by omega, by omega⟩
  have t3 := Int.tmod_lt_of_pos (r.tmod (n : Int) + (n : Int)) (show (0 : Int) < (n : Int) by omega)
  have t4 := Int.tmod_nonneg (n : Int) (show 0 ≤ r.tmod (n : Int) + (n : Int) by omega)
  rw [e]
  exact ⟨((r.tmod (n : Int) + (n : Int)).tmod (n : Int)).toNat, by omega, by omega⟩
theorem co_six (z : Int) : Co (z % 3) (z % 6 / 3) ∧ askP (z % 3) (z % 6 / 3) = 0 := by
  have h : askP (z % 3) (z % 6 / 3) = 0 := by
    have h0 : 0 ≤ z % 6 ∧ z % 6 < 6 := by omega
    have h1 : z % 3 = z % 6 % 3 := by omega
    rw [h1]
    generalize z % 6 = n at *
    rcases (by omega : n = 0 ∨ n = 1 ∨ n = 2 ∨ n = 3 ∨ n = 4 ∨ n = 5) with rfl | rfl | rfl | rfl | rfl | rfl <;> decide
  exact ⟨askP_ok h, h⟩
end Go.Proofs.YtjjikkhhlpikbaaGreatDoor.Ky
namespace Go.Proofs.YtjjikkhhlpikbaaGreatDoor
theorem xth_at {xs a b : List Nx} {x : Nx} (e : xs = a ++ x :: b) : xth xs a.length = x := by
  subst e
  rw [xth_get (by simp)]
  simp
theorem lst_cons (h : Nat) (T : BT) (s : Nat) : ∃ x r, lst h T s = x :: r := by
  cases h with
  | zero => cases T; exact ⟨_, _, rfl⟩
  | succ h => cases T; exact ⟨_, _, rfl⟩
theorem lst_pos (h : Nat) (T : BT) (s : Nat) : 1 ≤ (lst h T s).length := by
  obtain ⟨x, r, e⟩ := lst_cons h T s
  rw [e]; simp
theorem kids_kls {F : BT → Nat → List Nx} : ∀ {ks : List BT} {s : Nat}, (∀ K ∈ ks, ∀ s, 1 ≤ (F K s).length ∧ (∀ x ∈ allK (F K s), (s : Int) < x ∧ x < ((s + (F K s).length : Nat) : Int)) ∧ (allK (F K s)).Nodup) → (∀ x ∈ kno F ks s ++ allK (kls F ks s), (s : Int) ≤ x ∧ x < ((s + (kls F ks s).length : Nat) : Int)) ∧ (kno F ks s ++ allK (kls F ks s)).Nodup
  | [], s, _ => by
    show (∀ x ∈ ([] : List Int) ++ allK [], _) ∧ _
    exact ⟨fun x hx => (by cases hx), List.Pairwise.nil⟩
  | K :: ks, s, h => by
    obtain ⟨h1, h2, h3⟩ := h K List.mem_cons_self s
    obtain ⟨i1, i2⟩ := kids_kls (ks := ks) (s := s + (F K s).length) (fun K' hK => h K' (List.mem_cons_of_mem _ hK))
    rw [kno, kls, List.length_append]
    have e0 : allK (F K s ++ kls F ks (s + (F K s).length)) = allK (F K s) ++ allK (kls F ks (s + (F K s).length)) := by unfold allK; rw [List.flatMap_append]
    rw [e0]
    generalize kno F ks (s + (F K s).length) = A at *
    generalize allK (kls F ks (s + (F K s).length)) = D at *
    generalize (kls F ks (s + (F K s).length)).length = m at *
    generalize allK (F K s) = C at *
    generalize (F K s).length = q at *
    have hp : (((s : Int) :: A) ++ (C ++ D)).Perm ((s : Int) :: (C ++ (A ++ D))) := by
      rw [List.cons_append]
      refine List.Perm.cons _ ?_
      rw [← List.append_assoc, ← List.append_assoc]
      exact List.perm_append_comm.append_right D
    refine ⟨fun x hx => ?_, hp.nodup_iff.2 ?_⟩
    · rcases List.mem_cons.1 (hp.mem_iff.1 hx) with rfl | hx
      · omega
      · rcases List.mem_append.1 hx with hx | hx
        · have := h2 x hx; omega
        · have := i1 x hx; omega
    · refine List.nodup_cons.2 ⟨fun hx => ?_, List.nodup_append.2 ⟨h3, i2, fun x hx y hy e => ?_⟩⟩
      · rcases List.mem_append.1 hx with hx | hx
        · have := h2 _ hx; omega
        · have := i1 _ hx; omega
      · have := h2 x hx
        have := i1 y hy
        omega
theorem kids_lst : ∀ {h : Nat} {T : BT}, Shw h T → ∀ s, 1 ≤ (lst h T s).length ∧ (∀ x ∈ allK (lst h T s), (s : Int) < x ∧ x < ((s + (lst h T s).length : Nat) : Int)) ∧ (allK (lst h T s)).Nodup
  | 0, .nd l ks, _, s => by
    show 1 ≤ ([_] : List Nx).length ∧ (∀ x ∈ ([] : List Int) ++ [], _) ∧ (([] : List Int) ++ []).Nodup
    exact ⟨by simp, fun x hx => (by cases hx), List.Pairwise.nil⟩
  | h + 1, .nd l ks, hs, s => by
    have hk := kids_kls (F := lst h) (ks := ks) (s := s + 1) (fun K hK => kids_lst (hs.2 K hK))
    refine ⟨lst_pos _ _ _, ?_, hk.2⟩
    intro x hx
    have h1 := hk.1 x hx
    show _ ∧ x < ((s + ((_ : Nx) :: kls (lst h) ks (s + 1)).length : Nat) : Int)
    rw [List.length_cons]
    omega
theorem back_kls {xs : List Nx} {h : Nat} (F : BT → Nat → List Nx) (hF : ∀ (K : BT) (a b : List Nx), Shw h K → xs = a ++ (F K a.length ++ b) → UD xs h a.length ∧ btx xs h a.length = K ∧ (Reach xs a.length → ∀ k, a.length ≤ k → k < a.length + (F K a.length).length → Reach xs k)) : ∀ (ks : List BT) (a b : List Nx), (∀ K ∈ ks, Shw h K) → xs = a ++ (kls F ks a.length ++ b) → (∀ u ∈ (kno F ks a.length).map Int.toNat, UD xs h u) ∧ ((kno F ks a.length).map Int.toNat).map (btx xs h) = ks ∧ ((∀ u ∈ (kno F ks a.length).map Int.toNat, Reach xs u) → ∀ k, a.length ≤ k → k < a.length + (kls F ks a.length).length → Reach xs k)
  | [], a, b, _, _ => ⟨fun u hu => (by cases hu), rfl, fun _ k h1 h2 => (by simp [kls] at h2; omega)⟩
  | K :: ks, a, b, hs, e => by
    rw [kls, List.append_assoc] at e
    obtain ⟨f1, f2, f3⟩ := hF K a _ (hs K List.mem_cons_self) e
    have hl : (a ++ F K a.length).length = a.length + (F K a.length).length := by simp
    obtain ⟨i1, i2, i3⟩ := back_kls F hF ks (a ++ F K a.length) b (fun K' hK => hs K' (List.mem_cons_of_mem _ hK)) (by rw [hl, List.append_assoc]; exact e)
    rw [hl] at i1 i2 i3
    rw [kno, kls, List.map_cons, List.map_cons, Int.toNat_natCast]
    refine ⟨fun u hu => ?_, by rw [f2, i2], fun hr k h1 h2 => ?_⟩
    · rcases List.mem_cons.1 hu with rfl | hu
      · exact f1
      · exact i1 u hu
    · rw [List.length_append] at h2
      by_cases hk : k < a.length + (F K a.length).length
      · exact f3 (hr _ List.mem_cons_self) k h1 hk
      · exact i3 (fun u hu => hr u (List.mem_cons_of_mem _ hu)) k (by omega) (by omega)
theorem back_lst {xs : List Nx} : ∀ {h : Nat} (T : BT) (a b : List Nx), Shw h T → xs = a ++ (lst h T a.length ++ b) → UD xs h a.length ∧ btx xs h a.length = T ∧ (Reach xs a.length → ∀ k, a.length ≤ k → k < a.length + (lst h T a.length).length → Reach xs k)
  | 0, .nd l ks, a, b, hs, e => by
    have e1 : xs = a ++ (⟨l.map Te.key, l.map Te.no, []⟩ : Nx) :: b := e
    have hx := xth_at e1
    have hlt : a.length < xs.length := by rw [e1]; simp
    refine ⟨⟨hlt, by unfold kd; rw [hx]; rfl⟩, ?_, fun hr k h1 h2 => ?_⟩
    · show BT.nd (ents (xth xs a.length)) [] = _
      rw [hx, ents_of, show ks = [] from hs]
    · have : k < a.length + 1 := h2
      obtain rfl : k = a.length := by omega
      exact hr
  | h + 1, .nd l ks, a, b, hs, e => by
    have e1 : xs = a ++ (⟨l.map Te.key, l.map Te.no, kno (lst h) ks (a.length + 1)⟩ : Nx) :: (kls (lst h) ks (a.length + 1) ++ b) := e
    have hx := xth_at e1
    have hlt : a.length < xs.length := by rw [e1]; simp
    have hl : (a ++ [(⟨l.map Te.key, l.map Te.no, kno (lst h) ks (a.length + 1)⟩ : Nx)]).length = a.length + 1 := by simp
    obtain ⟨i1, i2, i3⟩ := back_kls (xs := xs) (h := h) (lst h) (fun K a b => back_lst K a b) ks (a ++ [⟨l.map Te.key, l.map Te.no, kno (lst h) ks (a.length + 1)⟩]) b hs.2 (by rw [hl, List.append_assoc]; exact e1)
    rw [hl] at i1 i2 i3
    have hkd : kd xs a.length = (kno (lst h) ks (a.length + 1)).map Int.toNat := by unfold kd; rw [hx]
    refine ⟨⟨hlt, ?_, by rw [hkd]; exact i1⟩, ?_, fun hr k h1 h2 => ?_⟩
    · intro h0
      have : (kd xs a.length).length = ks.length := by rw [hkd, List.length_map, kno_len]
      rw [h0, hs.1] at this
      simp at this
    · show BT.nd (ents (xth xs a.length)) ((kd xs a.length).map (btx xs h)) = _
      rw [hx, ents_of, hkd, i2]
    · by_cases hk : k = a.length
      · rw [hk]; exact hr
      · refine i3 (fun u hu => .kid hr (by rw [hkd]; exact hu)) k (by omega) ?_
        have : k < a.length + ((_ : Nx) :: kls (lst h) ks (a.length + 1)).length := h2
        rw [List.length_cons] at this
        omega
theorem nodes_kls {h : Nat} : ∀ {ks : List BT} {s : Nat}, (∀ K ∈ ks, ∀ s, ∀ y ∈ lst h K s, shapeB y = true ∧ 2 ≤ y.keys.length) → ∀ y ∈ kls (lst h) ks s, shapeB y = true ∧ 2 ≤ y.keys.length
  | [], _, _, y, hy => by cases hy
  | K :: ks, s, hk, y, hy => by
    rw [kls] at hy
    rcases List.mem_append.1 hy with hy | hy
    · exact hk K List.mem_cons_self _ y hy
    · exact nodes_kls (fun K' hK => hk K' (List.mem_cons_of_mem _ hK)) y hy
theorem nodes_lst : ∀ {h : Nat} {T : BT}, Shp h T → T.l.length ≤ 4 → ∀ s, ∃ x r, lst h T s = x :: r ∧ shapeB x = true ∧ x.keys.length = T.l.length ∧ (h = 0 → x.kids = []) ∧ ∀ y ∈ r, shapeB y = true ∧ 2 ≤ y.keys.length
  | 0, .nd l ks, hs, h4, s => by
    refine ⟨_, _, rfl, ?_, by simp [BT.l], fun _ => rfl, fun y hy => (by cases hy)⟩
    have h4' : l.length ≤ 4 := h4
    simp [shapeB, shapeN, kno, h4']
  | h + 1, .nd l ks, hs, h4, s => by
    have h4' : l.length ≤ 4 := h4
    refine ⟨_, _, rfl, ?_, by simp [BT.l], fun h => (by cases h), nodes_kls (fun K hK s y hy => ?_)⟩
    · simp [shapeB, shapeN, kno_len, h4', hs.1]
    · obtain ⟨k2, k4, ks'⟩ := hs.2 K hK
      obtain ⟨x, r, e, g1, g2, _, g4⟩ := nodes_lst ks' k4 s
      rw [e] at hy
      rcases List.mem_cons.1 hy with rfl | hy
      · exact ⟨g1, by rw [g2]; exact k2⟩
      · exact g4 y hy
theorem lst_right {h : Nat} {T : BT} (hs : Shp h T) (h4 : T.l.length ≤ 4) (h1 : h ≠ 0 → 1 ≤ T.l.length) (hn : (lst h T 0).length ≤ 2400) (hok : ∀ x ∈ flat h T, okT x = true) (hsr : Srt (flat h T)) : wrongX (lst h T 0) = 0 ∧ entX (lst h T 0) = flat h T := by
  obtain ⟨b1, b2, b3⟩ := back_lst (xs := lst h T 0) T [] [] hs.w (by simp)
  have hent : entX (lst h T 0) = flat h T := by
    unfold entX
    rw [hX_is b1]
    show flat h (btx (lst h T 0) h 0) = _
    rw [show btx (lst h T 0) h 0 = T from b2]
  obtain ⟨k1, k2, k3⟩ := kids_lst hs.w 0
  obtain ⟨x, r, e, g1, g2, g3, g4⟩ := nodes_lst hs h4 0
  have hnth : ∀ k, k < (lst h T 0).length → xth (lst h T 0) k = x ∧ k = 0 ∨ k ≠ 0 ∧ xth (lst h T 0) k ∈ r := fun k hk => by
    rw [e] at hk ⊢
    cases k with
    | zero => exact .inl ⟨rfl, rfl⟩
    | succ k =>
      refine .inr ⟨by omega, ?_⟩
      rw [xth_get hk, List.getElem_cons_succ]
      exact List.getElem_mem _
  refine ⟨wrong_none.2 ⟨k1, hn, fun k hk => ?_, ⟨⟨fun y hy => ?_, k3⟩, fun k hk => b3 .zero k (Nat.zero_le _) (by simpa using hk)⟩, fun k hk => ?_, ⟨h, b1⟩, by rw [hent]; exact hok, by rw [hent]; exact hsr⟩, hent⟩
  · rcases hnth k hk with ⟨e1, _⟩ | ⟨_, e1⟩
    · rw [e1]; exact g1
    · exact (g4 _ e1).1
  · have := k2 y hy
    rw [Nat.zero_add] at this
    omega
  · rcases hnth k hk with ⟨e1, rfl⟩ | ⟨e0, e1⟩
    · rw [if_pos rfl, e1, g2]
      by_cases h0 : h = 0
      · rw [g3 h0]; simp
      · have := h1 h0; omega
    · rw [if_neg e0]; exact (g4 _ e1).2
theorem kls_len {h : Nat} {xs : List Nx} {G : Nat → Nat} : ∀ {us : List Nat} {s : Nat}, (∀ u ∈ us, ∀ s, (lst h (btx xs h u) s).length = G u) → (kls (lst h) (us.map (btx xs h)) s).length = (us.map G).sum
  | [], _, _ => rfl
  | u :: us, s, hu => by
    rw [List.map_cons, kls, List.length_append, hu u List.mem_cons_self, kls_len (fun v hv => hu v (List.mem_cons_of_mem _ hv)), List.map_cons, List.sum_cons]
theorem lst_len {xs : List Nx} : ∀ {h f k : Nat}, UD xs h k → UT xs f k → ∀ s, (lst h (btx xs h k) s).length = (sub xs f k).length
  | _, 0, _, _, b, _ => b.elim
  | 0, f + 1, k, a, _, s => by
    show ([_] : List Nx).length = (k :: (kd xs k).flatMap (sub xs f)).length
    rw [a.2]; rfl
  | h + 1, f + 1, k, a, b, s => by
    show ((_ : Nx) :: kls (lst h) ((kd xs k).map (btx xs h)) (s + 1)).length = (k :: (kd xs k).flatMap (sub xs f)).length
    rw [List.length_cons, List.length_cons, flatMap_len, kls_len (G := fun u => (sub xs f u).length) (fun u hu s => lst_len (a.2.2 u hu) (b.2 u hu) s)]
open Go.RowKit Go.Shelf
structure QueX (w : World) (p : Nat → Prop) (ao : Option Addr) (b off cap : Nat) (l : List Int) : Prop where
  le : l.length ≤ cap
  max : cap ≤ maxLen
  addr : 0 < cap → ao = some ⟨b, off, none⟩
  lt : 0 < cap → b < w.heap.size
  own : 0 < cap → p b
  holds : ∀ j u, (ints l)[j]? = some u → w.cell? ⟨b, off + j, none⟩ = some u
  there : ∀ j, j < cap → (w.cell? ⟨b, off + j, none⟩).isSome = true ∧ w.frozen? ⟨b, off + j, none⟩ = false
def Que (w : World) (p : Nat → Prop) (v : Value) (l : List Int) : Prop := ∃ ao b off cap, v = .slice ao l.length cap ∧ QueX w p ao b off cap l
theorem setCells_same (b : Nat) : ∀ (vs : List Value) (o : Nat) (w : World), (w.setCells b o vs).heap.size = w.heap.size ∧ (w.setCells b o vs).tape = w.tape
  | [], _, _ => ⟨rfl, rfl⟩
  | v :: vs, o, w => by
    have h := setCells_same b vs (o + 1) (w.setCell ⟨b, o, none⟩ v)
    exact ⟨h.1.trans (by simp), h.2⟩
theorem ints_len (l : List Int) : (ints l).length = l.length := by simp [ints]
section
variable {w w' : World} {p : Nat → Prop} {v : Value} {l : List Int}
theorem Que.keep (h : Que w p v l) (hb : ∀ k, k < w.heap.size → p k → w'.heap[k]? = w.heap[k]?) (hs : w.heap.size ≤ w'.heap.size) : Que w' p v l := by
  obtain ⟨ao, b, off, cap, rfl, h⟩ := h
  refine ⟨ao, b, off, cap, rfl, h.le, h.max, h.addr, fun hc => Nat.lt_of_lt_of_le (h.lt hc) hs, h.own, fun j u hu => ?_, fun j hj => ?_⟩
  · have hc : 0 < cap := by have := (List.getElem?_eq_some_iff.1 hu).1; rw [ints_len] at this; have := h.le; omega
    exact (World.cell?_of_block (a := ⟨b, off + j, none⟩) (hb b (h.lt hc) (h.own hc))).trans (h.holds j u hu)
  · have hc : 0 < cap := by omega
    rw [World.cell?_of_block (a := ⟨b, off + j, none⟩) (hb b (h.lt hc) (h.own hc)), World.frozen?_of_block (a := ⟨b, off + j, none⟩) (hb b (h.lt hc) (h.own hc))]
    exact h.there j hj
theorem Que.ext (h : Que w p v l) (hx : Ext w w') : Que w' p v l := h.keep (fun k hk _ => hx.block hk) hx.size
theorem Que.set (h : Que w p v l) {g j : Nat} {u : Value} (hg : ¬ p g) : Que (w.setCell ⟨g, j, none⟩ u) p v l := h.keep (fun k hk hp => by
  have hne : g ≠ k := fun e => hg (e ▸ hp)
  simp [World.setCell, Array.getElem?_modify, hne]) (by simp)
theorem Que.form (h : Que w p v l) : ∃ A c, v = .slice A l.length c ∧ l.length ≤ c ∧ c ≤ 9223372036854775807 := by
  obtain ⟨ao, b, off, cap, rfl, h⟩ := h
  exact ⟨ao, cap, rfl, h.le, h.max⟩
theorem Que.head {A : Option Addr} {n c : Nat} {x : Int} (h : Que w p (.slice A n c) (x :: l)) : ∃ ad, A = some ad ∧ w.cell? (ad.add 0) = some (.int .i64 x) ∧ n = l.length + 1 ∧ 1 ≤ c ∧ c ≤ 9223372036854775807 ∧ Que w p (.slice (if c = 1 then A else A.map (·.add 1)) l.length (c - 1)) l := by
  obtain ⟨ao, b, off, cap, e, h⟩ := h
  injection e with e1 e2 e3
  subst e1 e3
  have hle := h.le
  rw [List.length_cons] at hle
  have ha := h.addr (by omega)
  refine ⟨⟨b, off, none⟩, ha, ?_, e2, by omega, h.max, _, b, off + 1, c - 1, rfl, by omega, by have := h.max; omega, fun hc => ?_, fun _ => h.lt (by omega), fun _ => h.own (by omega), fun j u hu => ?_, fun j hj => ?_⟩
  · rw [lit_add]
    exact h.holds 0 _ rfl
  · rw [if_neg (by omega), ha, Option.map_some, lit_add]
  · have := h.holds (j + 1) u hu
    rw [show off + 1 + j = off + (j + 1) by omega]
    exact this
  · rw [show off + 1 + j = off + (j + 1) by omega]
    exact h.there (j + 1) (by omega)
theorem Que.last {A : Option Addr} {n c : Nat} {x : Int} (h : Que w p (.slice A n c) (l ++ [x])) : ∃ ad, A = some ad ∧ w.cell? (ad.add l.length) = some (.int .i64 x) ∧ n = l.length + 1 ∧ n ≤ c ∧ c ≤ 9223372036854775807 ∧ Que w p (.slice A l.length c) l := by
  obtain ⟨ao, b, off, cap, e, h⟩ := h
  injection e with e1 e2 e3
  subst e1 e3
  have hle := h.le
  rw [List.length_append, List.length_cons, List.length_nil] at hle e2
  have ha := h.addr (by omega)
  refine ⟨⟨b, off, none⟩, ha, ?_, by omega, by omega, h.max, A, b, off, c, rfl, by omega, h.max, h.addr, h.lt, h.own, fun j u hu => ?_, h.there⟩
  · rw [lit_add]
    exact h.holds l.length _ (by rw [ints_append, List.getElem?_append_right (by rw [ints_len]; exact Nat.le_refl _), ints_len, Nat.sub_self]; rfl)
  · refine h.holds j u ?_
    rw [ints_append, List.getElem?_append_left (List.getElem?_eq_some_iff.1 hu).1]
    exact hu
theorem Que.append (h : Que w p v l) (hp : ∀ g, w.heap.size ≤ g → p g) {A : Option Addr} {m c : Nat} {news : List Int} (hr : RdI w A m c news) (hb : l.length + m ≤ 1000000) (ty : TypeId) :
    ∃ v' w', (Builtin.append_ #[23, 23] ty #[v, .slice A m c]).run Tryz.prog w = .ok v' w' ∧ Que w' p v' (l ++ news) ∧ w'.os = w.os ∧ w'.tape = w.tape ∧ w'.output = w.output ∧ w.heap.size ≤ w'.heap.size ∧ ∀ k, k < w.heap.size → ¬ p k → w'.heap[k]? = w.heap[k]? := by
  obtain ⟨i0, hi0, hz0, hz1, hz2⟩ := info_parts infoI
  obtain ⟨ao, b, off, cap, rfl, h⟩ := h
  have hm1 : news.length = m := by have := hr.1; rw [ints_len] at this; omega
  have hone : ∀ u ∈ ints news, u.oneCell' = true := fun u hu => by
    obtain ⟨x, _, rfl⟩ := List.mem_map.1 hu
    rfl
  have hs : Src Tryz.prog i0.size 23 (.slice A m c) m (ints news) w := by
    rw [hz1]
    rcases A with _ | ad
    · have hm0 : m = 0 := by
        rcases Nat.eq_zero_or_pos m with h0 | h0
        · exact h0
        · obtain ⟨ad, h9, _⟩ := hr.2.2.2 h0
          cases h9
      subst hm0
      have hn0 := List.eq_nil_of_length_eq_zero hm1
      subst hn0
      exact Src.ofNil w Tryz.underlying23 c
    · refine Src.ofSlice w Tryz.underlying23 ad m c (ints news) (by rw [ints_len, hm1]; omega) (fun j u hu => ?_) hone
      have hj := (List.getElem?_eq_some_iff.1 hu).1
      rw [ints_len] at hj
      obtain ⟨ad', h9, hc⟩ := hr.2.2.2 (by omega)
      injection h9 with h9
      subst h9
      exact hc j u hu
  have hll : (l ++ news).length = l.length + m := by rw [List.length_append, hm1]
  have hmaxl : maxLen = 9223372036854775807 := rfl
  have grow : cap < l.length + m → (Builtin.firstCells i0.size l.length (.slice ao l.length cap)).run Tryz.prog w.drew = .ok (ints l).toArray w.drew → ∃ v' w', (Builtin.append_ #[23, 23] ty #[.slice ao l.length cap, .slice A m c]).run Tryz.prog w = .ok v' w' ∧ Que w' p v' (l ++ news) ∧ w'.os = w.os ∧ w'.tape = w.tape ∧ w'.output = w.output ∧ w.heap.size ≤ w'.heap.size ∧ ∀ k, k < w.heap.size → ¬ p k → w'.heap[k]? = w.heap[k]? := fun hg hold => by
    have hrun := run_append_grow_src (P := Tryz.prog) w 23 23 ty 3 i0 _ Tryz.underlying23 hi0 hz0 ao l.length cap (ints l) hold _ m (ints news) hs hg (by omega) (growslice_fits hg (by rw [hz2]; omega))
    have hge := grownCap_ge w (l.length + m) cap 3
    have hcm := grownCap_le_maxLen w (l.length + m) cap 3 (by omega)
    have hsz : ((ints l ++ ints news).toArray ++ Builtin.zeroCells (Value.int .i64 0).cells (grownCap w (l.length + m) cap 3 - (l.length + m))).size = grownCap w (l.length + m) cap 3 := by
      rw [Array.size_append, List.size_toArray, List.length_append, ints_len, ints_len, hm1, size_zeroCells]
      show l.length + m + (_ - (l.length + m)) * 1 = _
      omega
    have e1 : ∀ j, (w.drew.alloc (.cells ((ints l ++ ints news).toArray ++ Builtin.zeroCells (Value.int .i64 0).cells (grownCap w (l.length + m) cap 3 - (l.length + m))) 3)).cell? ⟨w.heap.size, j, none⟩ = _ := fun j => World.cell?_alloc_new w.drew _ _ j
    refine ⟨_, _, hrun, ⟨some ⟨w.heap.size, 0, none⟩, w.heap.size, 0, _, by rw [hll], by rw [hll]; exact hge, hcm, fun _ => rfl, fun _ => by simp, fun _ => hp _ (Nat.le_refl _), fun j u hu => ?_, fun j hj => ?_⟩, rfl, rfl, rfl, by simp, fun k hk _ => Below.heap_alloc w.drew _ k hk⟩
    · rw [Nat.zero_add, e1 j]
      rw [ints_append] at hu
      have hj := (List.getElem?_eq_some_iff.1 hu).1
      rw [Array.getElem?_append_left (by simpa using hj), List.getElem?_toArray]
      exact hu
    · rw [Nat.zero_add, e1 j]
      refine ⟨?_, World.frozen?_alloc_new w.drew _ _ j⟩
      rw [Array.getElem?_eq_getElem (by rw [hsz]; exact hj)]
      rfl
  rcases Nat.eq_zero_or_pos cap with h0 | hcap
  · subst h0
    have hl0 : l = [] := List.eq_nil_of_length_eq_zero (by have := h.le; omega)
    subst hl0
    rcases Nat.eq_zero_or_pos m with hm0 | hm0
    · subst hm0
      have hn0 := List.eq_nil_of_length_eq_zero hm1
      subst hn0
      exact ⟨_, w, run_append_nothing (P := Tryz.prog) w 23 23 ty 3 i0 Tryz.underlying23 hi0 ao 0 0 (Nat.le_refl _) _ hs, ⟨ao, b, off, 0, rfl, h⟩, rfl, rfl, rfl, Nat.le_refl _, fun _ _ _ => rfl⟩
    · refine grow (by show 0 < 0 + m; omega) ?_
      cases ao with
      | none => exact run_firstCells_none w.drew i0.size 0 0 0
      | some a' => exact run_firstCells_some w.drew i0.size 0 a' 0 0 [] (by simp) (by intro _ _ h'; simp at h')
  · have hao := h.addr hcap
    subst hao
    by_cases hfit : l.length + m ≤ cap
    · have hsome : ∀ j, j < (ints news).length → (w.cell? ⟨b, off + l.length * i0.size + j, none⟩).isSome = true := fun j hj => by
        rw [ints_len] at hj
        rw [hz1, Nat.mul_one, Nat.add_assoc]
        exact (h.there (l.length + j) (by omega)).1
      have hrun := run_append_room_src (P := Tryz.prog) w 23 23 ty 3 i0 Tryz.underlying23 hi0 b off l.length cap _ m (ints news) hs hfit hsome (fun j hj => by
        rw [ints_len] at hj
        rw [hz1, Nat.mul_one, Nat.add_assoc]
        exact (h.there (l.length + j) (by omega)).2)
      rw [hz1, Nat.mul_one] at hrun hsome
      have hbl := h.lt hcap
      have hszs : (w.setCells b (off + l.length) (ints news)).heap.size = w.heap.size := (setCells_same b (ints news) (off + l.length) w).1
      refine ⟨_, _, hrun, ⟨some ⟨b, off, none⟩, b, off, cap, by rw [hll], by rw [hll]; exact hfit, h.max, fun _ => rfl, fun _ => by rw [hszs]; exact hbl, h.own, fun j u hu => ?_, fun j hj => ?_⟩, World.os_setCells _ _ _ _, (setCells_same b (ints news) (off + l.length) w).2, World.output_setCells _ _ _ _, by rw [hszs]; exact Nat.le_refl _, fun k hk hpk => World.heap_setCells_other w b _ _ hk (fun e => hpk (e ▸ h.own hcap))⟩
      · rw [ints_append] at hu
        by_cases hj : j < l.length
        · rw [World.cell?_setCells_out b _ _ _ _ (fun _ _ => Or.inl (by show off + j < off + l.length; omega))]
          exact h.holds j u (by rw [List.getElem?_append_left (by rw [ints_len]; exact hj)] at hu; exact hu)
        · have hj2 := (List.getElem?_eq_some_iff.1 hu).1
          rw [List.length_append, ints_len, ints_len] at hj2
          have h7 := World.cell?_setCells_in b (ints news) (off + l.length) w hsome (j - l.length) (by rw [ints_len]; omega)
          rw [show off + l.length + (j - l.length) = off + j by omega] at h7
          rw [h7]
          rw [List.getElem?_append_right (by rw [ints_len]; omega), ints_len] at hu
          rw [List.getElem?_eq_some_iff] at hu
          obtain ⟨_, hu⟩ := hu
          rw [hu]
      · refine ⟨?_, by rw [World.frozen?_setCells]; exact (h.there j hj).2⟩
        by_cases hin : l.length ≤ j ∧ j < l.length + m
        · have h7 := World.cell?_setCells_in b (ints news) (off + l.length) w hsome (j - l.length) (by rw [ints_len]; omega)
          rw [show off + l.length + (j - l.length) = off + j by omega] at h7
          rw [h7]
          rfl
        · rw [World.cell?_setCells_out b _ _ _ _ (fun _ _ => by show off + j < off + l.length ∨ off + l.length + (ints news).length ≤ off + j; rw [ints_len]; omega)]
          exact (h.there j hj).1
    · refine grow (by omega) ?_
      refine run_firstCells_some w.drew i0.size l.length ⟨b, off, none⟩ l.length cap (ints l) (by rw [hz1, ints_len]; omega) (fun j u hu => ?_)
      rw [lit_add]
      exact h.holds j u hu
end
def rowF (n : Nat) (f : Nat → Bool) : List Value := (List.range n).map fun k => .bool (f k)
theorem rowF_len (n : Nat) (f : Nat → Bool) : (rowF n f).length = n := by simp [rowF]
theorem rowF_at {n k : Nat} (f : Nat → Bool) (h : k < n) : (rowF n f)[k]? = some (.bool (f k)) := by
  unfold rowF
  rw [List.getElem?_map, List.getElem?_range h]
  rfl
theorem rowF_cell {w : World} {g n k : Nat} {f : Nat → Bool} (h : w.heap[g]? = some (.cells (rowF n f).toArray 4 (0, 0))) (hk : k < n) : w.cell? ⟨g, k, none⟩ = some (.bool (f k)) := by
  rw [Lib.cell_of_heap h]
  simpa using rowF_at f hk
theorem rowF_set {w : World} {g n k : Nat} {f f' : Nat → Bool} (h : w.heap[g]? = some (.cells (rowF n f).toArray 4 (0, 0))) (hf : ∀ j, j < n → f' j = (f j || decide (j = k))) : (w.setCell ⟨g, k, none⟩ (.bool true)).heap[g]? = some (.cells (rowF n f').toArray 4 (0, 0)) := by
  have h1 : (rowF n f).toArray.setIfInBounds k (.bool true) = (rowF n f').toArray := by
    apply Array.ext_getElem?
    intro j
    rw [Array.getElem?_setIfInBounds, List.getElem?_toArray, List.getElem?_toArray, List.size_toArray, rowF_len]
    by_cases hj : j < n
    · rw [rowF_at f hj, rowF_at f' hj, hf j hj]
      by_cases e : k = j
      · subst e
        simp [hj]
      · rw [if_neg e]
        simp [show ¬ j = k from fun h => e h.symm]
    · rw [List.getElem?_eq_none (by rw [rowF_len]; omega), List.getElem?_eq_none (by rw [rowF_len]; omega)]
      by_cases e : k = j
      · subst e; simp [hj]
      · rw [if_neg e]
  simp [World.setCell, Array.getElem?_modify, h]
  simpa using h1
open Go.RowKit Go.Shelf
def newF (w : World) (k : Nat) : World := w.alloc (.cells (madeCells #[.bool false] (k * 1)) 4)
theorem newF_ext (w : World) (k : Nat) : Ext w (newF w k) := (Ext.refl w).alloc_right _
theorem newF_row (w : World) (k : Nat) : (newF w k).heap[w.heap.size]? = some (.cells (rowF k (fun _ => false)).toArray 4 (0, 0)) := by
  have h := heap_alloc_new w (.cells (madeCells #[.bool false] (k * 1)) 4)
  unfold newF
  rw [h]
  have e : madeCells #[.bool false] (k * 1) = (rowF k (fun _ => false)).toArray := by
    apply Array.ext
    · simp [madeCells, rowF]
    · intro i h1 h2
      simp [madeCells, rowF, Nat.mod_one]
  rw [e]
theorem infoBo : (Tryz.prog.info? 4).map (fun i => (i.zero, i.size, i.bytes)) = some (some (.bool false), 1, 1) := by kernel_rfl
theorem mkF (n : Nat) (hn : n ≤ 1000000) (wx : World) : (Instr.makeSlice 163 (.int .i64 (n : Int)) (.int .i64 (n : Int))).run Tryz.prog wx = .ok (.slice (some ⟨wx.heap.size, 0, none⟩) n n) (newF wx n) := by
  obtain ⟨i0, hi, hz0, hz1, hz2⟩ := info_parts infoBo
  have h := run_makeSlice (P := Tryz.prog) wx 163 4 i0 (.bool false) Tryz.underlying163 hi hz0 .i64 .i64 (n : Int) (n : Int) (by omega) (by omega) (by rw [hz1]; omega) (by rw [hz2]; omega) (by omega)
  rw [hz1] at h
  simp only [Int.toNat_natCast] at h
  exact h
def flg (xs : List Nx) (i j : Nat) : Nat → Bool := fun u => (preK xs i j).contains (u : Int)
theorem flg_zero (xs : List Nx) : flg xs 0 0 = fun _ => false := by funext u; unfold flg; rw [preK_zero]; rfl
theorem flg_next {xs : List Nx} {i : Nat} (hi : i < xs.length) : flg xs i (xth xs i).kids.length = flg xs (i + 1) 0 := by funext u; unfold flg; rw [preK_next hi]
theorem flg_step {xs : List Nx} {i j m : Nat} (hj : j < (xth xs i).kids.length) (hm : ith (xth xs i).kids j = (m : Int)) (k : Nat) : flg xs i (j + 1) k = (flg xs i j k || decide (k = m)) := by
  unfold flg
  rw [preK_step hj, hm]
  simp [List.contains_eq_any_beq, List.any_append]
  by_cases h : k = m
  · subst h; simp
  · simp [h, show ¬ (k : Int) = (m : Int) by omega]
theorem flg_mem {xs : List Nx} {i j m : Nat} : flg xs i j m = true ↔ (m : Int) ∈ preK xs i j := by unfold flg; simp
structure RT (w wr : World) (b g : Nat) (A : Option Addr) (n c : Nat) (f : Nat → Bool) : Prop where
  ext : Ext w wr
  box : wr.cell? ⟨b, 0, none⟩ = some (.slice A n c)
  row : wr.heap[g]? = some (.cells (rowF n f).toArray 4 (0, 0))
  le : w.heap.size ≤ g
  ne : b ≠ g
theorem RT.set {w wr : World} {b g n c m : Nat} {A : Option Addr} {f f' : Nat → Bool} (h : RT w wr b g A n c f) (hf : ∀ k, f' k = (f k || decide (k = m))) : RT w (wr.setCell ⟨g, m, none⟩ (.bool true)) b g A n c f' :=
  ⟨h.ext.set (p := ⟨g, m, none⟩) h.le _, cell_far h.box (fun e => h.ne e.symm), rowF_set h.row (fun j _ => hf j), h.le, h.ne⟩
theorem RT.drew {w wr : World} {b g n c : Nat} {A : Option Addr} {f : Nat → Bool} (h : RT w wr b g A n c f) : RT w wr.drew b g A n c f := ⟨h.ext.drew_right, h.box, h.row, h.le, h.ne⟩
structure RV (w wr : World) (b g B : Nat) (A : Option Addr) (n c : Nat) (V : List Nat) (v : Value) (l : List Int) : Prop where
  rt : RT w wr b g A n c (fun k => V.contains k)
  que : Que wr (fun k => B ≤ k) v l
  hb : b < B
  hg : g < B
  hB : B ≤ wr.heap.size
theorem wpList_app {P : Program} {w w' : World} {ops : Array Oper} {rest : List Oper} {o : Oper} {a : Act} {Q : Exit → Act → World → Prop} (hgd : o.guard = none) (s x : Operand) (t tn : TypeId) (ho : o.op = .call { callee := .builtin .append, args := #[s, x], argTypes := #[t, tn] }) (vs vx : Value) (hs : a.eval s = vs) (hx : a.eval x = vx)
    (v' : Value) (hr : (Builtin.append_ #[t, tn] o.type #[vs, vx]).run P w = .ok v' w') (h : wpList P ops Q rest (a.put o.dst v') w') : wpList P ops Q (o :: rest) a w :=
  wpList_plain hgd fun _ hK => by
    unfold Oper.wp
    rw [ex_append s x t tn ho vs vx hs hx v' hr]
    exact hK _ _ h
theorem RV.app {w wr w' : World} {b g B n c : Nat} {A : Option Addr} {V : List Nat} {v v' : Value} {l l' : List Int} (h : RV w wr b g B A n c V v l) (hq : Que w' (fun k => B ≤ k) v' l') (h1 : w'.os = wr.os) (h2 : w'.tape = wr.tape) (h3 : w'.output = wr.output) (h4 : wr.heap.size ≤ w'.heap.size) (h5 : ∀ k, k < wr.heap.size → ¬ B ≤ k → w'.heap[k]? = wr.heap[k]?) : RV w w' b g B A n c V v' l' := by
  have hbl := h.hb
  have hgl := h.hg
  have hBl := h.hB
  have hle := h.rt.le
  refine ⟨⟨⟨h1.trans h.rt.ext.os, h2.trans h.rt.ext.tape, h3.trans h.rt.ext.output, Nat.le_trans h.rt.ext.size h4, fun k hk => (h5 k (Nat.lt_of_lt_of_le hk h.rt.ext.size) (by omega)).trans (h.rt.ext.block hk)⟩, (World.cell?_of_block (a := ⟨b, 0, none⟩) (h5 b (by omega) (by omega))).trans h.rt.box, (h5 g (by omega) (by omega)).trans h.rt.row, hle, h.rt.ne⟩, hq, hbl, hgl, by omega⟩
def toI (l : List Nat) : List Int := l.map fun (k : Nat) => (k : Int)
theorem toI_kd {xs : List Nx} (ok : okP xs.length (allK xs)) (k : Nat) : toI (kd xs k) = (xth xs k).kids := by
  unfold toI kd
  rw [List.map_map]
  conv => rhs; rw [← List.map_id (xth xs k).kids]
  apply List.map_congr_left
  intro x hx
  have hk : k < xs.length := by
    rcases Nat.lt_or_ge k xs.length with h1 | h1
    · exact h1
    · rw [xth_out h1] at hx; cases hx
  have := ok.1 x (List.mem_flatMap.2 ⟨xs[k], List.getElem_mem hk, by rw [← xth_get hk]; exact hx⟩)
  show ((x.toNat : Nat) : Int) = x
  omega
open Go.RowKit Go.Shelf
def GiveOI (l : List Int) (w : World) (e : Ending) (w' : World) : Prop := ∃ v, e = .returned v ∧ w'.ownsRow w.heap.size 3 1 v l.length (ints l) ∧ Ext w w'
theorem GiveOI.from {l : List Int} {w w1 w' : World} {v : Value} (hx : Ext w w1) (ho : w'.ownsRow w1.heap.size 3 1 v l.length (ints l)) (h1 : Ext w1 w') : GiveOI l w (.returned v) w' := ⟨v, rfl, own_baseK ho hx.size, hx.trans h1⟩
def kdn (xs : List Nx) (k q : Nat) : Nat := (kd xs k).getD q 0
theorem kdn_is {xs : List Nx} (ok : okP xs.length (allK xs)) {k q : Nat} (hq : q < (xth xs k).kids.length) : ith (xth xs k).kids q = (kdn xs k q : Int) ∧ kdn xs k q ∈ kd xs k ∧ (kd xs k)[q]? = some (kdn xs k q) := by
  have hl : q < (kd xs k).length := by rw [kd_len]; exact hq
  have e : kdn xs k q = (kd xs k)[q] := by simp [kdn, List.getD, hl]
  have h2 : ith (xth xs k).kids q = ith (toI (kd xs k)) q := by rw [toI_kd ok]
  refine ⟨?_, by rw [e]; exact List.getElem_mem hl, by rw [e]; exact List.getElem?_eq_getElem hl⟩
  rw [h2, ith_get (by simpa [toI] using hl), e]
  simp [toI]
open Go.RowKit Go.Shelf
open Go.RowKit Go.Shelf
section
variable {xs : List Nx}
theorem wX1 (h : xs.length < 1 ∨ 2400 < xs.length) : wrongX xs = 1 := by unfold wrongX; rw [if_pos h]
theorem wX2 (h1 : 1 ≤ xs.length ∧ xs.length ≤ 2400) (h : ¬ shpX xs) : wrongX xs = 2 := by unfold wrongX; rw [if_neg (by omega), if_pos (cdec_not.2 h)]
theorem wX3 (h1 : 1 ≤ xs.length ∧ xs.length ≤ 2400) (h2 : shpX xs) (h : treeB xs = false) : wrongX xs = 3 := by unfold wrongX; rw [if_neg (by omega), if_neg (fun hc => cdec_not.1 hc h2), if_pos h]
theorem wX4 (h1 : 1 ≤ xs.length ∧ xs.length ≤ 2400) (h2 : shpX xs) (h3 : treeB xs = true) (h : ¬ fullP xs) : wrongX xs = 4 := by unfold wrongX; rw [if_neg (by omega), if_neg (fun hc => cdec_not.1 hc h2), if_neg (by rw [h3]; decide), if_pos (cdec_not.2 h)]
theorem wX5 (h1 : 1 ≤ xs.length ∧ xs.length ≤ 2400) (h2 : shpX xs) (h3 : treeB xs = true) (h4 : fullP xs) (h : ¬ ∃ h, UD xs h 0) : wrongX xs = 5 := by unfold wrongX; rw [if_neg (by omega), if_neg (fun hc => cdec_not.1 hc h2), if_neg (by rw [h3]; decide), if_neg (fun hc => cdec_not.1 hc h4), if_pos (cdec_not.2 h)]
theorem wX6 (h1 : 1 ≤ xs.length ∧ xs.length ≤ 2400) (h2 : shpX xs) (h3 : treeB xs = true) (h4 : fullP xs) (h5 : ∃ h, UD xs h 0) (h : ¬ ∀ x ∈ entX xs, okT x = true) : wrongX xs = 6 := by unfold wrongX; rw [if_neg (by omega), if_neg (fun hc => cdec_not.1 hc h2), if_neg (by rw [h3]; decide), if_neg (fun hc => cdec_not.1 hc h4), if_neg (fun hc => cdec_not.1 hc h5), if_pos (cdec_not.2 h)]
theorem wX7 (h1 : 1 ≤ xs.length ∧ xs.length ≤ 2400) (h2 : shpX xs) (h3 : treeB xs = true) (h4 : fullP xs) (h5 : ∃ h, UD xs h 0) (h6 : ∀ x ∈ entX xs, okT x = true) (h : ¬ Srt (entX xs)) : wrongX xs = 7 := by unfold wrongX; rw [if_neg (by omega), if_neg (fun hc => cdec_not.1 hc h2), if_neg (by rw [h3]; decide), if_neg (fun hc => cdec_not.1 hc h4), if_neg (fun hc => cdec_not.1 hc h5), if_neg (fun hc => cdec_not.1 hc h6), if_pos (cdec_not.2 h)]
end
theorem tth_key {l : List Te} {k : Nat} (h : k < l.length) : sth (l.map Te.key) k = (tth l k).key ∧ ith (l.map Te.no) k = (tth l k).no := by
  rw [sth_get (by simpa using h), ith_get (by simpa using h), tth_get h, List.getElem_map, List.getElem_map]
  exact ⟨rfl, rfl⟩
def leastN (xs : List Nx) (k : Nat) : Nat := if k = 0 then min 1 (xth xs 0).kids.length else 2
open Go.RowKit Go.Shelf
theorem sTexts_any (A : Option Addr) (n c : Nat) (B : Option Addr) (d : Nat) (l : List ByteArray) (w : World) (ha : Rd w 1 A n c (strv l)) (hb : Rd w 1 B n d (strv l)) : Calls Tryz.prog 28 #[.slice A n c, .slice B n d] w (Give (.bool true) w) := by
  have hm := Rd.max ha
  replace ha := hid ha
  replace hb := hid hb
  go_enter Tryz.func28, Tryz.ntmps28
  go_wp2_with fail
  go_loopw [5] (fun i wr => ∃ k : Nat, k ≤ n ∧ i = .int .i64 k ∧ Hid (Ext w wr)) (fun i _ => n - (intOf i).toNat)
  case atStart => exact ⟨0, by omega, rfl, Ext.refl _⟩
  case round =>
    obtain ⟨k, hk, rfl, hx⟩ := hrel
    by_cases hlt : k < n
    · obtain ⟨ad, rfl, x0⟩ := rds_at (ha.out.ext hx.out) hlt
      obtain ⟨bd, rfl, y0⟩ := rds_at (hb.out.ext hx.out) hlt
      have hx9 := hid hx.out.drew_right
      have hki : (k : Int) < (n : Int) := by omega
      generalize sth l k = z0 at *
      clear ha hb
      go_upto_region 6 with fail
      have I0 : (fun w' : World => w'.cell? (ad.add k) = some (.string z0) ∧ w'.cell? (bd.add k) = some (.string z0)) wr.drew := ⟨x0, y0⟩
      refine region_J (fun w' : World => w'.cell? (ad.add k) = some (.string z0) ∧ w'.cell? (bd.add k) = some (.string z0)) 9 (by kernel_rfl) ?_
      clear x0 y0
      generalize wr.drew = w9 at *
      refine JO 0 (v := ?va0) I0 ?ya0 ?ra0
      case ya0 => (intro w h; obtain ⟨_, _⟩ := h; go_simp; with_reducible rfl)
      simp only [Act.put, lyA, lyB, lyC, lyD, lyE, lyF]
      refine JO 1 (v := ?va1) I0 ?ya1 ?ra1
      case ya1 => (intro w h; obtain ⟨_, _⟩ := h; go_simp; with_reducible rfl)
      simp only [Act.put, lyA, lyB, lyC, lyD, lyE, lyF]
      refine JO 2 (v := ?va2) I0 ?ya2 ?ra2
      case ya2 => (intro w h; obtain ⟨_, _⟩ := h; go_simp; with_reducible rfl)
      simp only [Act.put, lyA, lyB, lyC, lyD, lyE, lyF]
      refine JO 3 (v := ?va3) I0 ?ya3 ?ra3
      case ya3 => (intro w h; obtain ⟨_, _⟩ := h; go_simp; with_reducible rfl)
      simp only [Act.put, lyA, lyB, lyC, lyD, lyE, lyF]
      refine JO 4 (v := ?va4) I0 ?ya4 ?ra4
      case ya4 => (intro w h; obtain ⟨_, _⟩ := h; go_simp; with_reducible rfl)
      simp only [Act.put, lyA, lyB, lyC, lyD, lyE, lyF]
      refine JO 5 (v := ?va5) I0 ?ya5 ?ra5
      case ya5 => (intro w h; obtain ⟨_, _⟩ := h; go_simp; with_reducible rfl)
      simp only [Act.put, lyA, lyB, lyC, lyD, lyE, lyF]
      refine JO 6 (v := ?va6) I0 ?ya6 ?ra6
      case ya6 => (intro w h; obtain ⟨_, _⟩ := h; go_simp; with_reducible rfl)
      simp only [Act.put, lyA, lyB, lyC, lyD, lyE, lyF]
      refine JO 7 (v := ?va7) I0 ?ya7 ?ra7
      case ya7 => (intro w h; obtain ⟨_, _⟩ := h; go_simp; with_reducible rfl)
      simp only [Act.put, lyA, lyB, lyC, lyD, lyE, lyF]
      refine JO 8 (v := ?va8) I0 ?ya8 ?ra8
      case ya8 => (intro w h; obtain ⟨_, _⟩ := h; go_simp; with_reducible rfl)
      simp only [Act.put, lyA, lyB, lyC, lyD, lyE, lyF]
      refine J_done (by kernel_rfl) (OnlyOn.normal ?_)
      go_wp2
      go_roundw
      case rel => exact ⟨k + 1, by omega, by go_num, hx9⟩
      case measure => simp [intOf]; omega
    · obtain rfl : k = n := by omega
      go_wp2
      go_ret
      exact ⟨rfl, hx.out⟩
theorem sInts_any (A : Option Addr) (n c : Nat) (B : Option Addr) (d : Nat) (l : List Int) (w : World) (ha : RdI w A n c l) (hb : RdI w B n d l) : Calls Tryz.prog 29 #[.slice A n c, .slice B n d] w (Give (.bool true) w) := by
  have hm := Rd.max ha
  replace ha := hid ha
  replace hb := hid hb
  go_enter Tryz.func29, Tryz.ntmps29
  go_wp2_with fail
  go_loopw [5] (fun i wr => ∃ k : Nat, k ≤ n ∧ i = .int .i64 k ∧ Hid (Ext w wr)) (fun i _ => n - (intOf i).toNat)
  case atStart => exact ⟨0, by omega, rfl, Ext.refl _⟩
  case round =>
    obtain ⟨k, hk, rfl, hx⟩ := hrel
    by_cases hlt : k < n
    · obtain ⟨ad, rfl, x0⟩ := rdi_at (ha.out.ext hx.out) hlt
      obtain ⟨bd, rfl, y0⟩ := rdi_at (hb.out.ext hx.out) hlt
      have hx9 := hid hx.out.drew_right
      have hki : (k : Int) < (n : Int) := by omega
      generalize ith l k = z0 at *
      clear ha hb
      go_upto_region 6 with fail
      have I0 : (fun w' : World => w'.cell? (ad.add k) = some (.int .i64 z0) ∧ w'.cell? (bd.add k) = some (.int .i64 z0)) wr.drew := ⟨x0, y0⟩
      refine region_J (fun w' : World => w'.cell? (ad.add k) = some (.int .i64 z0) ∧ w'.cell? (bd.add k) = some (.int .i64 z0)) 9 (by kernel_rfl) ?_
      clear x0 y0
      generalize wr.drew = w9 at *
      refine JO 0 (v := ?va0) I0 ?ya0 ?ra0
      case ya0 => (intro w h; obtain ⟨_, _⟩ := h; go_simp; with_reducible rfl)
      simp only [Act.put, lyA, lyB, lyC, lyD, lyE, lyF]
      refine JO 1 (v := ?va1) I0 ?ya1 ?ra1
      case ya1 => (intro w h; obtain ⟨_, _⟩ := h; go_simp; with_reducible rfl)
      simp only [Act.put, lyA, lyB, lyC, lyD, lyE, lyF]
      refine JO 2 (v := ?va2) I0 ?ya2 ?ra2
      case ya2 => (intro w h; obtain ⟨_, _⟩ := h; go_simp; with_reducible rfl)
      simp only [Act.put, lyA, lyB, lyC, lyD, lyE, lyF]
      refine JO 3 (v := ?va3) I0 ?ya3 ?ra3
      case ya3 => (intro w h; obtain ⟨_, _⟩ := h; go_simp; with_reducible rfl)
      simp only [Act.put, lyA, lyB, lyC, lyD, lyE, lyF]
      refine JO 4 (v := ?va4) I0 ?ya4 ?ra4
      case ya4 => (intro w h; obtain ⟨_, _⟩ := h; go_simp; with_reducible rfl)
      simp only [Act.put, lyA, lyB, lyC, lyD, lyE, lyF]
      refine JO 5 (v := ?va5) I0 ?ya5 ?ra5
      case ya5 => (intro w h; obtain ⟨_, _⟩ := h; go_simp; with_reducible rfl)
      simp only [Act.put, lyA, lyB, lyC, lyD, lyE, lyF]
      refine JO 6 (v := ?va6) I0 ?ya6 ?ra6
      case ya6 => (intro w h; obtain ⟨_, _⟩ := h; go_simp; with_reducible rfl)
      simp only [Act.put, lyA, lyB, lyC, lyD, lyE, lyF]
      refine JO 7 (v := ?va7) I0 ?ya7 ?ra7
      case ya7 => (intro w h; obtain ⟨_, _⟩ := h; go_simp; with_reducible rfl)
      simp only [Act.put, lyA, lyB, lyC, lyD, lyE, lyF]
      refine JO 8 (v := ?va8) I0 ?ya8 ?ra8
      case ya8 => (intro w h; obtain ⟨_, _⟩ := h; go_simp; with_reducible rfl)
      simp only [Act.put, lyA, lyB, lyC, lyD, lyE, lyF]
      refine J_done (by kernel_rfl) (OnlyOn.normal ?_)
      go_wp2
      go_roundw
      case rel => exact ⟨k + 1, by omega, by go_num, hx9⟩
      case measure => simp [intOf]; omega
    · obtain rfl : k = n := by omega
      go_wp2
      go_ret
      exact ⟨rfl, hx.out⟩
noncomputable def chkE (xs : List Nx) : Int := if wrongX xs = 0 then 0 else 11
theorem entX_len {xs : List Nx} (h0 : wrongX xs = 0) : (entX xs).length ≤ 9600 := by
  obtain ⟨c1, c1', c2, c3, -, ⟨h, hU⟩, -, -⟩ := wrong_none.1 h0
  have hT := tree_ut c3 (by omega)
  have h1 := btx_len c2 hU hT
  have h2 := sub_le c3 (by omega) hT
  unfold entX
  rw [hX_is hU]
  omega
open Go.RowKit Go.Shelf
def isB (l : List Int) : Prop := ∀ x ∈ l, 0 ≤ x ∧ x ≤ 255
def strI (l : List Int) : ByteArray := ⟨(l.map fun x => UInt8.ofNat x.toNat).toArray⟩
def bys (l : List Int) : List Value := l.map (Value.int .u8)
theorem bys_len (l : List Int) : (bys l).length = l.length := by simp [bys]
theorem bys_append (a b : List Int) : bys (a ++ b) = bys a ++ bys b := by simp [bys]
theorem bys_one (l : List Int) : ∀ u ∈ bys l, u.oneCell' = true := by
  intro u hu
  obtain ⟨_, _, rfl⟩ := List.mem_map.1 hu
  rfl
def txt (s : ByteArray) : List Int := s.data.toList.map fun b => (b.toNat : Int)
def RdB (w : World) (A : Option Addr) (n c : Nat) (l : List Int) : Prop := Rd w 1 A n c (bys l) ∧ isB l
section
variable {w w' : World} {A : Option Addr} {n c : Nat} {l : List Int}
theorem RdB.len (h : RdB w A n c l) : l.length = n := by have := h.1.1; rw [bys_len] at this; omega
theorem RdB.ext (h : RdB w A n c l) (hx : Ext w w') : RdB w' A n c l := ⟨h.1.ext hx, h.2⟩
theorem nth_isB (h : isB l) (k : Nat) : 0 ≤ nth l k ∧ nth l k ≤ 255 := by
  by_cases hk : k < l.length
  · rw [nth_lt hk]; exact h _ (List.getElem_mem hk)
  · have : nth l k = 0 := by unfold nth; simp [List.getElem?_eq_none (Nat.le_of_not_lt hk)]
    omega
theorem RdB.at_ (h : RdB w A n c l) {k : Nat} (hk : k < n) : ∃ ad, A = some ad ∧ w.cell? (ad.add k) = some (.int .u8 (nth l k)) := by
  have hl := h.len
  obtain ⟨⟨h1, h2, h3, h4⟩, h5⟩ := h
  obtain ⟨ad, rfl, hc⟩ := h4 (by omega)
  refine ⟨ad, rfl, hc k _ ?_⟩
  unfold bys
  rw [List.getElem?_map, List.getElem?_eq_getElem (by omega), nth_lt (by omega)]
  rfl
end
theorem or_ij (x c : Int) (j : Nat) (h0 : 0 ≤ x) (hj : j ≤ 3) (h1 : x < 2 ^ (8 * j)) (hc0 : 0 ≤ c) (hc : c ≤ 255) : bits .or .i64 x (c * 2 ^ (8 * j)) = x + c * 2 ^ (8 * j) := by
  obtain ⟨m, rfl⟩ : ∃ m : Nat, x = m := ⟨x.toNat, by omega⟩
  obtain ⟨k, rfl⟩ : ∃ k : Nat, c = k := ⟨c.toNat, by omega⟩
  have hm : m < 2 ^ (8 * j) := by exact_mod_cast h1
  have hk : k < 256 := by omega
  have hp : 2 ^ (8 * j) ≤ 2 ^ 24 := Nat.pow_le_pow_right (by omega) (by omega)
  have hkp : k * 2 ^ (8 * j) ≤ 255 * 2 ^ 24 := Nat.mul_le_mul (by omega) hp
  obtain ⟨q, hq⟩ : ∃ q : Nat, q = 2 ^ (8 * j) * k := ⟨_, rfl⟩
  have hq2 : q < 2 ^ 32 := by rw [hq, Nat.mul_comm]; omega
  have hor : q ||| m = q + m := by rw [hq]; exact (Nat.two_pow_add_eq_or_of_lt hm k).symm
  have e1 : ((k : Int) * 2 ^ (8 * j)) = (q : Int) := by rw [hq]; push_cast; rw [Int.mul_comm]
  rw [e1]
  clear e1 hkp h1 hq
  have hm2 : m < 2 ^ 24 := by omega
  clear hm hp
  have f1 : BitVec.ofInt 64 (m : Int) = BitVec.ofNat 64 m := by
    apply BitVec.eq_of_toNat_eq
    rw [BitVec.toNat_ofInt, BitVec.toNat_ofNat]
    omega
  have f2 : BitVec.ofInt 64 (q : Int) = BitVec.ofNat 64 q := by
    apply BitVec.eq_of_toNat_eq
    rw [BitVec.toNat_ofInt, BitVec.toNat_ofNat]
    omega
  show IntKind.i64.wrap ((BitVec.ofInt 64 (m : Int) ||| BitVec.ofInt 64 (q : Int)).toNat : Int) = _
  have f3 : (BitVec.ofNat 64 m ||| BitVec.ofNat 64 q).toNat = m + q := by
    rw [BitVec.toNat_or, BitVec.toNat_ofNat, BitVec.toNat_ofNat, Nat.mod_eq_of_lt (by omega), Nat.mod_eq_of_lt (by omega), Nat.or_comm, hor, Nat.add_comm]
  rw [f1, f2, f3, IntWalk.i64_in _ (by omega)]
  push_cast
  rfl
theorem conv_rd {w : World} {A : Addr} {n c : Nat} {l : List Int} (h : RdB w (some A) n c l) : (convert 84 9 (.slice (some A) n c)).run Tryz.prog w = .ok (.string (strI l)) w := by
  have hl := h.len
  obtain ⟨⟨h1, h2, h3, h4⟩, h5⟩ := h
  subst hl
  have hm : strI l = ⟨(l.map fun x => UInt8.ofNat x.toNat).toArray⟩ := rfl
  rw [hm]
  have := run_convert_bytes_back (P := Tryz.prog) w 84 9 5 A c (l.map fun x => UInt8.ofNat x.toNat) Tryz.underlying84 Tryz.underlying5 Tryz.underlying9 (fun j hj => by
    have hj' : j < l.length := by simpa using hj
    obtain ⟨ad, e, hc⟩ := h4 (by omega)
    obtain rfl := Option.some.inj e
    refine hc j _ ?_
    unfold bys
    rw [List.getElem?_map, List.getElem?_eq_getElem hj']
    have := h5 _ (List.getElem_mem hj')
    simp [UInt8.toNat_ofNat']
    omega)
  rw [List.length_map] at this
  exact this
structure St where
  l : List Int
  ok : Bool
def tk (n : Nat) (s : St) : List Int × St := if n ≤ s.l.length then (s.l.take n, ⟨s.l.drop n, s.ok⟩) else (List.replicate n 0, ⟨s.l, false⟩)
theorem tk_len (n : Nat) (s : St) : (tk n s).1.length = n := by
  unfold tk
  split
  · simp; omega
  · simp
theorem tk_isB {n : Nat} {s : St} (h : isB s.l) : isB (tk n s).1 ∧ isB (tk n s).2.l := by
  unfold tk
  split
  · exact ⟨fun x hx => h x (List.mem_of_mem_take hx), fun x hx => h x (List.mem_of_mem_drop hx)⟩
  · exact ⟨fun x hx => by rw [(List.mem_replicate.1 hx).2]; decide, h⟩
def newU (w : World) (k : Nat) : World := w.alloc (.cells (madeCells #[.int .u8 0] (k * 1)) 5)
theorem newU_ext (w : World) (k : Nat) : Ext w (newU w k) := (Ext.refl w).alloc_right _
theorem newU_rd (w : World) (k : Nat) (hk : k ≤ 1000) : RdB (newU w k) (some ⟨w.heap.size, 0, none⟩) k k (List.replicate k 0) := by
  have h := heap_alloc_new w (.cells (madeCells #[.int .u8 0] (k * 1)) 5)
  have e : madeCells #[.int .u8 0] (k * 1) = (bys (List.replicate k 0)).toArray := by
    apply Array.ext
    · simp [madeCells, bys]
    · intro i h1 h2
      simp [madeCells, bys, Nat.mod_one]
  refine ⟨⟨by rw [bys_len, List.length_replicate, Nat.mul_one], Nat.le_refl _, by unfold maxLen; omega, fun _ => ⟨_, rfl, fun j u hu => ?_⟩⟩, fun x hx => by rw [(List.mem_replicate.1 hx).2]; decide⟩
  unfold newU
  rw [lit_add, Nat.zero_add, Lib.cell_of_heap h, e]
  simpa using hu
theorem infoU : (Tryz.prog.info? 5).map (fun i => (i.zero, i.size, i.bytes)) = some (some (.int .u8 0), 1, 1) := by kernel_rfl
theorem mkU (n : Nat) (hn : n ≤ 1000) (wx : World) : (Instr.makeSlice 84 (.int .i64 (n : Int)) (.int .i64 (n : Int))).run Tryz.prog wx = .ok (.slice (some ⟨wx.heap.size, 0, none⟩) n n) (newU wx n) := by
  obtain ⟨i0, hi, hz0, hz1, hz2⟩ := info_parts infoU
  have h := run_makeSlice (P := Tryz.prog) wx 84 5 i0 (.int .u8 0) Tryz.underlying84 hi hz0 .i64 .i64 (n : Int) (n : Int) (by omega) (by omega) (by rw [hz1]; omega) (by rw [hz2]; omega) (by omega)
  rw [hz1] at h
  simp only [Int.toNat_natCast] at h
  exact h
def oneV (s : St) : Int := nth (tk 1 s).1 0
def twoV (s : St) : Int := nth (tk 2 s).1 0 + nth (tk 2 s).1 1 * 256
def RP (B : Nat) (w : World) (r : Nat) (s : St) : Prop := ∃ A c, w.heap[r]? = some (.cells #[.slice A s.l.length c, .bool (!s.ok)] 116 (0, 0)) ∧ RdB w A s.l.length c s.l ∧ (∀ ad, A = some ad → 0 < s.l.length → ad.block ≠ r) ∧ (∀ ad, A = some ad → 0 < s.l.length → ad.block < B) ∧ r < B
def GiveTk (B r n : Nat) (s : St) (w : World) (e : Ending) (w' : World) : Prop := ∃ A c, e = .returned (.slice A n c) ∧ RdB w' A n c (tk n s).1 ∧ RP B w' r (tk n s).2 ∧ FR (one1 r) w w' ∧ ∀ ad, A = some ad → 0 < n → ad.block ≠ r
theorem RP.fr {B : Nat} {w w' : World} {r : Nat} {s : St} {f : Nat → Nat} (h : RP B w r s) (hF : FR f w w') (h0 : ∀ a, a < B → f a = 0) : RP B w' r s := by
  obtain ⟨A, c, h1, h2, h3, h4, h5⟩ := h
  refine ⟨A, c, (hF.2.2.2.2 r (Array.getElem?_eq_some_iff.1 h1).1 (h0 r h5)).trans h1, ⟨⟨h2.1.1, h2.1.2.1, h2.1.2.2.1, fun hn => ?_⟩, h2.2⟩, h3, h4, h5⟩
  obtain ⟨ad, e, hc⟩ := h2.1.2.2.2 hn
  exact ⟨ad, e, fun j u hu => (World.cell?_of_block (by rw [block_add]; exact hF.2.2.2.2 ad.block (by have := World.block_lt_of_cell? _ _ (hc j u hu); rwa [block_add] at this) (h0 _ (h4 ad e hn)))).trans (hc j u hu)⟩
theorem RP.ext {B : Nat} {w w' : World} {r : Nat} {s : St} (h : RP B w r s) (hx : Ext w w') : RP B w' r s := h.fr (f := fun _ => 0) (FR.of_ext hx) (fun _ _ => rfl)
theorem RP.lt {B : Nat} {w : World} {r : Nat} {s : St} (h : RP B w r s) : r < w.heap.size := by obtain ⟨A, c, h1, -⟩ := h; exact (Array.getElem?_eq_some_iff.1 h1).1
theorem RP.isB {B : Nat} {w : World} {r : Nat} {s : St} (h : RP B w r s) : isB s.l := by obtain ⟨A, c, h1, h2, -⟩ := h; exact h2.2
theorem take_any (B r n : Nat) (s : St) (w : World) (h : RP B w r s) (hn : n ≤ 1000) : Calls Tryz.prog 97 #[.pointer (some ⟨r, 0, none⟩), .int .i64 n] w (GiveTk B r n s w) := by
  obtain ⟨A, c, h1, h2, h3, h4, h5⟩ := h
  have hm := Rd.max h2.1
  have z0 : w.cell? ⟨r, 0, none⟩ = some (.slice A s.l.length c) := by rw [Lib.cell_of_heap h1]; rfl
  have z1 : w.cell? ⟨r, 1, none⟩ = some (.bool (!s.ok)) := by rw [Lib.cell_of_heap h1]; rfl
  have f0 := Lib.frozen_of_heap h1 0
  have f1 := Lib.frozen_of_heap h1 1
  have lr := (Array.getElem?_eq_some_iff.1 h1).1
  have far : Hid (∀ (j : Nat) (u : Value) (a : Option Addr) (k c : Nat) (l : List Value), (∀ ad, a = some ad → 0 < k → ad.block ≠ r) → Rd w 1 a k c l → Rd (w.setCell ⟨r, j, none⟩ u) 1 a k c l) := fun j u a k c l ha hr => ⟨hr.1, hr.2.1, hr.2.2.1, fun hn => by
    obtain ⟨ad, e, hc⟩ := hr.2.2.2 hn
    exact ⟨ad, e, fun i v hv => cell_far (hc i v hv) (by rw [block_add]; exact fun e9 => ha ad e hn e9.symm)⟩⟩
  by_cases hle : n ≤ s.l.length
  · have hle1 : (n : Int) ≤ (s.l.length : Int) := by omega
    have hle2 : (n : Int) ≤ (c : Int) := by omega
    have hle3 : (s.l.length : Int) ≤ (c : Int) := by omega
    have hfin : Hid (GiveTk B r n s w (.returned (.slice A n c)) (w.setCell ⟨r, 0, none⟩ (.slice (if c = n then A else Option.map (fun x => x.add n) A) (s.l.length - n) (c - n)))) := by
      have hcut := Rd.cut h2.1 hle
      have htk := Rd.takeK h2.1 hle
      have hA : ∀ ad, (if c = n then A else A.map (·.add (n * 1))) = some ad → 0 < s.l.length - n → ad.block ≠ r := fun ad e hp => by
        split at e
        · exact h3 ad e (by omega)
        · cases A with
          | none => cases e
          | some a => injection e with e; rw [← e, block_add]; exact h3 a rfl (by omega)
      have e1 : (tk n s).1 = s.l.take n := by unfold tk; rw [if_pos hle]
      have e2 : (tk n s).2 = ⟨s.l.drop n, s.ok⟩ := by unfold tk; rw [if_pos hle]
      refine ⟨A, c, rfl, ?_, ?_, fr_set, fun ad e hp => h3 ad e (by omega)⟩
      · rw [e1]
        refine ⟨?_, fun x hx => h2.2 x (List.mem_of_mem_take hx)⟩
        have h9 := far.out 0 (.slice (if c = n then A else Option.map (fun x => x.add n) A) (s.l.length - n) (c - n)) _ _ _ _ (fun ad e hp => h3 ad e (by omega)) htk
        rw [Nat.mul_one] at h9
        unfold bys at h9 ⊢
        rw [← List.map_take] at h9
        exact h9
      · rw [e2]
        refine ⟨if c = n then A else A.map (·.add (n * 1)), c - n, ?_, ⟨?_, fun x hx => h2.2 x (List.mem_of_mem_drop hx)⟩, fun ad e hp => hA ad e (by have hp2 : 0 < (s.l.drop n).length := hp; rwa [List.length_drop] at hp2), fun ad e hp => ?_, h5⟩
        · show _ = some (Obj.cells #[.slice _ (s.l.drop n).length _, _] _ _)
          rw [List.length_drop, Nat.mul_one]
          simp [World.setCell, Array.getElem?_modify, h1]
        · show Rd _ 1 _ (s.l.drop n).length _ (bys (s.l.drop n))
          have h9 := far.out 0 (.slice (if c = n then A else Option.map (fun x => x.add n) A) (s.l.length - n) (c - n)) _ _ _ _ hA hcut
          rw [List.length_drop]
          rw [Nat.mul_one] at h9 ⊢
          unfold bys at h9 ⊢
          rw [← List.map_drop] at h9
          exact h9
        · have hp2 : 0 < (s.l.drop n).length := hp
          rw [List.length_drop] at hp2
          split at e
          · exact h4 ad e (by omega)
          · cases A with
            | none => cases e
            | some a => injection e with e; rw [← e, block_add]; exact h4 a rfl (by omega)
    clear h1 h2 h3 h4 h5 far
    generalize s.l.length = m at *
    by_cases hcn : c = n
    · subst hcn
      rw [if_pos rfl, Nat.sub_self, show m - c = 0 by omega] at hfin
      go_enter Tryz.func97, Tryz.ntmps97
      go_wp2
      go_ret
      exact hfin.out
    · rw [if_neg hcn] at hfin
      go_enter Tryz.func97, Tryz.ntmps97
      go_wp2
      go_ret
      exact hfin.out
  · have hle1 : (s.l.length : Int) < (n : Int) := by omega
    have mk := mkU n hn
    have hfin : Hid (GiveTk B r n s w (.returned (.slice (some ⟨w.heap.size, 0, none⟩) n n)) (newU (w.setCell ⟨r, 1, none⟩ (.bool true)) n)) := by
      have e1 : (tk n s).1 = List.replicate n 0 := by unfold tk; rw [if_neg hle]
      have e2 : (tk n s).2 = ⟨s.l, false⟩ := by unfold tk; rw [if_neg hle]
      have hx := newU_ext (w.setCell ⟨r, 1, none⟩ (.bool true)) n
      have hU := newU_rd (w.setCell ⟨r, 1, none⟩ (.bool true)) n hn
      rw [World.size_setCell] at hU
      refine ⟨_, n, rfl, by rw [e1]; exact hU, ?_, (fr_set (b := r)).trans (FR.of_ext (f := fun _ => 0) hx) (fun _ _ _ => rfl), fun ad e _ => ?_⟩
      · rw [e2]
        refine RP.ext ⟨A, c, ?_, ⟨far.out 1 _ _ _ _ _ h3 h2.1, h2.2⟩, h3, h4, h5⟩ hx
        simp [World.setCell, Array.getElem?_modify, h1]
      · injection e with e
        rw [← e]
        show w.heap.size ≠ r
        omega
    clear h1 h2 h3 h4 h5 far
    generalize s.l.length = m at *
    go_enter Tryz.func97, Tryz.ntmps97
    go_wp2
    go_ret
    exact hfin.out
def GiveNm (B r : Nat) (z : Int) (s' : St) (w : World) (e : Ending) (w' : World) : Prop := e = .returned (.int .i64 z) ∧ RP B w' r s' ∧ FR (one1 r) w w'
theorem one_any (B r : Nat) (s : St) (w : World) (h : RP B w r s) : Calls Tryz.prog 98 #[.pointer (some ⟨r, 0, none⟩)] w (GiveNm B r (oneV s) (tk 1 s).2 w) := by
  have hT := hid (take_any B r 1 s w h (by decide))
  have hv := tk_isB (n := 1) h.isB
  have hvl := tk_len 1 s
  have e1 : Hid (oneV s = nth (tk 1 s).1 0) := rfl
  clear h
  generalize oneV s = z at *
  unfold GiveTk at hT
  generalize (tk 1 s).1 = L at *
  generalize (tk 1 s).2 = s' at *
  replace hv := hid hv
  replace hvl := hid hvl
  go_enter Tryz.func98, Tryz.ntmps98
  go_wp2_with fail
  refine hT.out.mono ?_
  rintro e w2 ⟨A, c, rfl, hr, hP, hF, -⟩
  obtain ⟨ad, rfl, z0⟩ := hr.at_ (k := 0) (by decide)
  have h9 := nth_isB hv.out.1 0
  rw [← e1.out] at z0 h9
  rw [show ad.add 0 = ad by unfold Addr.add; simp] at z0
  have hfin : Hid (GiveNm B r z s' w (.returned (.int .i64 z)) w2) := ⟨rfl, hP, hF⟩
  have hw := IntWalk.i64_in z (by omega)
  have lz := World.block_lt_of_cell? _ _ z0
  clear hr hP hF hT
  go_wp2
  go_ret
  exact hfin.out
theorem two_any (B r : Nat) (s : St) (w : World) (h : RP B w r s) : Calls Tryz.prog 65 #[.pointer (some ⟨r, 0, none⟩)] w (GiveNm B r (twoV s) (tk 2 s).2 w) := by
  have hT := hid (take_any B r 2 s w h (by decide))
  have hv := tk_isB (n := 2) h.isB
  have e1 : Hid (twoV s = nth (tk 2 s).1 0 + nth (tk 2 s).1 1 * 256) := rfl
  clear h
  generalize twoV s = z at *
  unfold GiveTk at hT
  generalize (tk 2 s).1 = L at *
  generalize (tk 2 s).2 = s' at *
  replace hv := hid hv
  go_enter Tryz.func65, Tryz.ntmps65
  go_wp2_with fail
  refine hT.out.mono ?_
  rintro e w2 ⟨A, c, rfl, hr, hP, hF, -⟩
  obtain ⟨ad, rfl, z0⟩ := hr.at_ (k := 0) (by decide)
  obtain ⟨ad', e0, z1⟩ := hr.at_ (k := 1) (by decide)
  injection e0 with e0
  subst e0
  have h9 := nth_isB hv.out.1 0
  have h8 := nth_isB hv.out.1 1
  generalize nth L 0 = x at *
  generalize nth L 1 = y at *
  rw [show ad.add 0 = ad by unfold Addr.add; simp] at z0
  rw [show ad.add 1 = ⟨ad.block, ad.off + 1, none⟩ from rfl] at z1
  have hfin : Hid (GiveNm B r z s' w (.returned (.int .i64 z)) w2.drew) := ⟨rfl, hP.ext ((Ext.refl w2).drew_right), hF.trans (FR.of_ext (f := fun _ => 0) ((Ext.refl w2).drew_right)) (fun _ _ _ => rfl)⟩
  have hor : bits .or .i64 x (y * 256) = x + y * 256 := by have := or_ij x y 1 (by omega) (by decide) (by omega) (by omega) (by omega); simpa using this
  have hwx := IntWalk.i64_in x (by omega)
  have hwy := IntWalk.i64_in y (by omega)
  have hwz := IntWalk.i64_in (y * 256) (by omega)
  have hz9 : Hid (z = x + y * 256) := e1.out.trans (by omega)
  go_upto_region 2 with fail
  have I0 : (fun w' : World => w'.cell? ad = some (.int .u8 x) ∧ w'.cell? ⟨ad.block, ad.off + 1, none⟩ = some (.int .u8 y)) w2.drew := ⟨z0, z1⟩
  refine region_J (fun w' : World => w'.cell? ad = some (.int .u8 x) ∧ w'.cell? ⟨ad.block, ad.off + 1, none⟩ = some (.int .u8 y)) 11 (by kernel_rfl) ?_
  clear hr hP hF hT z0 z1
  generalize w2.drew = w9 at *
  refine JO 0 (v := ?vt0) I0 ?yt0 ?rt0
  case yt0 => (intro w h; obtain ⟨_, _⟩ := h; go_simp; with_reducible rfl)
  simp only [Act.put, lyA, lyB, lyC, lyD, lyE, lyF]
  refine JO 1 (v := ?vt1) I0 ?yt1 ?rt1
  case yt1 => (intro w h; obtain ⟨_, _⟩ := h; go_simp; with_reducible rfl)
  simp only [Act.put, lyA, lyB, lyC, lyD, lyE, lyF]
  refine JO 2 (v := ?vt2) I0 ?yt2 ?rt2
  case yt2 => (intro w h; obtain ⟨_, _⟩ := h; go_simp; with_reducible rfl)
  simp only [Act.put, lyA, lyB, lyC, lyD, lyE, lyF]
  refine JO 3 (v := ?vt3) I0 ?yt3 ?rt3
  case yt3 => (intro w h; obtain ⟨_, _⟩ := h; go_simp; with_reducible rfl)
  simp only [Act.put, lyA, lyB, lyC, lyD, lyE, lyF]
  refine JO 4 (v := ?vt4) I0 ?yt4 ?rt4
  case yt4 => (intro w h; obtain ⟨_, _⟩ := h; go_simp; with_reducible rfl)
  simp only [Act.put, lyA, lyB, lyC, lyD, lyE, lyF]
  refine JO 5 (v := ?vt5) I0 ?yt5 ?rt5
  case yt5 => (intro w h; obtain ⟨_, _⟩ := h; go_simp; with_reducible rfl)
  simp only [Act.put, lyA, lyB, lyC, lyD, lyE, lyF]
  refine JO 6 (v := ?vt6) I0 ?yt6 ?rt6
  case yt6 => (intro w h; obtain ⟨_, _⟩ := h; go_simp; with_reducible rfl)
  simp only [Act.put, lyA, lyB, lyC, lyD, lyE, lyF]
  refine JO 7 (v := ?vt7) I0 ?yt7 ?rt7
  case yt7 => (intro w h; obtain ⟨_, _⟩ := h; go_simp; with_reducible rfl)
  simp only [Act.put, lyA, lyB, lyC, lyD, lyE, lyF]
  refine JO 8 (v := ?vt8) I0 ?yt8 ?rt8
  case yt8 => (intro w h; obtain ⟨_, _⟩ := h; go_simp; with_reducible rfl)
  simp only [Act.put, lyA, lyB, lyC, lyD, lyE, lyF]
  refine JO 9 (v := ?vt9) I0 ?yt9 ?rt9
  case yt9 => (intro w h; obtain ⟨_, _⟩ := h; go_simp; with_reducible rfl)
  simp only [Act.put, lyA, lyB, lyC, lyD, lyE, lyF]
  refine J_one 10 rfl (by kernel_rfl) (fun K hK => ?_)
  go_simp
  refine hK _ _ ⟨fun _ => I0, ?_⟩
  clear hK K
  try simp only [Act.put, lyD, lyE, lyF]
  refine J_done (by kernel_rfl) (OnlyOn.normal ?_)
  go_wp2
  go_ret
  obtain rfl := hz9.out
  exact hfin.out
end Go.Proofs.YtjjikkhhlpikbaaGreatDoor
