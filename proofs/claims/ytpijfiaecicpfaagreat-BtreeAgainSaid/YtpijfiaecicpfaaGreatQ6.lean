/-
  A slice of ints that is cut at its ends and appended to: a queue, a stack. A row of bools, told by a function; An index as nodes in memory, read; the reference's small functions; The index that a tree lists is a right one, with the tree's entries. No program in sight; The nodes of an index, listed: Index; what 'known' of the statements asks; What an index of nodes is as a tree: the nodes below one, depths, the entries in order; what is wrong with it first. No program in sight; When nodes are a tree: each but the first the kid of just one, and all reached. No program in sight.
-/
import Derived.Test.YtpijfiaecicpfaaGreatQ5
import Derived.Laws.Rows
import Derived.Deep.AppendSrc
import Derived.Laws.IdiomCopy
import Derived.Deep.Upon
set_option maxRecDepth 100000
set_option maxHeartbeats 40000000
set_option linter.unusedVariables false
set_option linter.unusedSimpArgs false
namespace Go.Proofs.YtpijfiaecicpfaaGreat
open Go.RowKit Go.Shelf Go.MuLone
theorem tlW_len : ∀ {l : List Te} {m : List (List Te)}, m.length = l.length → (tlW l m).length = l.length + (m.map List.length).sum
  | [], [], _ => rfl
  | x :: l, m :: ms, h => by
    rw [tlW, List.length_cons, List.length_append, tlW_len (by simpa using h), List.map_cons, List.sum_cons, List.length_cons]
    omega
  | [], _ :: _, h => by cases h
  | _ :: _, [], h => by cases h
theorem flat_len {h : Nat} {l : List Te} {ks : List BT} (hk : ks.length = l.length + 1) : (flat (h + 1) (.nd l ks)).length = l.length + ((ks.map (flat h)).map List.length).sum := by
  cases ks with
  | nil => cases hk
  | cons K ks =>
    show (flat h K ++ tlW l (ks.map (flat h))).length = _
    rw [List.length_append, tlW_len (by simpa using hk), List.map_cons, List.map_cons, List.sum_cons]
    omega
theorem sum_ge {h m : Nat} : ∀ {ks : List BT}, (∀ k ∈ ks, m ≤ (flat h k).length) → ks.length * m ≤ ((ks.map (flat h)).map List.length).sum
  | [], _ => by simp
  | K :: ks, hk => by
    have h1 := sum_ge (ks := ks) (fun k hk2 => hk k (List.mem_cons_of_mem _ hk2))
    have h2 := hk K List.mem_cons_self
    rw [List.map_cons, List.map_cons, List.sum_cons, List.length_cons, Nat.succ_mul]
    omega
theorem flat_min : ∀ {h : Nat} {T : BT}, Shp h T → 2 ≤ T.l.length → 2 ≤ (flat h T).length
  | 0, .nd l ks, hs, h2 => h2
  | h + 1, .nd l ks, hs, h2 => by
    rw [flat_len hs.1]
    have : 2 ≤ l.length := h2
    omega
theorem kls_le {h : Nat} {F : BT → Nat → List Nx} : ∀ {ks : List BT} {s : Nat}, (∀ k ∈ ks, ∀ s, (F k s).length ≤ (flat h k).length) → (kls F ks s).length ≤ ((ks.map (flat h)).map List.length).sum
  | [], s, _ => by simp [kls]
  | K :: ks, s, hk => by
    have h1 := kls_le (ks := ks) (s := s + (F K s).length) (fun k hk2 => hk k (List.mem_cons_of_mem _ hk2))
    have h2 := hk K List.mem_cons_self s
    rw [kls, List.length_append, List.map_cons, List.map_cons, List.sum_cons]
    omega
theorem lst_le : ∀ {h : Nat} {T : BT}, Shp h T → ∀ s, (lst h T s).length ≤ (flat h T).length + 1 ∧ (2 ≤ T.l.length → (lst h T s).length ≤ (flat h T).length)
  | 0, .nd l ks, hs, s => by
    refine ⟨?_, fun h2 => ?_⟩
    · show 1 ≤ _; omega
    · have : 2 ≤ l.length := h2
      show 1 ≤ l.length; omega
  | h + 1, .nd l ks, hs, s => by
    have hk := kls_le (h := h) (F := lst h) (ks := ks) (s := s + 1) (fun k hk s => (lst_le (hs.2 k hk).2.2 s).2 (hs.2 k hk).1)
    have e : (lst (h + 1) (.nd l ks) s).length = (kls (lst h) ks (s + 1)).length + 1 := rfl
    rw [e, flat_len hs.1]
    refine ⟨by omega, fun h2 => ?_⟩
    have : 2 ≤ l.length := h2
    omega
theorem five {h : Nat} {T : BT} (hs : Shp h T) (h4 : T.l.length ≤ 4) (h1 : h ≠ 0 → 1 ≤ T.l.length) (h5 : (flat h T).length = 5) : ∃ x b c, lst h T 0 = [x, b, c] ∧ x.keys.length = 1 ∧ x.kids.length = 2 := by
  obtain ⟨l, ks⟩ := T
  have h4' : l.length ≤ 4 := h4
  cases h with
  | zero =>
    have : l.length = 5 := h5
    omega
  | succ h =>
    have h1' : 1 ≤ l.length := h1 (by omega)
    have hk := hs.1
    rw [flat_len hk] at h5
    have hm := sum_ge (h := h) (m := 2) (ks := ks) (fun k hk2 => flat_min (hs.2 k hk2).2.2 (hs.2 k hk2).1)
    have hl1 : l.length = 1 := by omega
    have hk2 : ks.length = 2 := by omega
    cases h with
    | zero =>
      obtain ⟨K1, K2, rfl⟩ : ∃ K1 K2, ks = [K1, K2] := by
        match ks, hk2 with
        | [a, b], _ => exact ⟨a, b, rfl⟩
      obtain ⟨l1, k1⟩ := K1
      obtain ⟨l2, k2⟩ := K2
      exact ⟨_, _, _, rfl, by simp [hl1], rfl⟩
    | succ h =>
      have hm2 := sum_ge (h := h + 1) (m := 8) (ks := ks) (fun k hk2 => by
        obtain ⟨q1, q2, q3⟩ := hs.2 k hk2
        obtain ⟨l', ks'⟩ := k
        have q1' : 2 ≤ l'.length := q1
        rw [flat_len q3.1]
        have := sum_ge (h := h) (m := 2) (ks := ks') (fun k hk3 => flat_min (q3.2 k hk3).2.2 (q3.2 k hk3).1)
        have := q3.1
        omega)
      omega
theorem listed_any : ∀ (h p : Nat) (T : BT) (f : Nat → Nat) (w : World) (B : Nat) (v : Value) (xs : List Nx) (vs : List V3) (g : Nat → Nat), TN w h p T f → Shp h T → T.l.length ≤ 4 → B ≤ w.heap.size → w.ownsRow B 48 3 v xs.length (rowsV vs) → NL w B vs xs g → (∀ a, ob v a + g a ≤ 1) → (∀ a, 0 < ob v a + g a → f a = 0) → xs.length + (lst h T xs.length).length ≤ 1000000 → Calls Tryz.prog 43 #[.pointer (some ⟨p, 0, none⟩), v] w fun e w2 => ∃ v', e = .returned (.tuple #[v', .int .i64 xs.length]) ∧ LI (fun a => ob v a + g a) w w2 B v' (xs ++ lst h T xs.length) := by
  intro h
  induction h with
  | zero =>
    intro p T f w B v xs vs g hT hs h4 hB hown hnl hd hz hn
    obtain ⟨l, ks⟩ := T
    obtain ⟨hk, lv, kv, e1, e2, e3, e4⟩ := hT
    have h4' : l.length ≤ 4 := h4
    exact listed_step 0 (fun _ _ => []) [] (fun q K fk w' B v xs vs g hK => by cases hK) p l [] lv kv (fun _ => 0) w B v xs vs g e1 e2 e3 (fun _ => rfl) hB hown hnl hd (fun a ha => by have h9 := hz a ha; rw [e4 a] at h9; show one1 p a + ob lv a + ob kv a + 0 = 0; omega) hn (by omega) (by simp)
  | succ h ih =>
    intro p T f w B v xs vs g hT hs h4 hB hown hnl hd hz hn
    obtain ⟨l, ks⟩ := T
    obtain ⟨lv, kv, ps, gk, e1, e2, e3, e5, e4⟩ := hT
    have h4' : l.length ≤ 4 := h4
    have hk := hs.1
    exact listed_step h (lst h) ks (fun q K fk w' B v xs vs g hK hT => ih q K fk w' B v xs vs g hT (hs.2 K hK).2.2 (hs.2 K hK).2.1) p l ps lv kv gk w B v xs vs g e1 e2 e3 e5 hB hown hnl hd (fun a ha => by have h9 := hz a ha; rw [e4 a] at h9; exact h9) hn (by omega) (by omega)
def IX (B : Nat) (w : World) (v : Value) (xs : List Nx) : Prop := ∃ vs g, w.ownsRow B 48 3 v xs.length (rowsV vs) ∧ NL w B vs xs g ∧ ∀ a, ob v a + g a ≤ 1
theorem IX.ext {B : Nat} {w w' : World} {v : Value} {xs : List Nx} (h : IX B w v xs) (hx : Ext w w') : IX B w' v xs := by
  obtain ⟨vs, g, h1, h2, h3⟩ := h
  exact ⟨vs, g, hx.own h1, h2.frame (f := fun _ => 0) (FR.of_ext hx) (fun _ _ => rfl), h3⟩
theorem NL.set {B : Nat} {w : World} {b j : Nat} {u : Value} (hb : b < B) : ∀ {vs : List V3} {xs : List Nx} {g : Nat → Nat}, NL w B vs xs g → NL (w.setCell ⟨b, j, none⟩ u) B vs xs g
  | [], [], g, h => h
  | v :: vs, x :: xs, g, ⟨f1, f2, ⟨h1, h2, h3, h4⟩, h5, h6⟩ => ⟨f1, f2, ⟨own_set h1 (fun e => by have := own_freshB h1 _ e; omega) _ _, own_set h2 (fun e => by have := own_freshB h2 _ e; omega) _ _, own_set h3 (fun e => by have := own_freshB h3 _ e; omega) _ _, h4⟩, NL.set hb h5, h6⟩
  | [], _ :: _, g, h => h.elim
  | _ :: _, [], g, h => h.elim
theorem NL.base {w : World} {B B' : Nat} (hb : B' ≤ B) : ∀ {vs : List V3} {xs : List Nx} {g : Nat → Nat}, NL w B vs xs g → NL w B' vs xs g
  | [], [], g, h => h
  | v :: vs, x :: xs, g, ⟨f1, f2, ⟨h1, h2, h3, h4⟩, h5, h6⟩ => ⟨f1, f2, ⟨own_baseK h1 hb, own_baseK h2 hb, own_baseK h3 hb, h4⟩, NL.base hb h5, h6⟩
  | [], _ :: _, g, h => h.elim
  | _ :: _, [], g, h => h.elim
theorem set_comm {w : World} {a b i j : Nat} {u v : Value} (h : a ≠ b) : (w.setCell ⟨a, i, none⟩ u).setCell ⟨b, j, none⟩ v = (w.setCell ⟨b, j, none⟩ v).setCell ⟨a, i, none⟩ u := by
  simp only [World.setCell]
  congr 1
  apply Array.ext_getElem?
  intro k
  simp only [Array.getElem?_modify]
  by_cases h1 : b = k <;> by_cases h2 : a = k
  · exact absurd (h2.trans h1.symm) h
  · simp [h1, h2]
  · simp [h1, h2]
  · simp [h1, h2]
theorem IX.set {B : Nat} {w : World} {v : Value} {xs : List Nx} {b j : Nat} {u : Value} (h : IX B w v xs) (hb : b < B) : IX B (w.setCell ⟨b, j, none⟩ u) v xs := by
  obtain ⟨vs, g, h1, h2, h3⟩ := h
  exact ⟨vs, g, own_set h1 (fun e => by have := own_freshB h1 _ e; omega) _ _, h2.set hb, h3⟩
theorem Index_any (t : Nat) (L : List Te) (h p : Nat) (T : BT) (fT : Nat → Nat) (w : World) (H : TreeAt 0 w t L h p T fT) : Calls Tryz.prog 12 #[.pointer (some ⟨t, 0, none⟩)] w fun e w' => ∃ v, e = .returned (.agg #[v]) ∧ IX w.heap.size w' v (lst h T 0) ∧ Ext w w' := by
  have hlt := hid H.lt
  have hg0 := heap_alloc_new w (.cells #[.slice none 0 0] 40)
  have hx0 := hid ((Ext.refl w).alloc_right (.cells #[.slice none 0 0] 40))
  have hs0 : (w.alloc (.cells #[.slice none 0 0] 40)).heap.size = w.heap.size + 1 := World.size_alloc _ _
  replace H := H.ext hx0.out
  go_enter_defers Tryz.func12, Tryz.ntmps12
  go_upto_region 1 with fail
  obtain ⟨b, hbe⟩ : ∃ b, b = w.heap.size := ⟨_, rfl⟩
  rw [← hbe] at hg0 hs0 hlt
  simp only [← hbe]
  replace hbe := hid hbe
  generalize w.alloc (.cells #[.slice none 0 0] 40) = w0 at *
  replace hs0 := hid hs0
  have c0 := H.c0
  have f0 := H.free 0
  have h1 := hid (H.lock 1)
  have hnil : ∀ a, ob (.slice none 0 0) a = 0 := fun a => if_neg (by intro e; cases e)
  have hA := hid (listed_any h p T fT (w0.setCell ⟨t, 0, none⟩ (.int .i32 1)) (b + 1) (.slice none 0 0) [] [] (fun _ => 0) h1.out.tn h1.out.sh h1.out.l4 (by simp [hs0.out]) (World.ownsRow_nil _ _ _ _) (fun _ => rfl) (fun a => by rw [hnil a]; decide) (fun a ha => by rw [hnil a] at ha; omega) (by
    have h2 := (lst_le h1.out.sh 0).1
    rw [h1.out.fl] at h2
    have := h1.out.le
    show 0 + (lst h T 0).length ≤ 1000000
    omega))
  rw [List.nil_append] at hA
  have hb := hid (fun w' (hx : Ext (w0.setCell ⟨t, 0, none⟩ (.int .i32 1)) w') => H.back hx)
  have c2 := h1.out.c2
  have l1 : t < (w0.setCell ⟨t, 0, none⟩ (.int .i32 1)).heap.size := by simpa using H.lt
  have hg1 : Hid ((w0.setCell ⟨t, 0, none⟩ (.int .i32 1)).heap[b]? = some (.cells #[.slice none 0 0] 40 (0, 0))) := heap_set_other hg0 (by have := hlt.out; omega) _ _
  replace hnil := hid hnil
  clear H hg0
  go_wp2_with (go_at_call 41; refine (lock_free muLib ⟨t, 0, none⟩ _ c0 f0).mono ?_; rintro e w' ⟨rfl, rfl⟩)
  generalize w0.setCell ⟨t, 0, none⟩ (.int .i32 1) = w1 at *
  go_wp2_with fail
  refine hA.out.mono ?_
  rintro e w2 ⟨v, rfl, vs, g, hL⟩
  have hx2 := Ext.of_FR hL.fr (fun a _ => by rw [hnil.out a])
  have hI : Hid (IX (b + 1) w2 v (lst h T 0)) := ⟨vs, g, hL.own, hL.nl, hL.dis⟩
  obtain ⟨Av, cv, rfl, -⟩ := own_form hL.own
  have hb2 := (hx2.block (Array.getElem?_eq_some_iff.1 hg1.out).1).trans hg1.out
  have zb2 := Lib.frozen_of_heap hb2 0
  have cb2 : w2.cell? ⟨b, 0, none⟩ = some (.slice none 0 0) := by rw [Lib.cell_of_heap hb2]; rfl
  have lb2 := (Array.getElem?_eq_some_iff.1 hb2).1
  have hne : (⟨b, 0, none⟩ : Addr) ≠ ⟨t, 0, none⟩ := fun e => by injection e with e; have := hlt.out; omega
  have htb : t ≠ b := by have := hlt.out; omega
  have k0 := hid (set_keep (p := ⟨b, 0, none⟩) (v := .slice Av (lst h T 0).length cv) (hx2.cell h1.out.c0) hne)
  have kf : Hid ((w2.setCell ⟨b, 0, none⟩ (.slice Av (lst h T 0).length cv)).frozen? ⟨t, 0, none⟩ = false) := by
    unfold Hid
    rw [World.frozen?_setCell]
    exact (hx2.frozen (p := ⟨t, 0, none⟩) l1).trans (h1.out.free 0)
  have hx3 := hid (hb.out w2 hx2)
  have hI2 : Hid (IX w.heap.size ((w2.setCell ⟨b, 0, none⟩ (.slice Av (lst h T 0).length cv)).setCell ⟨t, 0, none⟩ (.int .i32 0)) (.slice Av (lst h T 0).length cv) (lst h T 0)) := by
    obtain ⟨vs9, g9, a1, a2, a3⟩ := (hI.out.set (b := b) (j := 0) (u := .slice Av (lst h T 0).length cv) (by omega)).set (b := t) (j := 0) (u := .int .i32 0) (by have := hlt.out; omega)
    exact ⟨vs9, g9, own_baseK a1 (by have := hbe.out; omega), NL.base (by have := hbe.out; omega) a2, a3⟩
  have hblk : Hid (((w2.setCell ⟨b, 0, none⟩ (.slice Av (lst h T 0).length cv)).setCell ⟨t, 0, none⟩ (.int .i32 0)).heap[b]? = some (.cells #[.slice Av (lst h T 0).length cv] 40 (0, 0))) := by
    refine heap_set_other ?_ htb _ _
    simp [World.setCell, Array.getElem?_modify, hb2]
  have hx4 : Hid (Ext w ((w2.setCell ⟨b, 0, none⟩ (.slice Av (lst h T 0).length cv)).setCell ⟨t, 0, none⟩ (.int .i32 0))) := by
    have h5 := (hx0.out.trans hx3.out).set (p := ⟨b, 0, none⟩) (by show w.heap.size ≤ b; have := hbe.out; omega) (.slice Av (lst h T 0).length cv)
    rw [set_comm htb] at h5
    exact h5
  clear hL hx2 hI hb2
  go_wp2
  refine leaves_cons (f := 42) (args := #[.pointer (some ⟨t, 0, none⟩)]) (by simp) (by simp [go_sem]) ?_
  refine (unlock_deferred muLib ⟨t, 0, none⟩ .returning _ k0.out kf.out).mono ?_
  rintro e u' w'' ⟨rfl, rfl, rfl⟩
  exact ⟨_, results_cell_row rfl _ _ b 40 _ (0, 0) _ rfl hblk.out Tryz.underlying40 rfl (by kernel_rfl), _, rfl, hI2.out, hx4.out⟩
open Go.RowKit Go.Shelf
def nxD : Nx := ⟨[], [], []⟩
def xth (xs : List Nx) (k : Nat) : Nx := xs.getD k nxD
theorem xth_get {xs : List Nx} {k : Nat} (h : k < xs.length) : xth xs k = xs[k] := by simp [xth, List.getD, h]
def RF (w : World) (v : V3) (x : Nx) : Prop := ∃ A1 c1 A2 c2 A3 c3, v = ⟨.slice A1 x.keys.length c1, .slice A2 x.recs.length c2, .slice A3 x.kids.length c3⟩ ∧ Rd w 1 A1 x.keys.length c1 (strv x.keys) ∧ RdI w A2 x.recs.length c2 x.recs ∧ RdI w A3 x.kids.length c3 x.kids
def RFs (w : World) : List V3 → List Nx → Prop
  | [], [] => True
  | v :: vs, x :: xs => RF w v x ∧ RFs w vs xs
  | _, _ => False
def RX (w : World) (A : Option Addr) (n c : Nat) (xs : List Nx) : Prop := ∃ vs, Rd w 3 A n c (rowsV vs) ∧ RFs w vs xs
section
variable {w w' : World}
theorem RF.ext {v : V3} {x : Nx} (h : RF w v x) (hx : Ext w w') : RF w' v x := by
  obtain ⟨A1, c1, A2, c2, A3, c3, e, h1, h2, h3⟩ := h
  exact ⟨A1, c1, A2, c2, A3, c3, e, h1.ext hx, h2.ext hx, h3.ext hx⟩
theorem RFs.ext (hx : Ext w w') : ∀ {vs : List V3} {xs : List Nx}, RFs w vs xs → RFs w' vs xs
  | [], [], h => h
  | v :: vs, x :: xs, ⟨h1, h2⟩ => ⟨h1.ext hx, RFs.ext hx h2⟩
  | [], _ :: _, h => h.elim
  | _ :: _, [], h => h.elim
theorem RFs.len : ∀ {vs : List V3} {xs : List Nx}, RFs w vs xs → vs.length = xs.length
  | [], [], _ => rfl
  | v :: vs, x :: xs, ⟨_, h⟩ => by simp [h.len]
  | [], _ :: _, h => h.elim
  | _ :: _, [], h => h.elim
theorem RFs.at_ : ∀ {vs : List V3} {xs : List Nx} {k : Nat}, RFs w vs xs → (h : k < vs.length) → (h2 : k < xs.length) → RF w vs[k] xs[k]
  | v :: vs, x :: xs, 0, ⟨h, _⟩, _, _ => h
  | v :: vs, x :: xs, k + 1, ⟨_, h⟩, h1, h2 => RFs.at_ h (by simpa using h1) (by simpa using h2)
  | [], [], _, _, h, _ => absurd h (by simp)
  | [], _ :: _, _, h, _, _ => h.elim
  | _ :: _, [], _, h, _, _ => h.elim
theorem NL.reads {B : Nat} : ∀ {vs : List V3} {xs : List Nx} {g : Nat → Nat}, NL w B vs xs g → RFs w vs xs
  | [], [], g, _ => trivial
  | ⟨k, r, d⟩ :: vs, x :: xs, g, ⟨f1, f2, ⟨h1, h2, h3, _⟩, h5, _⟩ => by
    obtain ⟨A1, c1, e1, r1⟩ := own_rd h1
    obtain ⟨A2, c2, e2, r2⟩ := own_rd h2
    obtain ⟨A3, c3, e3, r3⟩ := own_rd h3
    have e1' : k = _ := e1
    have e2' : r = _ := e2
    have e3' : d = _ := e3
    subst e1' e2' e3'
    exact ⟨⟨A1, c1, A2, c2, A3, c3, rfl, r1, r2, r3⟩, NL.reads h5⟩
  | [], _ :: _, g, h => h.elim
  | _ :: _, [], g, h => h.elim
theorem rowsV_nth : ∀ {vs : List V3} {k : Nat} (h : k < vs.length), (rowsV vs)[k * 3]? = some vs[k].k ∧ (rowsV vs)[k * 3 + 1]? = some vs[k].r ∧ (rowsV vs)[k * 3 + 2]? = some vs[k].d := fun {vs k} h => by
  have := rowsV_at (vs.take k) vs[k] (vs.drop (k + 1)) (m := k) (by rw [List.length_take]; omega)
  rw [← list_cut h] at this
  exact this
section
variable {A : Option Addr} {n c : Nat} {xs : List Nx}
theorem RX.len (h : RX w A n c xs) : xs.length = n := by
  obtain ⟨vs, h1, h2⟩ := h
  have := h1.1
  rw [rowsV_len, h2.len] at this
  omega
theorem RX.ext (h : RX w A n c xs) (hx : Ext w w') : RX w' A n c xs := by
  obtain ⟨vs, h1, h2⟩ := h
  exact ⟨vs, h1.ext hx, h2.ext hx⟩
theorem RX.max (h : RX w A n c xs) : n ≤ 9223372036854775807 ∧ n ≤ c ∧ c ≤ 9223372036854775807 := by
  obtain ⟨vs, h1, h2⟩ := h
  exact Rd.max h1
theorem RX.at_ (h : RX w A n c xs) {k : Nat} (hk : k < n) : ∃ ad A1 c1 A2 c2 A3 c3, A = some ad ∧ w.cell? (ad.add (k * 3)) = some (.slice A1 (xth xs k).keys.length c1) ∧ w.cell? ⟨(ad.add (k * 3)).block, (ad.add (k * 3)).off + 1, none⟩ = some (.slice A2 (xth xs k).recs.length c2) ∧ w.cell? ⟨(ad.add (k * 3)).block, (ad.add (k * 3)).off + 2, none⟩ = some (.slice A3 (xth xs k).kids.length c3) ∧ Rd w 1 A1 (xth xs k).keys.length c1 (strv (xth xs k).keys) ∧ RdI w A2 (xth xs k).recs.length c2 (xth xs k).recs ∧ RdI w A3 (xth xs k).kids.length c3 (xth xs k).kids := by
  have hl := h.len
  obtain ⟨vs, h1, h2⟩ := h
  have hlv := h2.len
  obtain ⟨ad, rfl, hc⟩ := h1.2.2.2 (by omega)
  have hkv : k < vs.length := by omega
  have hkx : k < xs.length := by omega
  obtain ⟨A1, c1, A2, c2, A3, c3, e, r1, r2, r3⟩ := h2.at_ hkv hkx
  obtain ⟨q0, q1, q2⟩ := rowsV_nth hkv
  rw [e] at q0 q1 q2
  rw [xth_get hkx]
  exact ⟨ad, A1, c1, A2, c2, A3, c3, rfl, hc _ _ q0, cell_fk (hc _ _ q1) (by decide), cell_fk (hc _ _ q2) (by decide), r1, r2, r3⟩
end
theorem IX.reads {B : Nat} {v : Value} {xs : List Nx} (h : IX B w v xs) : ∃ A c, v = .slice A xs.length c ∧ RX w A xs.length c xs := by
  obtain ⟨vs, g, h1, h2, _⟩ := h
  obtain ⟨A, c, rfl, hr⟩ := own_rd h1
  exact ⟨A, c, rfl, vs, hr, h2.reads⟩
end
def sth (l : List ByteArray) (k : Nat) : ByteArray := l.getD k ⟨#[]⟩
def ith (l : List Int) (k : Nat) : Int := l.getD k 0
theorem sth_get {l : List ByteArray} {k : Nat} (h : k < l.length) : sth l k = l[k] := by simp [sth, List.getD, h]
theorem ith_get {l : List Int} {k : Nat} (h : k < l.length) : ith l k = l[k] := by simp [ith, List.getD, h]
theorem rds_at {w : World} {A : Option Addr} {n c k : Nat} {l : List ByteArray} (h : Rd w 1 A n c (strv l)) (hk : k < n) : ∃ ad, A = some ad ∧ w.cell? (ad.add k) = some (.string (sth l k)) := by
  obtain ⟨ad, hA, hc⟩ := h.2.2.2 (by omega)
  have h1 := h.1
  rw [strv_len] at h1
  have hl : k < l.length := by omega
  rw [sth_get hl]
  exact ⟨ad, hA, hc k _ (by unfold strv; rw [List.getElem?_map, List.getElem?_eq_getElem hl]; rfl)⟩
theorem rdi_at {w : World} {A : Option Addr} {n c k : Nat} {l : List Int} (h : RdI w A n c l) (hk : k < n) : ∃ ad, A = some ad ∧ w.cell? (ad.add k) = some (.int .i64 (ith l k)) := by
  obtain ⟨ad, hA, hc⟩ := h.2.2.2 (by omega)
  have h1 := h.1
  rw [show (ints l).length = l.length by simp [ints]] at h1
  have hl : k < l.length := by omega
  rw [ith_get hl]
  exact ⟨ad, hA, hc k _ (by unfold ints; rw [List.getElem?_map, List.getElem?_eq_getElem hl]; rfl)⟩
theorem less_is (a b : ByteArray) (i k : Int) : decide (cmpT ⟨a, i⟩ ⟨b, k⟩ < 0) = (decide (cmpK a b < 0) || (decide (cmpK a b = 0) && decide (i < k))) := by
  unfold cmpT
  show decide ((if cmpK a b = 0 then cmpN i k else cmpK a b) < 0) = _
  by_cases h : cmpK a b = 0
  · rw [if_pos h, h]
    simp [cmpN_lt]
  · rw [if_neg h, decide_eq_false h]
    simp
theorem rLess_any (a b : ByteArray) (i k : Int) (w : World) : Calls Tryz.prog 54 #[.string a, .int .i64 i, .string b, .int .i64 k] w fun e w' => e = .returned (.bool (decide (cmpT ⟨a, i⟩ ⟨b, k⟩ < 0))) ∧ w = w' := by
  rw [less_is]
  have hb : Op.bytesLess a.toList b.toList = decide (cmpK a b < 0) := by rw [less_cmp, ByteArray.toList_eq, ByteArray.toList_eq]; rfl
  by_cases h1 : cmpK a b < 0
  · rw [decide_eq_true h1] at hb ⊢
    clear h1
    go_enter Tryz.func54, Tryz.ntmps54
    go_wp2
    go_ret
    exact ⟨rfl, rfl⟩
  · rw [decide_eq_false h1] at hb ⊢
    by_cases h2 : cmpK a b = 0
    · rw [decide_eq_true h2]
      obtain rfl := cmpK_zero.1 h2
      clear h1 h2
      go_enter Tryz.func54, Tryz.ntmps54
      go_wp2
      go_ret
      exact ⟨ret_bool (by simp), rfl⟩
    · rw [decide_eq_false h2]
      have h3 : ¬ a.toList = b.toList := fun h => h2 (cmpK_zero.2 (by
        rw [ByteArray.toList_eq, ByteArray.toList_eq] at h
        exact str_ext h))
      clear h1 h2
      go_enter Tryz.func54, Tryz.ntmps54
      go_wp2
      go_ret
      exact ⟨ret_bool (by simp), rfl⟩
theorem risEntry_any (s : ByteArray) (n : Int) (w : World) : Calls Tryz.prog 49 #[.string s, .int .i64 n] w fun e w' => e = .returned (.bool (okT ⟨s, n⟩)) ∧ w = w' := by
  unfold okT
  by_cases h1 : s.size ≤ 100
  · have d1 : (s.size : Int) ≤ 100 := by omega
    rw [show decide ((⟨s, n⟩ : Te).key.size ≤ 100) = true from decide_eq_true h1]
    by_cases h2 : 1 ≤ n
    · rw [show decide (1 ≤ (⟨s, n⟩ : Te).no) = true from decide_eq_true h2]
      by_cases h3 : n ≤ 300
      · rw [show decide ((⟨s, n⟩ : Te).no ≤ 300) = true from decide_eq_true h3]
        clear h1
        go_enter Tryz.func49, Tryz.ntmps49
        go_wp2
        go_ret
        exact ⟨rfl, rfl⟩
      · rw [show decide ((⟨s, n⟩ : Te).no ≤ 300) = false from decide_eq_false h3]
        clear h1
        go_enter Tryz.func49, Tryz.ntmps49
        go_wp2
        go_ret
        exact ⟨rfl, rfl⟩
    · rw [show decide (1 ≤ (⟨s, n⟩ : Te).no) = false from decide_eq_false h2]
      clear h1
      go_enter Tryz.func49, Tryz.ntmps49
      go_wp2
      go_ret
      exact ⟨rfl, rfl⟩
  · have d1 : ¬ (s.size : Int) ≤ 100 := by omega
    rw [show decide ((⟨s, n⟩ : Te).key.size ≤ 100) = false from decide_eq_false h1]
    clear h1
    go_enter Tryz.func49, Tryz.ntmps49
    go_wp2
    go_ret
    exact ⟨rfl, rfl⟩
def shapeN (a b d : Nat) : Bool := decide (b = a) && (decide (a ≤ 4) && (decide (d = 0) || decide (d = a + 1)))
def shapeB (x : Nx) : Bool := shapeN x.keys.length x.recs.length x.kids.length
theorem rShaped_any (A1 A2 A3 : Option Addr) (a b d c1 c2 c3 : Nat) (w : World) (ha : a ≤ 9223372036854775807) (hb : b ≤ 9223372036854775807) (hd : d ≤ 9223372036854775807) : Calls Tryz.prog 77 #[.agg #[.slice A1 a c1, .slice A2 b c2, .slice A3 d c3]] w (Give (.bool (shapeN a b d)) w) := by
  unfold shapeN
  by_cases h1 : b = a
  · subst h1
    by_cases h2 : b ≤ 4
    · have e2 : (b : Int) ≤ 4 := by omega
      rw [decide_eq_true h2, decide_eq_true rfl]
      by_cases h3 : d = 0
      · subst h3
        clear h2
        go_enter Tryz.func77, Tryz.ntmps77
        go_wp2
        go_ret
        exact ⟨rfl, (Ext.refl w).alloc_right _⟩
      · have e3 : ¬ (d : Int) = 0 := by omega
        rw [decide_eq_false h3]
        have e5 : IntKind.i64.wrap ((b : Int) + 1) = (b : Int) + 1 := IntWalk.i64_in _ (by omega)
        by_cases h4 : d = b + 1
        · have e4 : (d : Int) = (b : Int) + 1 := by omega
          rw [decide_eq_true h4]
          clear h2 h3 h4
          go_enter Tryz.func77, Tryz.ntmps77
          go_wp2
          go_ret
          exact ⟨rfl, (Ext.refl w).alloc_right _⟩
        · have e4 : ¬ (d : Int) = (b : Int) + 1 := by omega
          rw [decide_eq_false h4]
          clear h2 h3 h4
          go_enter Tryz.func77, Tryz.ntmps77
          go_wp2
          go_ret
          exact ⟨ret_bool (by rw [beq_eq_false_iff_ne.2 e3, beq_eq_false_iff_ne.2 e4]; rfl), (Ext.refl w).alloc_right _⟩
    · have e2 : ¬ (b : Int) ≤ 4 := by omega
      rw [decide_eq_false h2, decide_eq_true rfl]
      clear h2
      go_enter Tryz.func77, Tryz.ntmps77
      go_wp2
      go_ret
      exact ⟨rfl, (Ext.refl w).alloc_right _⟩
  · have e1 : ¬ (b : Int) = (a : Int) := by omega
    rw [decide_eq_false h1]
    clear h1
    go_enter Tryz.func77, Tryz.ntmps77
    go_wp2
    go_ret
    exact ⟨rfl, (Ext.refl w).alloc_right _⟩
def okP (n : Nat) (l : List Int) : Prop := (∀ k ∈ l, 1 ≤ k ∧ k < (n : Int)) ∧ l.Nodup
theorem okP_app {n : Nat} {a b : List Int} (h : okP n (a ++ b)) : okP n a := ⟨fun k hk => h.1 k (List.mem_append_left _ hk), (List.nodup_append.1 h.2).1⟩
theorem okP_snoc {n : Nat} {a : List Int} {k : Int} (h : okP n a) : okP n (a ++ [k]) ↔ 1 ≤ k ∧ k < (n : Int) ∧ k ∉ a := by
  constructor
  · intro h2
    have h3 := h2.1 k (List.mem_append_right _ (List.mem_singleton.2 rfl))
    exact ⟨h3.1, h3.2, fun hk => (List.nodup_append.1 h2.2).2.2 k hk k (List.mem_singleton.2 rfl) rfl⟩
  · rintro ⟨h1, h2, h3⟩
    refine ⟨fun x hx => ?_, ?_⟩
    · rcases List.mem_append.1 hx with hx | hx
      · exact h.1 x hx
      · rw [List.mem_singleton.1 hx]; exact ⟨h1, h2⟩
    · exact List.nodup_append.2 ⟨h.2, by simp, fun x hx y hy e => h3 (by rw [List.mem_singleton.1 hy] at e; rw [← e]; exact hx)⟩
def allK (xs : List Nx) : List Int := xs.flatMap Nx.kids
def preK (xs : List Nx) (i j : Nat) : List Int := allK (xs.take i) ++ (xth xs i).kids.take j
theorem preK_step {xs : List Nx} {i j : Nat} (hj : j < (xth xs i).kids.length) : preK xs i (j + 1) = preK xs i j ++ [ith (xth xs i).kids j] := by
  unfold preK
  rw [List.take_succ_eq_append_getElem hj, ith_get hj, List.append_assoc]
theorem preK_next {xs : List Nx} {i : Nat} (hi : i < xs.length) : preK xs i (xth xs i).kids.length = preK xs (i + 1) 0 := by
  unfold preK allK
  rw [List.take_length, List.take_zero, List.append_nil, List.take_succ_eq_append_getElem hi, List.flatMap_append, xth_get hi]
  simp
theorem preK_zero (xs : List Nx) : preK xs 0 0 = [] := by unfold preK allK; simp
theorem preK_all (xs : List Nx) : preK xs xs.length 0 = allK xs := by unfold preK; simp
theorem preK_pre {xs : List Nx} {i j : Nat} (hi : i < xs.length) (hj : j ≤ (xth xs i).kids.length) : ∃ r, allK xs = preK xs i j ++ r := by
  refine ⟨(xth xs i).kids.drop j ++ allK (xs.drop (i + 1)), ?_⟩
  unfold preK allK
  conv => lhs; rw [list_cut hi]
  rw [List.flatMap_append, List.flatMap_cons, xth_get hi, List.append_assoc, ← List.append_assoc (xs[i].kids.take j), List.take_append_drop]
def kd (xs : List Nx) (k : Nat) : List Nat := (xth xs k).kids.map Int.toNat
inductive Reach (xs : List Nx) : Nat → Prop
  | zero : Reach xs 0
  | kid {k u : Nat} (h : Reach xs k) (hu : u ∈ kd xs k) : Reach xs u
def treeP (xs : List Nx) : Prop := okP xs.length (allK xs) ∧ ∀ k, k < xs.length → Reach xs k
noncomputable def treeB (xs : List Nx) : Bool := @decide (treeP xs) (Classical.propDecidable _)
theorem treeB_iff {xs : List Nx} : treeB xs = true ↔ treeP xs := by unfold treeB; exact @decide_eq_true_iff _ (Classical.propDecidable _)
theorem treeB_false {xs : List Nx} (h : ¬ treeP xs) : treeB xs = false := by unfold treeB; exact @decide_eq_false _ (Classical.propDecidable _) h
def ordV (xs : List Nx) : List Nat → List Nat → Prop
  | [], _ => True
  | k :: V, todo => (∀ u ∈ kd xs k, u ∈ V ++ todo) ∧ ordV xs V todo
structure Vis (xs : List Nx) (V todo : List Nat) : Prop where
  perm : (V ++ todo).Perm (0 :: V.flatMap (kd xs))
  ord : ordV xs V todo
  reach : ∀ k ∈ V ++ todo, Reach xs k
  nd : V.Nodup
theorem xth_out {xs : List Nx} {k : Nat} (h : xs.length ≤ k) : xth xs k = nxD := by unfold xth; rw [List.getD_eq_getElem?_getD, List.getElem?_eq_none h]; rfl
theorem kd_mem {xs : List Nx} {k u : Nat} (h : u ∈ kd xs k) : k < xs.length ∧ ∃ x ∈ allK xs, x ∈ (xth xs k).kids ∧ x.toNat = u := by
  unfold kd at h
  obtain ⟨x, hx, rfl⟩ := List.mem_map.1 h
  have hk : k < xs.length := by
    rcases Nat.lt_or_ge k xs.length with h1 | h1
    · exact h1
    · rw [xth_out h1] at hx; cases hx
  refine ⟨hk, x, ?_, hx, rfl⟩
  rw [xth_get hk] at hx
  exact List.mem_flatMap.2 ⟨xs[k], List.getElem_mem hk, hx⟩
theorem kd_rng {xs : List Nx} (ok : okP xs.length (allK xs)) {k u : Nat} (h : u ∈ kd xs k) : 1 ≤ u ∧ u < xs.length := by
  obtain ⟨_, x, hx, _, rfl⟩ := kd_mem h
  have := ok.1 x hx
  omega
theorem kd_nodup {xs : List Nx} (ok : okP xs.length (allK xs)) (k : Nat) : (kd xs k).Nodup := by
  rcases Nat.lt_or_ge k xs.length with h1 | h1
  · have h2 := (List.pairwise_flatMap.1 ok.2).1 xs[k] (List.getElem_mem h1)
    unfold kd
    rw [xth_get h1]
    refine List.pairwise_map.2 (h2.imp_of_mem (fun {a b} ha hb hab e => hab ?_))
    have q1 := ok.1 a (List.mem_flatMap.2 ⟨xs[k], List.getElem_mem h1, ha⟩)
    have q2 := ok.1 b (List.mem_flatMap.2 ⟨xs[k], List.getElem_mem h1, hb⟩)
    omega
  · unfold kd
    rw [xth_out h1]
    exact List.Pairwise.nil
theorem kd_apart {xs : List Nx} (ok : okP xs.length (allK xs)) {i j : Nat} (hij : i ≠ j) {u : Nat} (hi : u ∈ kd xs i) (hj : u ∈ kd xs j) : False := by
  have key : ∀ {i j : Nat}, i < j → u ∈ kd xs i → u ∈ kd xs j → False := fun {i j} h hi hj => by
    obtain ⟨h1, x, hx, hx2, e1⟩ := kd_mem hi
    obtain ⟨h2, y, hy, hy2, e2⟩ := kd_mem hj
    have h3 := (List.pairwise_iff_getElem.1 (List.pairwise_flatMap.1 ok.2).2) i j h1 h2 h
    rw [xth_get h1] at hx2
    rw [xth_get h2] at hy2
    have q1 := ok.1 x hx
    have q2 := ok.1 y hy
    exact h3 x hx2 y hy2 (by omega)
  rcases Nat.lt_or_gt_of_ne hij with h | h
  · exact key h hi hj
  · exact key h hj hi
section
variable {xs : List Nx} {V todo : List Nat}
theorem Vis.start : Vis xs [] [0] := ⟨by simp, trivial, fun k hk => by rw [List.nil_append] at hk; rw [List.mem_singleton.1 hk]; exact .zero, List.Pairwise.nil⟩
theorem Vis.lt (h : Vis xs V todo) (ok : okP xs.length (allK xs)) (hn : 0 < xs.length) : ∀ k ∈ V ++ todo, k < xs.length := fun k hk => by
  rcases List.mem_cons.1 (h.perm.mem_iff.1 hk) with rfl | hk
  · exact hn
  · obtain ⟨u, _, hu⟩ := List.mem_flatMap.1 hk
    exact (kd_rng ok hu).2
theorem Vis.nodup (h : Vis xs V todo) (ok : okP xs.length (allK xs)) : (V ++ todo).Nodup := by
  refine h.perm.nodup_iff.2 (List.nodup_cons.2 ⟨fun h0 => ?_, ?_⟩)
  · obtain ⟨u, _, hu⟩ := List.mem_flatMap.1 h0
    have := (kd_rng ok hu).1
    omega
  · refine List.pairwise_flatMap.2 ⟨fun k _ => kd_nodup ok k, h.nd.imp (fun {a b} hab x hx y hy e => ?_)⟩
    subst e
    exact kd_apart ok hab hx hy
theorem ordV_step {k : Nat} {rest : List Nat} (hs : ∀ x ∈ todo, x = k ∨ x ∈ rest) : ∀ {V : List Nat}, ordV xs V todo → ordV xs (V ++ [k]) (rest ++ kd xs k)
  | [], _ => ⟨fun u hu => List.mem_append_right _ (List.mem_append_right _ hu), trivial⟩
  | a :: V, ⟨h1, h2⟩ => by
    refine ⟨fun u hu => ?_, ordV_step hs h2⟩
    rcases List.mem_append.1 (h1 u hu) with h3 | h3
    · exact List.mem_append_left _ (List.mem_append_left _ h3)
    · rcases hs u h3 with rfl | h4
      · exact List.mem_append_left _ (List.mem_append_right _ (List.mem_singleton.2 rfl))
      · exact List.mem_append_right _ (List.mem_append_left _ h4)
theorem Vis.step (h : Vis xs V todo) (ok : okP xs.length (allK xs)) {k : Nat} {rest : List Nat} (hp : todo.Perm (k :: rest)) : Vis xs (V ++ [k]) (rest ++ kd xs k) ∧ k ∉ V := by
  have hk : k ∉ V := fun hk => (List.nodup_append.1 (h.nodup ok)).2.2 k hk k (hp.mem_iff.2 List.mem_cons_self) rfl
  refine ⟨⟨?_, ordV_step (fun x hx => List.mem_cons.1 (hp.mem_iff.1 hx)) h.ord, fun x hx => ?_, ?_⟩, hk⟩
  · have h1 : ((V ++ todo) ++ kd xs k).Perm ((0 :: V.flatMap (kd xs)) ++ kd xs k) := h.perm.append_right _
    have h2 : ((V ++ (k :: rest)) ++ kd xs k).Perm ((V ++ todo) ++ kd xs k) := (hp.symm.append_left V).append_right _
    have h3 := h2.trans h1
    rw [List.flatMap_append]
    simpa using h3
  · rcases List.mem_append.1 hx with h1 | h1
    · rcases List.mem_append.1 h1 with h2 | h2
      · exact h.reach x (List.mem_append_left _ h2)
      · rw [List.mem_singleton.1 h2]
        exact h.reach k (List.mem_append_right _ (hp.mem_iff.2 List.mem_cons_self))
    · rcases List.mem_append.1 h1 with h2 | h2
      · exact h.reach x (List.mem_append_right _ (hp.mem_iff.2 (List.mem_cons_of_mem _ h2)))
      · exact .kid (h.reach k (List.mem_append_right _ (hp.mem_iff.2 List.mem_cons_self))) h2
  · exact List.nodup_append.2 ⟨h.nd, by simp, fun x hx y hy e => hk (by rw [List.mem_singleton.1 hy] at e; rw [← e]; exact hx)⟩
end
theorem nodup_le : ∀ {n : Nat} {l : List Nat}, l.Nodup → (∀ x ∈ l, x < n) → l.length ≤ n
  | 0, l, _, h => by
    cases l with
    | nil => exact Nat.le_refl _
    | cons x l => exact absurd (h x List.mem_cons_self) (by omega)
  | n + 1, l, hn, h => by
    have h1 : (l.erase n).length ≤ n := nodup_le (hn.erase n) (fun x hx => by
      have h2 := h x (List.mem_of_mem_erase hx)
      have h3 : x ≠ n := fun e => by
        rw [e] at hx
        exact (hn.mem_erase_iff.1 hx).1 rfl
      omega)
    have h4 : l.length ≤ (l.erase n).length + 1 := by
      by_cases hm : n ∈ l
      · rw [List.length_erase_of_mem hm]; omega
      · rw [List.erase_of_not_mem hm]; omega
    omega
theorem full_le : ∀ {n : Nat} {l : List Nat}, (∀ k, k < n → k ∈ l) → n ≤ l.length
  | 0, _, _ => Nat.zero_le _
  | n + 1, l, h => by
    have h1 : n ≤ (l.erase n).length := full_le (fun k hk => (List.mem_erase_of_ne (by omega)).2 (h k (by omega)))
    rw [List.length_erase_of_mem (h n (by omega))] at h1
    have : 0 < l.length := List.length_pos_of_mem (h n (by omega))
    omega
section
variable {xs : List Nx} {V todo : List Nat}
theorem Vis.le (h : Vis xs V todo) (ok : okP xs.length (allK xs)) (hn : 0 < xs.length) : V.length ≤ xs.length := nodup_le h.nd (fun x hx => h.lt ok hn x (List.mem_append_left _ hx))
theorem Vis.le2 (h : Vis xs V todo) (ok : okP xs.length (allK xs)) (hn : 0 < xs.length) : V.length + todo.length ≤ xs.length := by
  rw [← List.length_append]
  exact nodup_le (h.nodup ok) (h.lt ok hn)
theorem ordV_in : ∀ {V : List Nat}, ordV xs V [] → ∀ k ∈ V, ∀ u ∈ kd xs k, u ∈ V
  | a :: V, ⟨h1, h2⟩, k, hk, u, hu => by
    rcases List.mem_cons.1 hk with rfl | hk
    · exact List.mem_cons_of_mem _ (by have := h1 u hu; rwa [List.append_nil] at this)
    · exact List.mem_cons_of_mem _ (ordV_in h2 k hk u hu)
theorem Vis.all (h : Vis xs V []) (ok : okP xs.length (allK xs)) (hn : 0 < xs.length) : V.length = xs.length ↔ ∀ k, k < xs.length → Reach xs k := by
  have h0 : 0 ∈ V := by have := h.perm.mem_iff.2 List.mem_cons_self; rwa [List.append_nil] at this
  have hr : ∀ k, Reach xs k → k ∈ V := fun k hk => by
    induction hk with
    | zero => exact h0
    | kid _ hu ih => exact ordV_in h.ord _ ih _ hu
  constructor
  · intro e k hk
    refine h.reach k (List.mem_append_left _ (Classical.byContradiction fun hc => ?_))
    have h1 := nodup_le (n := xs.length) (l := k :: V) (List.nodup_cons.2 ⟨hc, h.nd⟩) (fun x hx => by
      rcases List.mem_cons.1 hx with rfl | hx
      · exact hk
      · exact h.lt ok hn x (List.mem_append_left _ hx))
    rw [List.length_cons] at h1
    omega
  · intro ha
    have h1 := full_le (fun k hk => hr k (ha k hk))
    have h2 := h.le ok hn
    omega
theorem Vis.tree (h : Vis xs V []) (ok : okP xs.length (allK xs)) (hn : 0 < xs.length) : decide (V.length = xs.length) = treeB xs := by
  by_cases e : V.length = xs.length
  · rw [decide_eq_true e, treeB_iff.2 ⟨ok, (h.all ok hn).1 e⟩]
  · rw [decide_eq_false e, treeB_false (fun ht => e ((h.all ok hn).2 ht.2))]
theorem Vis.run (ok : okP xs.length (allK xs)) (hn : 0 < xs.length) : ∀ (m : Nat) (V todo : List Nat), Vis xs V todo → xs.length - V.length ≤ m → ∃ V', Vis xs V' []
  | m, V, [], h, _ => ⟨V, h⟩
  | 0, V, k :: rest, h, hm => by
    have h1 := h.le2 ok hn
    rw [List.length_cons] at h1
    omega
  | m + 1, V, k :: rest, h, hm => Vis.run ok hn m (V ++ [k]) (rest ++ kd xs k) (h.step ok (List.Perm.refl _)).1 (by rw [List.length_append, List.length_cons, List.length_nil]; omega)
end
def UT (xs : List Nx) : Nat → Nat → Prop
  | 0, _ => False
  | f + 1, k => k < xs.length ∧ ∀ u ∈ kd xs k, UT xs f u
theorem UT.up {xs : List Nx} : ∀ {f k : Nat}, UT xs f k → UT xs (f + 1) k
  | 0, _, h => h.elim
  | f + 1, k, ⟨h1, h2⟩ => ⟨h1, fun u hu => UT.up (h2 u hu)⟩
theorem UT.mono {xs : List Nx} {f g k : Nat} (h : UT xs f k) (hg : f ≤ g) : UT xs g k := by
  induction hg with
  | refl => exact h
  | step _ ih => exact ih.up
theorem ordV_ut {xs : List Nx} : ∀ {V : List Nat}, ordV xs V [] → (∀ k ∈ V, k < xs.length) → ∀ k ∈ V, UT xs V.length k
  | a :: V, ⟨h1, h2⟩, hl, k, hk => by
    have ih := ordV_ut h2 (fun k hk => hl k (List.mem_cons_of_mem _ hk))
    rcases List.mem_cons.1 hk with rfl | hk
    · exact ⟨hl k List.mem_cons_self, fun u hu => ih u (by have := h1 u hu; rwa [List.append_nil] at this)⟩
    · exact (ih k hk).up
theorem tree_ut {xs : List Nx} (h : treeP xs) (hn : 0 < xs.length) : UT xs xs.length 0 := by
  obtain ⟨V, hV⟩ := Vis.run h.1 hn _ [] [0] Vis.start (Nat.le_refl _)
  have h0 : 0 ∈ V := by have := hV.perm.mem_iff.2 List.mem_cons_self; rwa [List.append_nil] at this
  exact (ordV_ut hV.ord (fun k hk => hV.lt h.1 hn k (List.mem_append_left _ hk)) 0 h0).mono (hV.le h.1 hn)
def sub (xs : List Nx) : Nat → Nat → List Nat
  | 0, _ => []
  | f + 1, k => k :: (kd xs k).flatMap (sub xs f)
theorem ordV_perm {xs : List Nx} {todo todo' : List Nat} (hp : ∀ x, x ∈ todo → x ∈ todo') : ∀ {V : List Nat}, ordV xs V todo → ordV xs V todo'
  | [], _ => trivial
  | a :: V, ⟨h1, h2⟩ => ⟨fun u hu => by
      rcases List.mem_append.1 (h1 u hu) with h | h
      · exact List.mem_append_left _ h
      · exact List.mem_append_right _ (hp u h), ordV_perm hp h2⟩
section
variable {xs : List Nx} {V todo : List Nat}
theorem Vis.perm' {todo' : List Nat} (h : Vis xs V todo) (hp : todo.Perm todo') : Vis xs V todo' :=
  ⟨(hp.symm.append_left V).trans h.perm, ordV_perm (fun x hx => hp.mem_iff.1 hx) h.ord, fun k hk => by
    rcases List.mem_append.1 hk with h1 | h1
    · exact h.reach k (List.mem_append_left _ h1)
    · exact h.reach k (List.mem_append_right _ (hp.mem_iff.2 h1)), h.nd⟩
theorem Vis.subs (ok : okP xs.length (allK xs)) : ∀ {f k : Nat} {V todo rest : List Nat}, Vis xs V todo → todo.Perm (k :: rest) → UT xs f k → Vis xs (V ++ sub xs f k) rest
  | 0, _, _, _, _, _, _, h => h.elim
  | f + 1, k, V, todo, rest, hV, hp, hU => by
    have key : ∀ (us : List Nat) (V : List Nat), Vis xs V (us ++ rest) → (∀ u ∈ us, UT xs f u) → Vis xs (V ++ us.flatMap (sub xs f)) rest := fun us => by
      induction us with
      | nil => intro V h _; simpa using h
      | cons u us ih =>
        intro V h hu
        have h1 := Vis.subs ok h (List.Perm.refl _) (hu u List.mem_cons_self)
        have h2 := ih _ h1 (fun x hx => hu x (List.mem_cons_of_mem _ hx))
        rw [List.flatMap_cons, ← List.append_assoc]
        exact h2
    have h1 := key _ _ ((hV.step ok hp).1.perm' List.perm_append_comm) hU.2
    rw [List.append_assoc] at h1
    exact h1
end
theorem sub_le {xs : List Nx} (h : treeP xs) (hn : 0 < xs.length) {f : Nat} (hU : UT xs f 0) : (sub xs f 0).length ≤ xs.length := by
  have h1 := Vis.subs h.1 Vis.start (List.Perm.refl _) hU
  exact h1.le h.1 hn
theorem sub_kid {xs : List Nx} {f k u : Nat} (hu : u ∈ kd xs k) : (sub xs f u).length < (sub xs (f + 1) k).length := by
  show _ < (k :: (kd xs k).flatMap (sub xs f)).length
  obtain ⟨a, b, e⟩ := List.append_of_mem hu
  rw [e, List.length_cons, List.flatMap_append, List.flatMap_cons]
  simp only [List.length_append]
  omega
def dps (xs : List Nx) : Nat → Nat → Int → List Int
  | 0, _, _ => []
  | f + 1, k, d => if kd xs k = [] then [d] else (kd xs k).flatMap (fun u => dps xs f u (d + 1))
theorem flat_len_le {α β γ : Type} {F : α → List β} {G : α → List γ} : ∀ {l : List α}, (∀ x ∈ l, (F x).length ≤ (G x).length) → (l.flatMap F).length ≤ (l.flatMap G).length
  | [], _ => Nat.le_refl _
  | x :: l, h => by
    rw [List.flatMap_cons, List.flatMap_cons, List.length_append, List.length_append]
    have h1 := h x List.mem_cons_self
    have h2 := flat_len_le (l := l) (fun y hy => h y (List.mem_cons_of_mem _ hy))
    omega
theorem dps_len {xs : List Nx} : ∀ {f k : Nat} {d : Int}, (dps xs f k d).length ≤ (sub xs f k).length
  | 0, _, _ => Nat.le_refl _
  | f + 1, k, d => by
    unfold dps
    show _ ≤ (k :: (kd xs k).flatMap (sub xs f)).length
    rw [List.length_cons]
    split
    · simp
    · have := flat_len_le (F := fun u => dps xs f u (d + 1)) (G := sub xs f) (l := kd xs k) (fun u _ => dps_len)
      omega
def UD (xs : List Nx) : Nat → Nat → Prop
  | 0, k => k < xs.length ∧ kd xs k = []
  | h + 1, k => k < xs.length ∧ kd xs k ≠ [] ∧ ∀ u ∈ kd xs k, UD xs h u
theorem UD.lt {xs : List Nx} : ∀ {h k : Nat}, UD xs h k → k < xs.length
  | 0, _, h => h.1
  | _ + 1, _, h => h.1
theorem UD.one {xs : List Nx} : ∀ {h h' k : Nat}, UD xs h k → UD xs h' k → h = h'
  | 0, 0, _, _, _ => rfl
  | 0, h' + 1, _, a, b => absurd a.2 b.2.1
  | h + 1, 0, _, a, b => absurd b.2 a.2.1
  | h + 1, h' + 1, k, a, b => by
    obtain ⟨u, hu⟩ := List.exists_mem_of_ne_nil _ a.2.1
    rw [UD.one (a.2.2 u hu) (b.2.2 u hu)]
theorem UD.fuel {xs : List Nx} : ∀ {h f k : Nat}, UD xs h k → UT xs f k → h < f
  | _, 0, _, _, b => b.elim
  | 0, f + 1, _, _, _ => Nat.succ_pos _
  | h + 1, f + 1, k, a, b => by
    obtain ⟨u, hu⟩ := List.exists_mem_of_ne_nil _ a.2.1
    have := UD.fuel (a.2.2 u hu) (b.2 u hu)
    omega
theorem dps_ud {xs : List Nx} : ∀ {f h k : Nat} {d : Int}, UT xs f k → UD xs h k → ∀ x ∈ dps xs f k d, x = d + h
  | 0, _, _, _, b, _, _, _ => b.elim
  | f + 1, 0, k, d, b, a, x, hx => by
    unfold dps at hx
    rw [if_pos a.2, List.mem_singleton] at hx
    subst hx
    simp
  | f + 1, h + 1, k, d, b, a, x, hx => by
    unfold dps at hx
    rw [if_neg a.2.1] at hx
    obtain ⟨u, hu, hx⟩ := List.mem_flatMap.1 hx
    have := dps_ud (b.2 u hu) (a.2.2 u hu) x hx
    omega
theorem ud_dps {xs : List Nx} : ∀ {f k : Nat} {d m : Int}, UT xs f k → (∀ x ∈ dps xs f k d, x = m) → ∃ h, UD xs h k ∧ m = d + h
  | 0, _, _, _, b, _ => b.elim
  | f + 1, k, d, m, b, a => by
    unfold dps at a
    by_cases e : kd xs k = []
    · rw [if_pos e] at a
      exact ⟨0, ⟨b.1, e⟩, by have := a d List.mem_cons_self; omega⟩
    · rw [if_neg e] at a
      have hk : ∀ u ∈ kd xs k, ∃ h, UD xs h u ∧ m = d + 1 + h := fun u hu => ud_dps (b.2 u hu) (fun x hx => a x (List.mem_flatMap.2 ⟨u, hu, hx⟩))
      obtain ⟨u, hu⟩ := List.exists_mem_of_ne_nil _ e
      obtain ⟨h, h1, h2⟩ := hk u hu
      refine ⟨h + 1, ⟨b.1, e, fun v hv => ?_⟩, by omega⟩
      obtain ⟨h', g1, g2⟩ := hk v hv
      obtain rfl : h = h' := by omega
      exact g1
theorem dps_same {xs : List Nx} {f k : Nat} (hU : UT xs f k) : (∃ h, UD xs h k) ↔ ∀ j, j < (dps xs f k 0).length → ith (dps xs f k 0) j = ith (dps xs f k 0) 0 := by
  constructor
  · rintro ⟨h, hd⟩ j hj
    rw [ith_get hj, ith_get (by omega), dps_ud hU hd _ (List.getElem_mem _), dps_ud hU hd _ (List.getElem_mem _)]
  · intro hj
    obtain ⟨h, hd, _⟩ := ud_dps (d := 0) (m := ith (dps xs f k 0) 0) hU (fun x hx => by
      obtain ⟨j, h1, rfl⟩ := List.mem_iff_getElem.1 hx
      rw [← ith_get h1]
      exact hj j h1)
    exact ⟨h, hd⟩
def ents (x : Nx) : List Te := List.zipWith Te.mk x.keys x.recs
theorem ents_len {x : Nx} (h : x.recs.length = x.keys.length) : (ents x).length = x.keys.length := by unfold ents; rw [List.length_zipWith, h, Nat.min_self]
theorem ents_at {x : Nx} (h : x.recs.length = x.keys.length) {k : Nat} (hk : k < x.keys.length) : tth (ents x) k = ⟨sth x.keys k, ith x.recs k⟩ := by
  rw [tth_get (by rw [ents_len h]; exact hk), sth_get hk, ith_get (by omega)]
  unfold ents
  rw [List.getElem_zipWith]
theorem ents_of (l : List Te) (k : List Int) : ents ⟨l.map Te.key, l.map Te.no, k⟩ = l := by
  unfold ents
  induction l with
  | nil => rfl
  | cons x l ih => rw [List.map_cons, List.map_cons, List.zipWith_cons_cons, ih]
def btx (xs : List Nx) : Nat → Nat → BT
  | 0, k => .nd (ents (xth xs k)) []
  | h + 1, k => .nd (ents (xth xs k)) ((kd xs k).map (btx xs h))
theorem shape_is {x : Nx} (h : shapeB x = true) : x.recs.length = x.keys.length ∧ x.keys.length ≤ 4 ∧ (x.kids.length = 0 ∨ x.kids.length = x.keys.length + 1) := by
  unfold shapeB shapeN at h
  simp only [Bool.and_eq_true, Bool.or_eq_true, decide_eq_true_eq] at h
  exact h
def shpX (xs : List Nx) : Prop := ∀ k, k < xs.length → shapeB (xth xs k) = true
theorem kd_len (xs : List Nx) (k : Nat) : (kd xs k).length = (xth xs k).kids.length := by simp [kd]
theorem btx_shw {xs : List Nx} (hs : shpX xs) : ∀ {h k : Nat}, UD xs h k → Shw h (btx xs h k)
  | 0, k, _ => rfl
  | h + 1, k, a => by
    have s1 := shape_is (hs k a.1)
    have hne : (kd xs k).length ≠ 0 := fun e => a.2.1 (List.eq_nil_of_length_eq_zero e)
    rw [kd_len] at hne
    refine ⟨?_, fun K hK => ?_⟩
    · rw [List.length_map, kd_len, ents_len s1.1]; omega
    · obtain ⟨u, hu, rfl⟩ := List.mem_map.1 hK
      exact btx_shw hs (a.2.2 u hu)
theorem sum_le {α : Type} {F G : α → Nat} : ∀ {l : List α}, (∀ x ∈ l, F x ≤ G x) → (l.map F).sum ≤ (l.map G).sum
  | [], _ => Nat.le_refl _
  | x :: l, h => by
    rw [List.map_cons, List.map_cons, List.sum_cons, List.sum_cons]
    have h1 := h x List.mem_cons_self
    have h2 := sum_le (l := l) (fun y hy => h y (List.mem_cons_of_mem _ hy))
    omega
theorem flatMap_len {α β : Type} (F : α → List β) : ∀ l : List α, (l.flatMap F).length = (l.map (fun x => (F x).length)).sum
  | [] => rfl
  | x :: l => by rw [List.flatMap_cons, List.length_append, List.map_cons, List.sum_cons, flatMap_len F l]
theorem sum_mul (m : Nat) {α : Type} (F : α → Nat) : ∀ l : List α, (l.map (fun x => F x * m)).sum = (l.map F).sum * m
  | [] => by simp
  | x :: l => by rw [List.map_cons, List.map_cons, List.sum_cons, List.sum_cons, sum_mul m F l, Nat.add_mul]
theorem btx_len {xs : List Nx} (hs : shpX xs) : ∀ {h f k : Nat}, UD xs h k → UT xs f k → (flat h (btx xs h k)).length ≤ (sub xs f k).length * 4
  | _, 0, _, _, b => b.elim
  | 0, f + 1, k, a, _ => by
    have s1 := shape_is (hs k a.1)
    show (ents (xth xs k)).length ≤ _
    rw [ents_len s1.1]
    show _ ≤ (k :: (kd xs k).flatMap (sub xs f)).length * 4
    rw [List.length_cons]
    omega
  | h + 1, f + 1, k, a, b => by
    have s1 := shape_is (hs k a.1)
    have s2 := btx_shw hs a
    show (flat (h + 1) (.nd (ents (xth xs k)) ((kd xs k).map (btx xs h)))).length ≤ (k :: (kd xs k).flatMap (sub xs f)).length * 4
    rw [flat_len s2.1, ents_len s1.1, List.length_cons, flatMap_len, List.map_map, List.map_map]
    have h1 := sum_le (l := kd xs k) (F := (List.length ∘ flat h) ∘ btx xs h) (G := fun u => (sub xs f u).length * 4) (fun u hu => btx_len hs (a.2.2 u hu) (b.2 u hu))
    rw [sum_mul] at h1
    omega
noncomputable def cdec (p : Prop) : Bool := @decide p (Classical.propDecidable p)
theorem cdec_not {p : Prop} : cdec p = false ↔ ¬ p := @decide_eq_false_iff_not _ (Classical.propDecidable _)
def fullP (xs : List Nx) : Prop := ∀ k, k < xs.length → (if k = 0 then min 1 (xth xs 0).kids.length else 2) ≤ (xth xs k).keys.length
noncomputable def hX (xs : List Nx) : Nat := @dite _ (∃ h, UD xs h 0) (Classical.propDecidable _) (fun h => h.choose) (fun _ => 0)
theorem hX_is {xs : List Nx} {h : Nat} (hd : UD xs h 0) : hX xs = h := by
  unfold hX
  rw [dif_pos ⟨h, hd⟩]
  exact UD.one (Exists.choose_spec (p := fun h => UD xs h 0) ⟨h, hd⟩) hd
noncomputable def entX (xs : List Nx) : List Te := flat (hX xs) (btx xs (hX xs) 0)
noncomputable def wrongX (xs : List Nx) : Int :=
  if xs.length < 1 ∨ 2400 < xs.length then 1 else if cdec (shpX xs) = false then 2 else if treeB xs = false then 3 else if cdec (fullP xs) = false then 4
  else if cdec (∃ h, UD xs h 0) = false then 5 else if cdec (∀ x ∈ entX xs, okT x = true) = false then 6 else if cdec (Srt (entX xs)) = false then 7 else 0
theorem wrong_none {xs : List Nx} : wrongX xs = 0 ↔ 1 ≤ xs.length ∧ xs.length ≤ 2400 ∧ shpX xs ∧ treeP xs ∧ fullP xs ∧ (∃ h, UD xs h 0) ∧ (∀ x ∈ entX xs, okT x = true) ∧ Srt (entX xs) := by
  unfold wrongX
  constructor
  · intro h
    by_cases c1 : xs.length < 1 ∨ 2400 < xs.length
    · rw [if_pos c1] at h; cases h
    rw [if_neg c1] at h
    by_cases c2 : shpX xs
    · rw [if_neg (fun hc => cdec_not.1 hc c2)] at h
      by_cases c3 : treeP xs
      · rw [if_neg (fun hc => by rw [treeB_iff.2 c3] at hc; cases hc)] at h
        by_cases c4 : fullP xs
        · rw [if_neg (fun hc => cdec_not.1 hc c4)] at h
          by_cases c5 : ∃ h, UD xs h 0
          · rw [if_neg (fun hc => cdec_not.1 hc c5)] at h
            by_cases c6 : ∀ x ∈ entX xs, okT x = true
            · rw [if_neg (fun hc => cdec_not.1 hc c6)] at h
              by_cases c7 : Srt (entX xs)
              · exact ⟨by omega, by omega, c2, c3, c4, c5, c6, c7⟩
              · rw [if_pos (cdec_not.2 c7)] at h; cases h
            · rw [if_pos (cdec_not.2 c6)] at h; cases h
          · rw [if_pos (cdec_not.2 c5)] at h; cases h
        · rw [if_pos (cdec_not.2 c4)] at h; cases h
      · rw [if_pos (treeB_false c3)] at h; cases h
    · rw [if_pos (cdec_not.2 c2)] at h; cases h
  · rintro ⟨c1, c1', c2, c3, c4, c5, c6, c7⟩
    rw [if_neg (by omega), if_neg (fun hc => cdec_not.1 hc c2), if_neg (fun hc => by rw [treeB_iff.2 c3] at hc; cases hc), if_neg (fun hc => cdec_not.1 hc c4), if_neg (fun hc => cdec_not.1 hc c5), if_neg (fun hc => cdec_not.1 hc c6), if_neg (fun hc => cdec_not.1 hc c7)]
theorem wrong_rng (xs : List Nx) : 0 ≤ wrongX xs ∧ wrongX xs ≤ 7 := by
  unfold wrongX
  split
  · decide
  · split
    · decide
    · split
      · decide
      · split
        · decide
        · split
          · decide
          · split
            · decide
            · split <;> decide
theorem srt_steps {l : List Te} : Srt l ↔ ∀ i, i + 1 < l.length → cmpT (tth l i) (tth l (i + 1)) < 0 := by
  constructor
  · intro h i hi
    exact srt_nth h (Nat.lt_succ_self i) hi
  · intro h
    induction l with
    | nil => exact List.Pairwise.nil
    | cons x l ih =>
      have ih := ih (fun i hi => by
        have := h (i + 1) (by simp; omega)
        simpa [tth] using this)
      refine srt_cons.2 ⟨fun y hy => ?_, ih⟩
      cases l with
      | nil => cases hy
      | cons z l =>
        have h0 : cmpT x z < 0 := by
          have := h 0 (by simp)
          simpa [tth] using this
        rcases List.mem_cons.1 hy with rfl | hy
        · exact h0
        · exact cmpT_trans h0 ((srt_cons.1 ih).1 y hy)
theorem xth_at {xs a b : List Nx} {x : Nx} (e : xs = a ++ x :: b) : xth xs a.length = x := by
  subst e
  rw [xth_get (by simp)]
  simp
theorem lst_cons (h : Nat) (T : BT) (s : Nat) : ∃ x r, lst h T s = x :: r := by
  cases h with
  | zero => cases T; exact ⟨_, _, rfl⟩
  | succ h => cases T; exact ⟨_, _, rfl⟩
theorem lst_pos (h : Nat) (T : BT) (s : Nat) : 1 ≤ (lst h T s).length := by
  obtain ⟨x, r, e⟩ := lst_cons h T s
  rw [e]; simp
theorem kids_kls {F : BT → Nat → List Nx} : ∀ {ks : List BT} {s : Nat}, (∀ K ∈ ks, ∀ s, 1 ≤ (F K s).length ∧ (∀ x ∈ allK (F K s), (s : Int) < x ∧ x < ((s + (F K s).length : Nat) : Int)) ∧ (allK (F K s)).Nodup) → (∀ x ∈ kno F ks s ++ allK (kls F ks s), (s : Int) ≤ x ∧ x < ((s + (kls F ks s).length : Nat) : Int)) ∧ (kno F ks s ++ allK (kls F ks s)).Nodup
  | [], s, _ => by
    show (∀ x ∈ ([] : List Int) ++ allK [], _) ∧ _
    exact ⟨fun x hx => (by cases hx), List.Pairwise.nil⟩
  | K :: ks, s, h => by
    obtain ⟨h1, h2, h3⟩ := h K List.mem_cons_self s
    obtain ⟨i1, i2⟩ := kids_kls (ks := ks) (s := s + (F K s).length) (fun K' hK => h K' (List.mem_cons_of_mem _ hK))
    rw [kno, kls, List.length_append]
    have e0 : allK (F K s ++ kls F ks (s + (F K s).length)) = allK (F K s) ++ allK (kls F ks (s + (F K s).length)) := by unfold allK; rw [List.flatMap_append]
    rw [e0]
    generalize kno F ks (s + (F K s).length) = A at *
    generalize allK (kls F ks (s + (F K s).length)) = D at *
    generalize (kls F ks (s + (F K s).length)).length = m at *
    generalize allK (F K s) = C at *
    generalize (F K s).length = q at *
    have hp : (((s : Int) :: A) ++ (C ++ D)).Perm ((s : Int) :: (C ++ (A ++ D))) := by
      rw [List.cons_append]
      refine List.Perm.cons _ ?_
      rw [← List.append_assoc, ← List.append_assoc]
      exact List.perm_append_comm.append_right D
    refine ⟨fun x hx => ?_, hp.nodup_iff.2 ?_⟩
    · rcases List.mem_cons.1 (hp.mem_iff.1 hx) with rfl | hx
      · omega
      · rcases List.mem_append.1 hx with hx | hx
        · have := h2 x hx; omega
        · have := i1 x hx; omega
    · refine List.nodup_cons.2 ⟨fun hx => ?_, List.nodup_append.2 ⟨h3, i2, fun x hx y hy e => ?_⟩⟩
      · rcases List.mem_append.1 hx with hx | hx
        · have := h2 _ hx; omega
        · have := i1 _ hx; omega
      · have := h2 x hx
        have := i1 y hy
        omega
theorem kids_lst : ∀ {h : Nat} {T : BT}, Shw h T → ∀ s, 1 ≤ (lst h T s).length ∧ (∀ x ∈ allK (lst h T s), (s : Int) < x ∧ x < ((s + (lst h T s).length : Nat) : Int)) ∧ (allK (lst h T s)).Nodup
  | 0, .nd l ks, _, s => by
    show 1 ≤ ([_] : List Nx).length ∧ (∀ x ∈ ([] : List Int) ++ [], _) ∧ (([] : List Int) ++ []).Nodup
    exact ⟨by simp, fun x hx => (by cases hx), List.Pairwise.nil⟩
  | h + 1, .nd l ks, hs, s => by
    have hk := kids_kls (F := lst h) (ks := ks) (s := s + 1) (fun K hK => kids_lst (hs.2 K hK))
    refine ⟨lst_pos _ _ _, ?_, hk.2⟩
    intro x hx
    have h1 := hk.1 x hx
    show _ ∧ x < ((s + ((_ : Nx) :: kls (lst h) ks (s + 1)).length : Nat) : Int)
    rw [List.length_cons]
    omega
theorem back_kls {xs : List Nx} {h : Nat} (F : BT → Nat → List Nx) (hF : ∀ (K : BT) (a b : List Nx), Shw h K → xs = a ++ (F K a.length ++ b) → UD xs h a.length ∧ btx xs h a.length = K ∧ (Reach xs a.length → ∀ k, a.length ≤ k → k < a.length + (F K a.length).length → Reach xs k)) : ∀ (ks : List BT) (a b : List Nx), (∀ K ∈ ks, Shw h K) → xs = a ++ (kls F ks a.length ++ b) → (∀ u ∈ (kno F ks a.length).map Int.toNat, UD xs h u) ∧ ((kno F ks a.length).map Int.toNat).map (btx xs h) = ks ∧ ((∀ u ∈ (kno F ks a.length).map Int.toNat, Reach xs u) → ∀ k, a.length ≤ k → k < a.length + (kls F ks a.length).length → Reach xs k)
  | [], a, b, _, _ => ⟨fun u hu => (by cases hu), rfl, fun _ k h1 h2 => (by simp [kls] at h2; omega)⟩
  | K :: ks, a, b, hs, e => by
    rw [kls, List.append_assoc] at e
    obtain ⟨f1, f2, f3⟩ := hF K a _ (hs K List.mem_cons_self) e
    have hl : (a ++ F K a.length).length = a.length + (F K a.length).length := by simp
    obtain ⟨i1, i2, i3⟩ := back_kls F hF ks (a ++ F K a.length) b (fun K' hK => hs K' (List.mem_cons_of_mem _ hK)) (by rw [hl, List.append_assoc]; exact e)
    rw [hl] at i1 i2 i3
    rw [kno, kls, List.map_cons, List.map_cons, Int.toNat_natCast]
    refine ⟨fun u hu => ?_, by rw [f2, i2], fun hr k h1 h2 => ?_⟩
    · rcases List.mem_cons.1 hu with rfl | hu
      · exact f1
      · exact i1 u hu
    · rw [List.length_append] at h2
      by_cases hk : k < a.length + (F K a.length).length
      · exact f3 (hr _ List.mem_cons_self) k h1 hk
      · exact i3 (fun u hu => hr u (List.mem_cons_of_mem _ hu)) k (by omega) (by omega)
theorem back_lst {xs : List Nx} : ∀ {h : Nat} (T : BT) (a b : List Nx), Shw h T → xs = a ++ (lst h T a.length ++ b) → UD xs h a.length ∧ btx xs h a.length = T ∧ (Reach xs a.length → ∀ k, a.length ≤ k → k < a.length + (lst h T a.length).length → Reach xs k)
  | 0, .nd l ks, a, b, hs, e => by
    have e1 : xs = a ++ (⟨l.map Te.key, l.map Te.no, []⟩ : Nx) :: b := e
    have hx := xth_at e1
    have hlt : a.length < xs.length := by rw [e1]; simp
    refine ⟨⟨hlt, by unfold kd; rw [hx]; rfl⟩, ?_, fun hr k h1 h2 => ?_⟩
    · show BT.nd (ents (xth xs a.length)) [] = _
      rw [hx, ents_of, show ks = [] from hs]
    · have : k < a.length + 1 := h2
      obtain rfl : k = a.length := by omega
      exact hr
  | h + 1, .nd l ks, a, b, hs, e => by
    have e1 : xs = a ++ (⟨l.map Te.key, l.map Te.no, kno (lst h) ks (a.length + 1)⟩ : Nx) :: (kls (lst h) ks (a.length + 1) ++ b) := e
    have hx := xth_at e1
    have hlt : a.length < xs.length := by rw [e1]; simp
    have hl : (a ++ [(⟨l.map Te.key, l.map Te.no, kno (lst h) ks (a.length + 1)⟩ : Nx)]).length = a.length + 1 := by simp
    obtain ⟨i1, i2, i3⟩ := back_kls (xs := xs) (h := h) (lst h) (fun K a b => back_lst K a b) ks (a ++ [⟨l.map Te.key, l.map Te.no, kno (lst h) ks (a.length + 1)⟩]) b hs.2 (by rw [hl, List.append_assoc]; exact e1)
    rw [hl] at i1 i2 i3
    have hkd : kd xs a.length = (kno (lst h) ks (a.length + 1)).map Int.toNat := by unfold kd; rw [hx]
    refine ⟨⟨hlt, ?_, by rw [hkd]; exact i1⟩, ?_, fun hr k h1 h2 => ?_⟩
    · intro h0
      have : (kd xs a.length).length = ks.length := by rw [hkd, List.length_map, kno_len]
      rw [h0, hs.1] at this
      simp at this
    · show BT.nd (ents (xth xs a.length)) ((kd xs a.length).map (btx xs h)) = _
      rw [hx, ents_of, hkd, i2]
    · by_cases hk : k = a.length
      · rw [hk]; exact hr
      · refine i3 (fun u hu => .kid hr (by rw [hkd]; exact hu)) k (by omega) ?_
        have : k < a.length + ((_ : Nx) :: kls (lst h) ks (a.length + 1)).length := h2
        rw [List.length_cons] at this
        omega
theorem nodes_kls {h : Nat} : ∀ {ks : List BT} {s : Nat}, (∀ K ∈ ks, ∀ s, ∀ y ∈ lst h K s, shapeB y = true ∧ 2 ≤ y.keys.length) → ∀ y ∈ kls (lst h) ks s, shapeB y = true ∧ 2 ≤ y.keys.length
  | [], _, _, y, hy => by cases hy
  | K :: ks, s, hk, y, hy => by
    rw [kls] at hy
    rcases List.mem_append.1 hy with hy | hy
    · exact hk K List.mem_cons_self _ y hy
    · exact nodes_kls (fun K' hK => hk K' (List.mem_cons_of_mem _ hK)) y hy
theorem nodes_lst : ∀ {h : Nat} {T : BT}, Shp h T → T.l.length ≤ 4 → ∀ s, ∃ x r, lst h T s = x :: r ∧ shapeB x = true ∧ x.keys.length = T.l.length ∧ (h = 0 → x.kids = []) ∧ ∀ y ∈ r, shapeB y = true ∧ 2 ≤ y.keys.length
  | 0, .nd l ks, hs, h4, s => by
    refine ⟨_, _, rfl, ?_, by simp [BT.l], fun _ => rfl, fun y hy => (by cases hy)⟩
    have h4' : l.length ≤ 4 := h4
    simp [shapeB, shapeN, kno, h4']
  | h + 1, .nd l ks, hs, h4, s => by
    have h4' : l.length ≤ 4 := h4
    refine ⟨_, _, rfl, ?_, by simp [BT.l], fun h => (by cases h), nodes_kls (fun K hK s y hy => ?_)⟩
    · simp [shapeB, shapeN, kno_len, h4', hs.1]
    · obtain ⟨k2, k4, ks'⟩ := hs.2 K hK
      obtain ⟨x, r, e, g1, g2, _, g4⟩ := nodes_lst ks' k4 s
      rw [e] at hy
      rcases List.mem_cons.1 hy with rfl | hy
      · exact ⟨g1, by rw [g2]; exact k2⟩
      · exact g4 y hy
theorem lst_right {h : Nat} {T : BT} (hs : Shp h T) (h4 : T.l.length ≤ 4) (h1 : h ≠ 0 → 1 ≤ T.l.length) (hn : (lst h T 0).length ≤ 2400) (hok : ∀ x ∈ flat h T, okT x = true) (hsr : Srt (flat h T)) : wrongX (lst h T 0) = 0 ∧ entX (lst h T 0) = flat h T := by
  obtain ⟨b1, b2, b3⟩ := back_lst (xs := lst h T 0) T [] [] hs.w (by simp)
  have hent : entX (lst h T 0) = flat h T := by
    unfold entX
    rw [hX_is b1]
    show flat h (btx (lst h T 0) h 0) = _
    rw [show btx (lst h T 0) h 0 = T from b2]
  obtain ⟨k1, k2, k3⟩ := kids_lst hs.w 0
  obtain ⟨x, r, e, g1, g2, g3, g4⟩ := nodes_lst hs h4 0
  have hnth : ∀ k, k < (lst h T 0).length → xth (lst h T 0) k = x ∧ k = 0 ∨ k ≠ 0 ∧ xth (lst h T 0) k ∈ r := fun k hk => by
    rw [e] at hk ⊢
    cases k with
    | zero => exact .inl ⟨rfl, rfl⟩
    | succ k =>
      refine .inr ⟨by omega, ?_⟩
      rw [xth_get hk, List.getElem_cons_succ]
      exact List.getElem_mem _
  refine ⟨wrong_none.2 ⟨k1, hn, fun k hk => ?_, ⟨⟨fun y hy => ?_, k3⟩, fun k hk => b3 .zero k (Nat.zero_le _) (by simpa using hk)⟩, fun k hk => ?_, ⟨h, b1⟩, by rw [hent]; exact hok, by rw [hent]; exact hsr⟩, hent⟩
  · rcases hnth k hk with ⟨e1, _⟩ | ⟨_, e1⟩
    · rw [e1]; exact g1
    · exact (g4 _ e1).1
  · have := k2 y hy
    rw [Nat.zero_add] at this
    omega
  · rcases hnth k hk with ⟨e1, rfl⟩ | ⟨e0, e1⟩
    · rw [if_pos rfl, e1, g2]
      by_cases h0 : h = 0
      · rw [g3 h0]; simp
      · have := h1 h0; omega
    · rw [if_neg e0]; exact (g4 _ e1).2
open Go.RowKit Go.Shelf
structure QueX (w : World) (p : Nat → Prop) (ao : Option Addr) (b off cap : Nat) (l : List Int) : Prop where
  le : l.length ≤ cap
  max : cap ≤ maxLen
  addr : 0 < cap → ao = some ⟨b, off, none⟩
  lt : 0 < cap → b < w.heap.size
  own : 0 < cap → p b
  holds : ∀ j u, (ints l)[j]? = some u → w.cell? ⟨b, off + j, none⟩ = some u
  there : ∀ j, j < cap → (w.cell? ⟨b, off + j, none⟩).isSome = true ∧ w.frozen? ⟨b, off + j, none⟩ = false
def Que (w : World) (p : Nat → Prop) (v : Value) (l : List Int) : Prop := ∃ ao b off cap, v = .slice ao l.length cap ∧ QueX w p ao b off cap l
theorem setCells_same (b : Nat) : ∀ (vs : List Value) (o : Nat) (w : World), (w.setCells b o vs).heap.size = w.heap.size ∧ (w.setCells b o vs).tape = w.tape
  | [], _, _ => ⟨rfl, rfl⟩
  | v :: vs, o, w => by
    have h := setCells_same b vs (o + 1) (w.setCell ⟨b, o, none⟩ v)
    exact ⟨h.1.trans (by simp), h.2⟩
theorem ints_len (l : List Int) : (ints l).length = l.length := by simp [ints]
section
variable {w w' : World} {p : Nat → Prop} {v : Value} {l : List Int}
theorem Que.keep (h : Que w p v l) (hb : ∀ k, k < w.heap.size → p k → w'.heap[k]? = w.heap[k]?) (hs : w.heap.size ≤ w'.heap.size) : Que w' p v l := by
  obtain ⟨ao, b, off, cap, rfl, h⟩ := h
  refine ⟨ao, b, off, cap, rfl, h.le, h.max, h.addr, fun hc => Nat.lt_of_lt_of_le (h.lt hc) hs, h.own, fun j u hu => ?_, fun j hj => ?_⟩
  · have hc : 0 < cap := by have := (List.getElem?_eq_some_iff.1 hu).1; rw [ints_len] at this; have := h.le; omega
    exact (World.cell?_of_block (a := ⟨b, off + j, none⟩) (hb b (h.lt hc) (h.own hc))).trans (h.holds j u hu)
  · have hc : 0 < cap := by omega
    rw [World.cell?_of_block (a := ⟨b, off + j, none⟩) (hb b (h.lt hc) (h.own hc)), World.frozen?_of_block (a := ⟨b, off + j, none⟩) (hb b (h.lt hc) (h.own hc))]
    exact h.there j hj
theorem Que.ext (h : Que w p v l) (hx : Ext w w') : Que w' p v l := h.keep (fun k hk _ => hx.block hk) hx.size
theorem Que.set (h : Que w p v l) {g j : Nat} {u : Value} (hg : ¬ p g) : Que (w.setCell ⟨g, j, none⟩ u) p v l := h.keep (fun k hk hp => by
  have hne : g ≠ k := fun e => hg (e ▸ hp)
  simp [World.setCell, Array.getElem?_modify, hne]) (by simp)
theorem Que.form (h : Que w p v l) : ∃ A c, v = .slice A l.length c ∧ l.length ≤ c ∧ c ≤ 9223372036854775807 := by
  obtain ⟨ao, b, off, cap, rfl, h⟩ := h
  exact ⟨ao, cap, rfl, h.le, h.max⟩
theorem Que.head {A : Option Addr} {n c : Nat} {x : Int} (h : Que w p (.slice A n c) (x :: l)) : ∃ ad, A = some ad ∧ w.cell? (ad.add 0) = some (.int .i64 x) ∧ n = l.length + 1 ∧ 1 ≤ c ∧ c ≤ 9223372036854775807 ∧ Que w p (.slice (if c = 1 then A else A.map (·.add 1)) l.length (c - 1)) l := by
  obtain ⟨ao, b, off, cap, e, h⟩ := h
  injection e with e1 e2 e3
  subst e1 e3
  have hle := h.le
  rw [List.length_cons] at hle
  have ha := h.addr (by omega)
  refine ⟨⟨b, off, none⟩, ha, ?_, e2, by omega, h.max, _, b, off + 1, c - 1, rfl, by omega, by have := h.max; omega, fun hc => ?_, fun _ => h.lt (by omega), fun _ => h.own (by omega), fun j u hu => ?_, fun j hj => ?_⟩
  · rw [lit_add]
    exact h.holds 0 _ rfl
  · rw [if_neg (by omega), ha, Option.map_some, lit_add]
  · have := h.holds (j + 1) u hu
    rw [show off + 1 + j = off + (j + 1) by omega]
    exact this
  · rw [show off + 1 + j = off + (j + 1) by omega]
    exact h.there (j + 1) (by omega)
theorem Que.last {A : Option Addr} {n c : Nat} {x : Int} (h : Que w p (.slice A n c) (l ++ [x])) : ∃ ad, A = some ad ∧ w.cell? (ad.add l.length) = some (.int .i64 x) ∧ n = l.length + 1 ∧ n ≤ c ∧ c ≤ 9223372036854775807 ∧ Que w p (.slice A l.length c) l := by
  obtain ⟨ao, b, off, cap, e, h⟩ := h
  injection e with e1 e2 e3
  subst e1 e3
  have hle := h.le
  rw [List.length_append, List.length_cons, List.length_nil] at hle e2
  have ha := h.addr (by omega)
  refine ⟨⟨b, off, none⟩, ha, ?_, by omega, by omega, h.max, A, b, off, c, rfl, by omega, h.max, h.addr, h.lt, h.own, fun j u hu => ?_, h.there⟩
  · rw [lit_add]
    exact h.holds l.length _ (by rw [ints_append, List.getElem?_append_right (by rw [ints_len]; exact Nat.le_refl _), ints_len, Nat.sub_self]; rfl)
  · refine h.holds j u ?_
    rw [ints_append, List.getElem?_append_left (List.getElem?_eq_some_iff.1 hu).1]
    exact hu
theorem Que.append (h : Que w p v l) (hp : ∀ g, w.heap.size ≤ g → p g) {A : Option Addr} {m c : Nat} {news : List Int} (hr : RdI w A m c news) (hb : l.length + m ≤ 1000000) (ty : TypeId) :
    ∃ v' w', (Builtin.append_ #[29, 29] ty #[v, .slice A m c]).run Tryz.prog w = .ok v' w' ∧ Que w' p v' (l ++ news) ∧ w'.os = w.os ∧ w'.tape = w.tape ∧ w'.output = w.output ∧ w.heap.size ≤ w'.heap.size ∧ ∀ k, k < w.heap.size → ¬ p k → w'.heap[k]? = w.heap[k]? := by
  obtain ⟨i0, hi0, hz0, hz1, hz2⟩ := info_parts infoI
  obtain ⟨ao, b, off, cap, rfl, h⟩ := h
  have hm1 : news.length = m := by have := hr.1; rw [ints_len] at this; omega
  have hone : ∀ u ∈ ints news, u.oneCell' = true := fun u hu => by
    obtain ⟨x, _, rfl⟩ := List.mem_map.1 hu
    rfl
  have hs : Src Tryz.prog i0.size 29 (.slice A m c) m (ints news) w := by
    rw [hz1]
    rcases A with _ | ad
    · have hm0 : m = 0 := by
        rcases Nat.eq_zero_or_pos m with h0 | h0
        · exact h0
        · obtain ⟨ad, h9, _⟩ := hr.2.2.2 h0
          cases h9
      subst hm0
      have hn0 := List.eq_nil_of_length_eq_zero hm1
      subst hn0
      exact Src.ofNil w Tryz.underlying29 c
    · refine Src.ofSlice w Tryz.underlying29 ad m c (ints news) (by rw [ints_len, hm1]; omega) (fun j u hu => ?_) hone
      have hj := (List.getElem?_eq_some_iff.1 hu).1
      rw [ints_len] at hj
      obtain ⟨ad', h9, hc⟩ := hr.2.2.2 (by omega)
      injection h9 with h9
      subst h9
      exact hc j u hu
  have hll : (l ++ news).length = l.length + m := by rw [List.length_append, hm1]
  have hmaxl : maxLen = 9223372036854775807 := rfl
  have grow : cap < l.length + m → (Builtin.firstCells i0.size l.length (.slice ao l.length cap)).run Tryz.prog w.drew = .ok (ints l).toArray w.drew → ∃ v' w', (Builtin.append_ #[29, 29] ty #[.slice ao l.length cap, .slice A m c]).run Tryz.prog w = .ok v' w' ∧ Que w' p v' (l ++ news) ∧ w'.os = w.os ∧ w'.tape = w.tape ∧ w'.output = w.output ∧ w.heap.size ≤ w'.heap.size ∧ ∀ k, k < w.heap.size → ¬ p k → w'.heap[k]? = w.heap[k]? := fun hg hold => by
    have hrun := run_append_grow_src (P := Tryz.prog) w 29 29 ty 3 i0 _ Tryz.underlying29 hi0 hz0 ao l.length cap (ints l) hold _ m (ints news) hs hg (by omega) (growslice_fits hg (by rw [hz2]; omega))
    have hge := grownCap_ge w (l.length + m) cap 3
    have hcm := grownCap_le_maxLen w (l.length + m) cap 3 (by omega)
    have hsz : ((ints l ++ ints news).toArray ++ Builtin.zeroCells (Value.int .i64 0).cells (grownCap w (l.length + m) cap 3 - (l.length + m))).size = grownCap w (l.length + m) cap 3 := by
      rw [Array.size_append, List.size_toArray, List.length_append, ints_len, ints_len, hm1, size_zeroCells]
      show l.length + m + (_ - (l.length + m)) * 1 = _
      omega
    have e1 : ∀ j, (w.drew.alloc (.cells ((ints l ++ ints news).toArray ++ Builtin.zeroCells (Value.int .i64 0).cells (grownCap w (l.length + m) cap 3 - (l.length + m))) 3)).cell? ⟨w.heap.size, j, none⟩ = _ := fun j => World.cell?_alloc_new w.drew _ _ j
    refine ⟨_, _, hrun, ⟨some ⟨w.heap.size, 0, none⟩, w.heap.size, 0, _, by rw [hll], by rw [hll]; exact hge, hcm, fun _ => rfl, fun _ => by simp, fun _ => hp _ (Nat.le_refl _), fun j u hu => ?_, fun j hj => ?_⟩, rfl, rfl, rfl, by simp, fun k hk _ => Below.heap_alloc w.drew _ k hk⟩
    · rw [Nat.zero_add, e1 j]
      rw [ints_append] at hu
      have hj := (List.getElem?_eq_some_iff.1 hu).1
      rw [Array.getElem?_append_left (by simpa using hj), List.getElem?_toArray]
      exact hu
    · rw [Nat.zero_add, e1 j]
      refine ⟨?_, World.frozen?_alloc_new w.drew _ _ j⟩
      rw [Array.getElem?_eq_getElem (by rw [hsz]; exact hj)]
      rfl
  rcases Nat.eq_zero_or_pos cap with h0 | hcap
  · subst h0
    have hl0 : l = [] := List.eq_nil_of_length_eq_zero (by have := h.le; omega)
    subst hl0
    rcases Nat.eq_zero_or_pos m with hm0 | hm0
    · subst hm0
      have hn0 := List.eq_nil_of_length_eq_zero hm1
      subst hn0
      exact ⟨_, w, run_append_nothing (P := Tryz.prog) w 29 29 ty 3 i0 Tryz.underlying29 hi0 ao 0 0 (Nat.le_refl _) _ hs, ⟨ao, b, off, 0, rfl, h⟩, rfl, rfl, rfl, Nat.le_refl _, fun _ _ _ => rfl⟩
    · refine grow (by show 0 < 0 + m; omega) ?_
      cases ao with
      | none => exact run_firstCells_none w.drew i0.size 0 0 0
      | some a' => exact run_firstCells_some w.drew i0.size 0 a' 0 0 [] (by simp) (by intro _ _ h'; simp at h')
  · have hao := h.addr hcap
    subst hao
    by_cases hfit : l.length + m ≤ cap
    · have hsome : ∀ j, j < (ints news).length → (w.cell? ⟨b, off + l.length * i0.size + j, none⟩).isSome = true := fun j hj => by
        rw [ints_len] at hj
        rw [hz1, Nat.mul_one, Nat.add_assoc]
        exact (h.there (l.length + j) (by omega)).1
      have hrun := run_append_room_src (P := Tryz.prog) w 29 29 ty 3 i0 Tryz.underlying29 hi0 b off l.length cap _ m (ints news) hs hfit hsome (fun j hj => by
        rw [ints_len] at hj
        rw [hz1, Nat.mul_one, Nat.add_assoc]
        exact (h.there (l.length + j) (by omega)).2)
      rw [hz1, Nat.mul_one] at hrun hsome
      have hbl := h.lt hcap
      have hszs : (w.setCells b (off + l.length) (ints news)).heap.size = w.heap.size := (setCells_same b (ints news) (off + l.length) w).1
      refine ⟨_, _, hrun, ⟨some ⟨b, off, none⟩, b, off, cap, by rw [hll], by rw [hll]; exact hfit, h.max, fun _ => rfl, fun _ => by rw [hszs]; exact hbl, h.own, fun j u hu => ?_, fun j hj => ?_⟩, World.os_setCells _ _ _ _, (setCells_same b (ints news) (off + l.length) w).2, World.output_setCells _ _ _ _, by rw [hszs]; exact Nat.le_refl _, fun k hk hpk => World.heap_setCells_other w b _ _ hk (fun e => hpk (e ▸ h.own hcap))⟩
      · rw [ints_append] at hu
        by_cases hj : j < l.length
        · rw [World.cell?_setCells_out b _ _ _ _ (fun _ _ => Or.inl (by show off + j < off + l.length; omega))]
          exact h.holds j u (by rw [List.getElem?_append_left (by rw [ints_len]; exact hj)] at hu; exact hu)
        · have hj2 := (List.getElem?_eq_some_iff.1 hu).1
          rw [List.length_append, ints_len, ints_len] at hj2
          have h7 := World.cell?_setCells_in b (ints news) (off + l.length) w hsome (j - l.length) (by rw [ints_len]; omega)
          rw [show off + l.length + (j - l.length) = off + j by omega] at h7
          rw [h7]
          rw [List.getElem?_append_right (by rw [ints_len]; omega), ints_len] at hu
          rw [List.getElem?_eq_some_iff] at hu
          obtain ⟨_, hu⟩ := hu
          rw [hu]
      · refine ⟨?_, by rw [World.frozen?_setCells]; exact (h.there j hj).2⟩
        by_cases hin : l.length ≤ j ∧ j < l.length + m
        · have h7 := World.cell?_setCells_in b (ints news) (off + l.length) w hsome (j - l.length) (by rw [ints_len]; omega)
          rw [show off + l.length + (j - l.length) = off + j by omega] at h7
          rw [h7]
          rfl
        · rw [World.cell?_setCells_out b _ _ _ _ (fun _ _ => by show off + j < off + l.length ∨ off + l.length + (ints news).length ≤ off + j; rw [ints_len]; omega)]
          exact (h.there j hj).1
    · refine grow (by omega) ?_
      refine run_firstCells_some w.drew i0.size l.length ⟨b, off, none⟩ l.length cap (ints l) (by rw [hz1, ints_len]; omega) (fun j u hu => ?_)
      rw [lit_add]
      exact h.holds j u hu
end
def rowF (n : Nat) (f : Nat → Bool) : List Value := (List.range n).map fun k => .bool (f k)
theorem rowF_len (n : Nat) (f : Nat → Bool) : (rowF n f).length = n := by simp [rowF]
theorem rowF_at {n k : Nat} (f : Nat → Bool) (h : k < n) : (rowF n f)[k]? = some (.bool (f k)) := by
  unfold rowF
  rw [List.getElem?_map, List.getElem?_range h]
  rfl
theorem rowF_cell {w : World} {g n k : Nat} {f : Nat → Bool} (h : w.heap[g]? = some (.cells (rowF n f).toArray 4 (0, 0))) (hk : k < n) : w.cell? ⟨g, k, none⟩ = some (.bool (f k)) := by
  rw [Lib.cell_of_heap h]
  simpa using rowF_at f hk
theorem rowF_set {w : World} {g n k : Nat} {f f' : Nat → Bool} (h : w.heap[g]? = some (.cells (rowF n f).toArray 4 (0, 0))) (hf : ∀ j, j < n → f' j = (f j || decide (j = k))) : (w.setCell ⟨g, k, none⟩ (.bool true)).heap[g]? = some (.cells (rowF n f').toArray 4 (0, 0)) := by
  have h1 : (rowF n f).toArray.setIfInBounds k (.bool true) = (rowF n f').toArray := by
    apply Array.ext_getElem?
    intro j
    rw [Array.getElem?_setIfInBounds, List.getElem?_toArray, List.getElem?_toArray, List.size_toArray, rowF_len]
    by_cases hj : j < n
    · rw [rowF_at f hj, rowF_at f' hj, hf j hj]
      by_cases e : k = j
      · subst e
        simp [hj]
      · rw [if_neg e]
        simp [show ¬ j = k from fun h => e h.symm]
    · rw [List.getElem?_eq_none (by rw [rowF_len]; omega), List.getElem?_eq_none (by rw [rowF_len]; omega)]
      by_cases e : k = j
      · subst e; simp [hj]
      · rw [if_neg e]
  simp [World.setCell, Array.getElem?_modify, h]
  simpa using h1
end Go.Proofs.YtpijfiaecicpfaaGreat
