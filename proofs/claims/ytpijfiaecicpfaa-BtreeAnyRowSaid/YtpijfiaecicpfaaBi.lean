/-
  The nodes of an index, listed: Index; what 'known' of the statements asks.
-/
import Derived.Test.YtpijfiaecicpfaaBf
import Derived.Test.YtpijfiaecicpfaaBe
import Derived.Laws.Rows
namespace Go.Proofs.Ytpijfiaecicpfaa
open Go.RowKit Go.Shelf Go.MuLone
set_option linter.unusedVariables false
set_option linter.unusedSimpArgs false
/-! ### Counting -/
theorem tlW_len : ∀ {l : List Te} {m : List (List Te)}, m.length = l.length → (tlW l m).length = l.length + (m.map List.length).sum
  | [], [], _ => rfl
  | x :: l, m :: ms, h => by
    rw [tlW, List.length_cons, List.length_append, tlW_len (by simpa using h), List.map_cons, List.sum_cons, List.length_cons]
    omega
  | [], _ :: _, h => by cases h
  | _ :: _, [], h => by cases h
theorem flat_len {h : Nat} {l : List Te} {ks : List BT} (hk : ks.length = l.length + 1) : (flat (h + 1) (.nd l ks)).length = l.length + ((ks.map (flat h)).map List.length).sum := by
  cases ks with
  | nil => cases hk
  | cons K ks =>
    show (flat h K ++ tlW l (ks.map (flat h))).length = _
    rw [List.length_append, tlW_len (by simpa using hk), List.map_cons, List.map_cons, List.sum_cons]
    omega
theorem sum_ge {h m : Nat} : ∀ {ks : List BT}, (∀ k ∈ ks, m ≤ (flat h k).length) → ks.length * m ≤ ((ks.map (flat h)).map List.length).sum
  | [], _ => by simp
  | K :: ks, hk => by
    have h1 := sum_ge (ks := ks) (fun k hk2 => hk k (List.mem_cons_of_mem _ hk2))
    have h2 := hk K List.mem_cons_self
    rw [List.map_cons, List.map_cons, List.sum_cons, List.length_cons, Nat.succ_mul]
    omega
theorem flat_min : ∀ {h : Nat} {T : BT}, Shp h T → 2 ≤ T.l.length → 2 ≤ (flat h T).length
  | 0, .nd l ks, hs, h2 => h2
  | h + 1, .nd l ks, hs, h2 => by
    rw [flat_len hs.1]
    have : 2 ≤ l.length := h2
    omega
theorem kls_le {h : Nat} {F : BT → Nat → List Nx} : ∀ {ks : List BT} {s : Nat}, (∀ k ∈ ks, ∀ s, (F k s).length ≤ (flat h k).length) → (kls F ks s).length ≤ ((ks.map (flat h)).map List.length).sum
  | [], s, _ => by simp [kls]
  | K :: ks, s, hk => by
    have h1 := kls_le (ks := ks) (s := s + (F K s).length) (fun k hk2 => hk k (List.mem_cons_of_mem _ hk2))
    have h2 := hk K List.mem_cons_self s
    rw [kls, List.length_append, List.map_cons, List.map_cons, List.sum_cons]
    omega
/-- A node lists no more nodes than it has entries. -/
theorem lst_le : ∀ {h : Nat} {T : BT}, Shp h T → ∀ s, (lst h T s).length ≤ (flat h T).length + 1 ∧ (2 ≤ T.l.length → (lst h T s).length ≤ (flat h T).length)
  | 0, .nd l ks, hs, s => by
    refine ⟨?_, fun h2 => ?_⟩
    · show 1 ≤ _; omega
    · have : 2 ≤ l.length := h2
      show 1 ≤ l.length; omega
  | h + 1, .nd l ks, hs, s => by
    have hk := kls_le (h := h) (F := lst h) (ks := ks) (s := s + 1) (fun k hk s => (lst_le (hs.2 k hk).2.2 s).2 (hs.2 k hk).1)
    have e : (lst (h + 1) (.nd l ks) s).length = (kls (lst h) ks (s + 1)).length + 1 := rfl
    rw [e, flat_len hs.1]
    refine ⟨by omega, fun h2 => ?_⟩
    have : 2 ≤ l.length := h2
    omega
theorem lst0 (T : BT) (s : Nat) : (lst 0 T s).length = 1 := by cases T; rfl
/-- Five entries make two kids. -/
theorem five {h : Nat} {T : BT} (hs : Shp h T) (h4 : T.l.length ≤ 4) (h1 : h ≠ 0 → 1 ≤ T.l.length) (h5 : (flat h T).length = 5) : ∃ x b c, lst h T 0 = [x, b, c] ∧ x.keys.length = 1 ∧ x.kids.length = 2 := by
  obtain ⟨l, ks⟩ := T
  have h4' : l.length ≤ 4 := h4
  cases h with
  | zero =>
    have : l.length = 5 := h5
    omega
  | succ h =>
    have h1' : 1 ≤ l.length := h1 (by omega)
    have hk := hs.1
    rw [flat_len hk] at h5
    have hm := sum_ge (h := h) (m := 2) (ks := ks) (fun k hk2 => flat_min (hs.2 k hk2).2.2 (hs.2 k hk2).1)
    have hl1 : l.length = 1 := by omega
    have hk2 : ks.length = 2 := by omega
    cases h with
    | zero =>
      obtain ⟨K1, K2, rfl⟩ : ∃ K1 K2, ks = [K1, K2] := by
        match ks, hk2 with
        | [a, b], _ => exact ⟨a, b, rfl⟩
      obtain ⟨l1, k1⟩ := K1
      obtain ⟨l2, k2⟩ := K2
      exact ⟨_, _, _, rfl, by simp [hl1], rfl⟩
    | succ h =>
      have hm2 := sum_ge (h := h + 1) (m := 8) (ks := ks) (fun k hk2 => by
        obtain ⟨q1, q2, q3⟩ := hs.2 k hk2
        obtain ⟨l', ks'⟩ := k
        have q1' : 2 ≤ l'.length := q1
        rw [flat_len q3.1]
        have := sum_ge (h := h) (m := 2) (ks := ks') (fun k hk3 => flat_min (q3.2 k hk3).2.2 (q3.2 k hk3).1)
        have := q3.1
        omega)
      omega
theorem listed_any : ∀ (h p : Nat) (T : BT) (f : Nat → Nat) (w : World) (B : Nat) (v : Value) (xs : List Nx) (vs : List V3) (g : Nat → Nat), TN w h p T f → Shp h T → T.l.length ≤ 4 → B ≤ w.heap.size → w.ownsRow B 69 3 v xs.length (rowsV vs) → NL w B vs xs g → (∀ a, ob v a + g a ≤ 1) → (∀ a, 0 < ob v a + g a → f a = 0) → xs.length + (lst h T xs.length).length ≤ 1000000 → Calls Try.prog 72 #[.pointer (some ⟨p, 0, none⟩), v] w fun e w2 => ∃ v', e = .returned (.tuple #[v', .int .i64 xs.length]) ∧ LI (fun a => ob v a + g a) w w2 B v' (xs ++ lst h T xs.length) := by
  intro h
  induction h with
  | zero =>
    intro p T f w B v xs vs g hT hs h4 hB hown hnl hd hz hn
    obtain ⟨l, ks⟩ := T
    obtain ⟨hk, lv, kv, e1, e2, e3, e4⟩ := hT
    have h4' : l.length ≤ 4 := h4
    exact listed_step 0 (fun _ _ => []) [] (fun q K fk w' B v xs vs g hK => by cases hK) p l [] lv kv (fun _ => 0) w B v xs vs g e1 e2 e3 (fun _ => rfl) hB hown hnl hd (fun a ha => by have h9 := hz a ha; rw [e4 a] at h9; show one1 p a + ob lv a + ob kv a + 0 = 0; omega) hn (by omega) (by simp)
  | succ h ih =>
    intro p T f w B v xs vs g hT hs h4 hB hown hnl hd hz hn
    obtain ⟨l, ks⟩ := T
    obtain ⟨lv, kv, ps, gk, e1, e2, e3, e5, e4⟩ := hT
    have h4' : l.length ≤ 4 := h4
    have hk := hs.1
    exact listed_step h (lst h) ks (fun q K fk w' B v xs vs g hK hT => ih q K fk w' B v xs vs g hT (hs.2 K hK).2.2 (hs.2 K hK).2.1) p l ps lv kv gk w B v xs vs g e1 e2 e3 e5 hB hown hnl hd (fun a ha => by have h9 := hz a ha; rw [e4 a] at h9; exact h9) hn (by omega) (by omega)
/-- A listed index in memory. -/
def IX (B : Nat) (w : World) (v : Value) (xs : List Nx) : Prop := ∃ vs g, w.ownsRow B 69 3 v xs.length (rowsV vs) ∧ NL w B vs xs g ∧ ∀ a, ob v a + g a ≤ 1
theorem IX.ext {B : Nat} {w w' : World} {v : Value} {xs : List Nx} (h : IX B w v xs) (hx : Ext w w') : IX B w' v xs := by
  obtain ⟨vs, g, h1, h2, h3⟩ := h
  exact ⟨vs, g, hx.own h1, h2.frame (f := fun _ => 0) (FR.of_ext hx) (fun _ _ => rfl), h3⟩
/-- The rows of a listed index lie from B on: a cell ahead of B may turn. -/
theorem NL.set {B : Nat} {w : World} {b j : Nat} {u : Value} (hb : b < B) : ∀ {vs : List V3} {xs : List Nx} {g : Nat → Nat}, NL w B vs xs g → NL (w.setCell ⟨b, j, none⟩ u) B vs xs g
  | [], [], g, h => h
  | v :: vs, x :: xs, g, ⟨f1, f2, ⟨h1, h2, h3, h4⟩, h5, h6⟩ => ⟨f1, f2, ⟨own_set h1 (fun e => by have := own_freshB h1 _ e; omega) _ _, own_set h2 (fun e => by have := own_freshB h2 _ e; omega) _ _, own_set h3 (fun e => by have := own_freshB h3 _ e; omega) _ _, h4⟩, NL.set hb h5, h6⟩
  | [], _ :: _, g, h => h.elim
  | _ :: _, [], g, h => h.elim
theorem NL.base {w : World} {B B' : Nat} (hb : B' ≤ B) : ∀ {vs : List V3} {xs : List Nx} {g : Nat → Nat}, NL w B vs xs g → NL w B' vs xs g
  | [], [], g, h => h
  | v :: vs, x :: xs, g, ⟨f1, f2, ⟨h1, h2, h3, h4⟩, h5, h6⟩ => ⟨f1, f2, ⟨own_baseK h1 hb, own_baseK h2 hb, own_baseK h3 hb, h4⟩, NL.base hb h5, h6⟩
  | [], _ :: _, g, h => h.elim
  | _ :: _, [], g, h => h.elim
theorem set_comm {w : World} {a b i j : Nat} {u v : Value} (h : a ≠ b) : (w.setCell ⟨a, i, none⟩ u).setCell ⟨b, j, none⟩ v = (w.setCell ⟨b, j, none⟩ v).setCell ⟨a, i, none⟩ u := by
  simp only [World.setCell]
  congr 1
  apply Array.ext_getElem?
  intro k
  simp only [Array.getElem?_modify]
  by_cases h1 : b = k <;> by_cases h2 : a = k
  · exact absurd (h2.trans h1.symm) h
  · simp [h1, h2]
  · simp [h1, h2]
  · simp [h1, h2]
theorem IX.set {B : Nat} {w : World} {v : Value} {xs : List Nx} {b j : Nat} {u : Value} (h : IX B w v xs) (hb : b < B) : IX B (w.setCell ⟨b, j, none⟩ u) v xs := by
  obtain ⟨vs, g, h1, h2, h3⟩ := h
  exact ⟨vs, g, own_set h1 (fun e => by have := own_freshB h1 _ e; omega) _ _, h2.set hb, h3⟩
set_option maxRecDepth 100000 in
set_option maxHeartbeats 4000000 in
theorem Index_nil (w : World) : Calls Try.prog 38 #[.pointer none] w (Give (.agg #[.slice none 0 0]) w) := by
  have hg := heap_alloc_new w (.cells #[.slice none 0 0] 37)
  have hx := hid ((Ext.refl w).alloc_right (.cells #[.slice none 0 0] 37))
  go_enter_defers Try.func38, Try.ntmps38
  go_wp2
  exact ⟨_, results_cell_row rfl _ _ w.heap.size 37 #[.slice none 0 0] (0, 0) _ rfl hg Try.underlying37 rfl (by kernel_rfl), rfl, hx.out⟩
set_option maxRecDepth 100000 in
set_option maxHeartbeats 4000000 in
theorem Index_any (t : Nat) (L : List Te) (h p : Nat) (T : BT) (fT : Nat → Nat) (w : World) (H : TreeAt 0 w t L h p T fT) : Calls Try.prog 38 #[.pointer (some ⟨t, 0, none⟩)] w fun e w' => ∃ v, e = .returned (.agg #[v]) ∧ IX w.heap.size w' v (lst h T 0) ∧ Ext w w' := by
  have hlt := hid H.lt
  have hg0 := heap_alloc_new w (.cells #[.slice none 0 0] 37)
  have hx0 := hid ((Ext.refl w).alloc_right (.cells #[.slice none 0 0] 37))
  have hs0 : (w.alloc (.cells #[.slice none 0 0] 37)).heap.size = w.heap.size + 1 := World.size_alloc _ _
  replace H := H.ext hx0.out
  go_enter_defers Try.func38, Try.ntmps38
  go_upto_region 1 with fail
  obtain ⟨b, hbe⟩ : ∃ b, b = w.heap.size := ⟨_, rfl⟩
  rw [← hbe] at hg0 hs0 hlt
  simp only [← hbe]
  replace hbe := hid hbe
  generalize w.alloc (.cells #[.slice none 0 0] 37) = w0 at *
  replace hs0 := hid hs0
  have c0 := H.c0
  have f0 := H.free 0
  have h1 := hid (H.lock 1)
  have hnil : ∀ a, ob (.slice none 0 0) a = 0 := fun a => if_neg (by intro e; cases e)
  have hA := hid (listed_any h p T fT (w0.setCell ⟨t, 0, none⟩ (.int .i32 1)) (b + 1) (.slice none 0 0) [] [] (fun _ => 0) h1.out.tn h1.out.sh h1.out.l4 (by simp [hs0.out]) (World.ownsRow_nil _ _ _ _) (fun _ => rfl) (fun a => by rw [hnil a]; decide) (fun a ha => by rw [hnil a] at ha; omega) (by
    have h2 := (lst_le h1.out.sh 0).1
    rw [h1.out.fl] at h2
    have := h1.out.le
    show 0 + (lst h T 0).length ≤ 1000000
    omega))
  rw [List.nil_append] at hA
  have hb := hid (fun w' (hx : Ext (w0.setCell ⟨t, 0, none⟩ (.int .i32 1)) w') => H.back hx)
  have c2 := h1.out.c2
  have l1 : t < (w0.setCell ⟨t, 0, none⟩ (.int .i32 1)).heap.size := by simpa using H.lt
  have hg1 : Hid ((w0.setCell ⟨t, 0, none⟩ (.int .i32 1)).heap[b]? = some (.cells #[.slice none 0 0] 37 (0, 0))) := heap_set_other hg0 (by have := hlt.out; omega) _ _
  replace hnil := hid hnil
  clear H hg0
  go_wp2_with (go_at_call 59; refine (lock_free muLib ⟨t, 0, none⟩ _ c0 f0).mono ?_; rintro e w' ⟨rfl, rfl⟩)
  generalize w0.setCell ⟨t, 0, none⟩ (.int .i32 1) = w1 at *
  go_wp2_with fail
  refine hA.out.mono ?_
  rintro e w2 ⟨v, rfl, vs, g, hL⟩
  have hx2 := Ext.of_FR hL.fr (fun a _ => by rw [hnil.out a])
  have hI : Hid (IX (b + 1) w2 v (lst h T 0)) := ⟨vs, g, hL.own, hL.nl, hL.dis⟩
  obtain ⟨Av, cv, rfl, -⟩ := own_form hL.own
  have hb2 := (hx2.block (Array.getElem?_eq_some_iff.1 hg1.out).1).trans hg1.out
  have zb2 := Lib.frozen_of_heap hb2 0
  have cb2 : w2.cell? ⟨b, 0, none⟩ = some (.slice none 0 0) := by rw [Lib.cell_of_heap hb2]; rfl
  have lb2 := (Array.getElem?_eq_some_iff.1 hb2).1
  have hne : (⟨b, 0, none⟩ : Addr) ≠ ⟨t, 0, none⟩ := fun e => by injection e with e; have := hlt.out; omega
  have htb : t ≠ b := by have := hlt.out; omega
  have k0 := hid (set_keep (p := ⟨b, 0, none⟩) (v := .slice Av (lst h T 0).length cv) (hx2.cell h1.out.c0) hne)
  have kf : Hid ((w2.setCell ⟨b, 0, none⟩ (.slice Av (lst h T 0).length cv)).frozen? ⟨t, 0, none⟩ = false) := by
    unfold Hid
    rw [World.frozen?_setCell]
    exact (hx2.frozen (p := ⟨t, 0, none⟩) l1).trans (h1.out.free 0)
  have hx3 := hid (hb.out w2 hx2)
  have hI2 : Hid (IX w.heap.size ((w2.setCell ⟨b, 0, none⟩ (.slice Av (lst h T 0).length cv)).setCell ⟨t, 0, none⟩ (.int .i32 0)) (.slice Av (lst h T 0).length cv) (lst h T 0)) := by
    obtain ⟨vs9, g9, a1, a2, a3⟩ := (hI.out.set (b := b) (j := 0) (u := .slice Av (lst h T 0).length cv) (by omega)).set (b := t) (j := 0) (u := .int .i32 0) (by have := hlt.out; omega)
    exact ⟨vs9, g9, own_baseK a1 (by have := hbe.out; omega), NL.base (by have := hbe.out; omega) a2, a3⟩
  have hblk : Hid (((w2.setCell ⟨b, 0, none⟩ (.slice Av (lst h T 0).length cv)).setCell ⟨t, 0, none⟩ (.int .i32 0)).heap[b]? = some (.cells #[.slice Av (lst h T 0).length cv] 37 (0, 0))) := by
    refine heap_set_other ?_ htb _ _
    simp [World.setCell, Array.getElem?_modify, hb2]
  have hx4 : Hid (Ext w ((w2.setCell ⟨b, 0, none⟩ (.slice Av (lst h T 0).length cv)).setCell ⟨t, 0, none⟩ (.int .i32 0))) := by
    have h5 := (hx0.out.trans hx3.out).set (p := ⟨b, 0, none⟩) (by show w.heap.size ≤ b; have := hbe.out; omega) (.slice Av (lst h T 0).length cv)
    rw [set_comm htb] at h5
    exact h5
  clear hL hx2 hI hb2
  go_wp2
  refine leaves_cons (f := 60) (args := #[.pointer (some ⟨t, 0, none⟩)]) (by simp) (by simp [go_sem]) ?_
  refine (unlock_deferred muLib ⟨t, 0, none⟩ .returning _ k0.out kf.out).mono ?_
  rintro e u' w'' ⟨rfl, rfl, rfl⟩
  exact ⟨_, results_cell_row rfl _ _ b 37 _ (0, 0) _ rfl hblk.out Try.underlying37 rfl (by kernel_rfl), _, rfl, hI2.out, hx4.out⟩
end Go.Proofs.Ytpijfiaecicpfaa
