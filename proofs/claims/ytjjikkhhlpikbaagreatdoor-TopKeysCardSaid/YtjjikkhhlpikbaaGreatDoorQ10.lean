/-
  An index as nodes in memory, read; the reference's small functions; Places of keys; At, Seek, Prev, Next, between and Count of an index; Range: the first entries between two keys; The entries between two keys; Count; The methods of no index; The nodes of an index, listed: Index; what 'known' of the statements asks; Two rows that grow side by side, of texts and of numbers; What 'known' of the statements asks; slices.Equal of entries; whether two indexes are the same.
-/
import Derived.Test.YtjjikkhhlpikbaaGreatDoorQ9
import Derived.Test.YtjjikkhhlpikbaaGreatDoorQ8
import Derived.Laws.Rows
import Derived.Test.YtjjikkhhlpikbaaGreatDoorQ7
import Derived.Test.YtjjikkhhlpikbaaGreatDoorQ6
import Derived.Maps.AppendAt
import Derived.Laws.StructEq
set_option maxRecDepth 100000
set_option maxHeartbeats 40000000
set_option linter.unusedVariables false
set_option linter.unusedSimpArgs false
namespace Go.Proofs.YtjjikkhhlpikbaaGreatDoor
open Go.RowKit Go.Shelf Go.MuLone
theorem tlW_len : ∀ {l : List Te} {m : List (List Te)}, m.length = l.length → (tlW l m).length = l.length + (m.map List.length).sum
  | [], [], _ => rfl
  | x :: l, m :: ms, h => by
    rw [tlW, List.length_cons, List.length_append, tlW_len (by simpa using h), List.map_cons, List.sum_cons, List.length_cons]
    omega
  | [], _ :: _, h => by cases h
  | _ :: _, [], h => by cases h
theorem flat_len {h : Nat} {l : List Te} {ks : List BT} (hk : ks.length = l.length + 1) : (flat (h + 1) (.nd l ks)).length = l.length + ((ks.map (flat h)).map List.length).sum := by
  cases ks with
  | nil => cases hk
  | cons K ks =>
    show (flat h K ++ tlW l (ks.map (flat h))).length = _
    rw [List.length_append, tlW_len (by simpa using hk), List.map_cons, List.map_cons, List.sum_cons]
    omega
theorem sum_ge {h m : Nat} : ∀ {ks : List BT}, (∀ k ∈ ks, m ≤ (flat h k).length) → ks.length * m ≤ ((ks.map (flat h)).map List.length).sum
  | [], _ => by simp
  | K :: ks, hk => by
    have h1 := sum_ge (ks := ks) (fun k hk2 => hk k (List.mem_cons_of_mem _ hk2))
    have h2 := hk K List.mem_cons_self
    rw [List.map_cons, List.map_cons, List.sum_cons, List.length_cons, Nat.succ_mul]
    omega
theorem flat_min : ∀ {h : Nat} {T : BT}, Shp h T → 2 ≤ T.l.length → 2 ≤ (flat h T).length
  | 0, .nd l ks, hs, h2 => h2
  | h + 1, .nd l ks, hs, h2 => by
    rw [flat_len hs.1]
    have : 2 ≤ l.length := h2
    omega
theorem kls_le {h : Nat} {F : BT → Nat → List Nx} : ∀ {ks : List BT} {s : Nat}, (∀ k ∈ ks, ∀ s, (F k s).length ≤ (flat h k).length) → (kls F ks s).length ≤ ((ks.map (flat h)).map List.length).sum
  | [], s, _ => by simp [kls]
  | K :: ks, s, hk => by
    have h1 := kls_le (ks := ks) (s := s + (F K s).length) (fun k hk2 => hk k (List.mem_cons_of_mem _ hk2))
    have h2 := hk K List.mem_cons_self s
    rw [kls, List.length_append, List.map_cons, List.map_cons, List.sum_cons]
    omega
theorem lst_le : ∀ {h : Nat} {T : BT}, Shp h T → ∀ s, (lst h T s).length ≤ (flat h T).length + 1 ∧ (2 ≤ T.l.length → (lst h T s).length ≤ (flat h T).length)
  | 0, .nd l ks, hs, s => by
    refine ⟨?_, fun h2 => ?_⟩
    · show 1 ≤ _; omega
    · have : 2 ≤ l.length := h2
      show 1 ≤ l.length; omega
  | h + 1, .nd l ks, hs, s => by
    have hk := kls_le (h := h) (F := lst h) (ks := ks) (s := s + 1) (fun k hk s => (lst_le (hs.2 k hk).2.2 s).2 (hs.2 k hk).1)
    have e : (lst (h + 1) (.nd l ks) s).length = (kls (lst h) ks (s + 1)).length + 1 := rfl
    rw [e, flat_len hs.1]
    refine ⟨by omega, fun h2 => ?_⟩
    have : 2 ≤ l.length := h2
    omega
theorem five {h : Nat} {T : BT} (hs : Shp h T) (h4 : T.l.length ≤ 4) (h1 : h ≠ 0 → 1 ≤ T.l.length) (h5 : (flat h T).length = 5) : ∃ x b c, lst h T 0 = [x, b, c] ∧ x.keys.length = 1 ∧ x.kids.length = 2 := by
  obtain ⟨l, ks⟩ := T
  have h4' : l.length ≤ 4 := h4
  cases h with
  | zero =>
    have : l.length = 5 := h5
    omega
  | succ h =>
    have h1' : 1 ≤ l.length := h1 (by omega)
    have hk := hs.1
    rw [flat_len hk] at h5
    have hm := sum_ge (h := h) (m := 2) (ks := ks) (fun k hk2 => flat_min (hs.2 k hk2).2.2 (hs.2 k hk2).1)
    have hl1 : l.length = 1 := by omega
    have hk2 : ks.length = 2 := by omega
    cases h with
    | zero =>
      obtain ⟨K1, K2, rfl⟩ : ∃ K1 K2, ks = [K1, K2] := by
        match ks, hk2 with
        | [a, b], _ => exact ⟨a, b, rfl⟩
      obtain ⟨l1, k1⟩ := K1
      obtain ⟨l2, k2⟩ := K2
      exact ⟨_, _, _, rfl, by simp [hl1], rfl⟩
    | succ h =>
      have hm2 := sum_ge (h := h + 1) (m := 8) (ks := ks) (fun k hk2 => by
        obtain ⟨q1, q2, q3⟩ := hs.2 k hk2
        obtain ⟨l', ks'⟩ := k
        have q1' : 2 ≤ l'.length := q1
        rw [flat_len q3.1]
        have := sum_ge (h := h) (m := 2) (ks := ks') (fun k hk3 => flat_min (q3.2 k hk3).2.2 (q3.2 k hk3).1)
        have := q3.1
        omega)
      omega
theorem listed_any : ∀ (h p : Nat) (T : BT) (f : Nat → Nat) (w : World) (B : Nat) (v : Value) (xs : List Nx) (vs : List V3) (g : Nat → Nat), TN w h p T f → Shp h T → T.l.length ≤ 4 → B ≤ w.heap.size → w.ownsRow B 113 3 v xs.length (rowsV vs) → NL w B vs xs g → (∀ a, ob v a + g a ≤ 1) → (∀ a, 0 < ob v a + g a → f a = 0) → xs.length + (lst h T xs.length).length ≤ 1000000 → Calls Tryz.prog 62 #[.pointer (some ⟨p, 0, none⟩), v] w fun e w2 => ∃ v', e = .returned (.tuple #[v', .int .i64 xs.length]) ∧ LI (fun a => ob v a + g a) w w2 B v' (xs ++ lst h T xs.length) := by
  intro h
  induction h with
  | zero =>
    intro p T f w B v xs vs g hT hs h4 hB hown hnl hd hz hn
    obtain ⟨l, ks⟩ := T
    obtain ⟨hk, lv, kv, e1, e2, e3, e4⟩ := hT
    have h4' : l.length ≤ 4 := h4
    exact listed_step 0 (fun _ _ => []) [] (fun q K fk w' B v xs vs g hK => by cases hK) p l [] lv kv (fun _ => 0) w B v xs vs g e1 e2 e3 (fun _ => rfl) hB hown hnl hd (fun a ha => by have h9 := hz a ha; rw [e4 a] at h9; show one1 p a + ob lv a + ob kv a + 0 = 0; omega) hn (by omega) (by simp)
  | succ h ih =>
    intro p T f w B v xs vs g hT hs h4 hB hown hnl hd hz hn
    obtain ⟨l, ks⟩ := T
    obtain ⟨lv, kv, ps, gk, e1, e2, e3, e5, e4⟩ := hT
    have h4' : l.length ≤ 4 := h4
    have hk := hs.1
    exact listed_step h (lst h) ks (fun q K fk w' B v xs vs g hK hT => ih q K fk w' B v xs vs g hT (hs.2 K hK).2.2 (hs.2 K hK).2.1) p l ps lv kv gk w B v xs vs g e1 e2 e3 e5 hB hown hnl hd (fun a ha => by have h9 := hz a ha; rw [e4 a] at h9; exact h9) hn (by omega) (by omega)
def IX (B : Nat) (w : World) (v : Value) (xs : List Nx) : Prop := ∃ vs g, w.ownsRow B 113 3 v xs.length (rowsV vs) ∧ NL w B vs xs g ∧ ∀ a, ob v a + g a ≤ 1
theorem IX.ext {B : Nat} {w w' : World} {v : Value} {xs : List Nx} (h : IX B w v xs) (hx : Ext w w') : IX B w' v xs := by
  obtain ⟨vs, g, h1, h2, h3⟩ := h
  exact ⟨vs, g, hx.own h1, h2.frame (f := fun _ => 0) (FR.of_ext hx) (fun _ _ => rfl), h3⟩
theorem NL.set {B : Nat} {w : World} {b j : Nat} {u : Value} (hb : b < B) : ∀ {vs : List V3} {xs : List Nx} {g : Nat → Nat}, NL w B vs xs g → NL (w.setCell ⟨b, j, none⟩ u) B vs xs g
  | [], [], g, h => h
  | v :: vs, x :: xs, g, ⟨f1, f2, ⟨h1, h2, h3, h4⟩, h5, h6⟩ => ⟨f1, f2, ⟨own_set h1 (fun e => by have := own_freshB h1 _ e; omega) _ _, own_set h2 (fun e => by have := own_freshB h2 _ e; omega) _ _, own_set h3 (fun e => by have := own_freshB h3 _ e; omega) _ _, h4⟩, NL.set hb h5, h6⟩
  | [], _ :: _, g, h => h.elim
  | _ :: _, [], g, h => h.elim
theorem NL.base {w : World} {B B' : Nat} (hb : B' ≤ B) : ∀ {vs : List V3} {xs : List Nx} {g : Nat → Nat}, NL w B vs xs g → NL w B' vs xs g
  | [], [], g, h => h
  | v :: vs, x :: xs, g, ⟨f1, f2, ⟨h1, h2, h3, h4⟩, h5, h6⟩ => ⟨f1, f2, ⟨own_baseK h1 hb, own_baseK h2 hb, own_baseK h3 hb, h4⟩, NL.base hb h5, h6⟩
  | [], _ :: _, g, h => h.elim
  | _ :: _, [], g, h => h.elim
theorem set_comm {w : World} {a b i j : Nat} {u v : Value} (h : a ≠ b) : (w.setCell ⟨a, i, none⟩ u).setCell ⟨b, j, none⟩ v = (w.setCell ⟨b, j, none⟩ v).setCell ⟨a, i, none⟩ u := by
  simp only [World.setCell]
  congr 1
  apply Array.ext_getElem?
  intro k
  simp only [Array.getElem?_modify]
  by_cases h1 : b = k <;> by_cases h2 : a = k
  · exact absurd (h2.trans h1.symm) h
  · simp [h1, h2]
  · simp [h1, h2]
  · simp [h1, h2]
theorem IX.set {B : Nat} {w : World} {v : Value} {xs : List Nx} {b j : Nat} {u : Value} (h : IX B w v xs) (hb : b < B) : IX B (w.setCell ⟨b, j, none⟩ u) v xs := by
  obtain ⟨vs, g, h1, h2, h3⟩ := h
  exact ⟨vs, g, own_set h1 (fun e => by have := own_freshB h1 _ e; omega) _ _, h2.set hb, h3⟩
theorem Index_any (t : Nat) (L : List Te) (h p : Nat) (T : BT) (fT : Nat → Nat) (w : World) (H : TreeAt 0 w t L h p T fT) : Calls Tryz.prog 33 #[.pointer (some ⟨t, 0, none⟩)] w fun e w' => ∃ v, e = .returned (.agg #[v]) ∧ IX w.heap.size w' v (lst h T 0) ∧ Ext w w' := by
  have hlt := hid H.lt
  have hg0 := heap_alloc_new w (.cells #[.slice none 0 0] 82)
  have hx0 := hid ((Ext.refl w).alloc_right (.cells #[.slice none 0 0] 82))
  have hs0 : (w.alloc (.cells #[.slice none 0 0] 82)).heap.size = w.heap.size + 1 := World.size_alloc _ _
  replace H := H.ext hx0.out
  go_enter_defers Tryz.func33, Tryz.ntmps33
  go_upto_region 1 with fail
  obtain ⟨b, hbe⟩ : ∃ b, b = w.heap.size := ⟨_, rfl⟩
  rw [← hbe] at hg0 hs0 hlt
  simp only [← hbe]
  replace hbe := hid hbe
  generalize w.alloc (.cells #[.slice none 0 0] 82) = w0 at *
  replace hs0 := hid hs0
  have c0 := H.c0
  have f0 := H.free 0
  have h1 := hid (H.lock 1)
  have hnil : ∀ a, ob (.slice none 0 0) a = 0 := fun a => if_neg (by intro e; cases e)
  have hA := hid (listed_any h p T fT (w0.setCell ⟨t, 0, none⟩ (.int .i32 1)) (b + 1) (.slice none 0 0) [] [] (fun _ => 0) h1.out.tn h1.out.sh h1.out.l4 (by simp [hs0.out]) (World.ownsRow_nil _ _ _ _) (fun _ => rfl) (fun a => by rw [hnil a]; decide) (fun a ha => by rw [hnil a] at ha; omega) (by
    have h2 := (lst_le h1.out.sh 0).1
    rw [h1.out.fl] at h2
    have := h1.out.le
    show 0 + (lst h T 0).length ≤ 1000000
    omega))
  rw [List.nil_append] at hA
  have hb := hid (fun w' (hx : Ext (w0.setCell ⟨t, 0, none⟩ (.int .i32 1)) w') => H.back hx)
  have c2 := h1.out.c2
  have l1 : t < (w0.setCell ⟨t, 0, none⟩ (.int .i32 1)).heap.size := by simpa using H.lt
  have hg1 : Hid ((w0.setCell ⟨t, 0, none⟩ (.int .i32 1)).heap[b]? = some (.cells #[.slice none 0 0] 82 (0, 0))) := heap_set_other hg0 (by have := hlt.out; omega) _ _
  replace hnil := hid hnil
  clear H hg0
  go_wp2_with (go_at_call 18; refine (lock_free muLib ⟨t, 0, none⟩ _ c0 f0).mono ?_; rintro e w' ⟨rfl, rfl⟩)
  generalize w0.setCell ⟨t, 0, none⟩ (.int .i32 1) = w1 at *
  go_wp2_with fail
  refine hA.out.mono ?_
  rintro e w2 ⟨v, rfl, vs, g, hL⟩
  have hx2 := Ext.of_FR hL.fr (fun a _ => by rw [hnil.out a])
  have hI : Hid (IX (b + 1) w2 v (lst h T 0)) := ⟨vs, g, hL.own, hL.nl, hL.dis⟩
  obtain ⟨Av, cv, rfl, -⟩ := own_form hL.own
  have hb2 := (hx2.block (Array.getElem?_eq_some_iff.1 hg1.out).1).trans hg1.out
  have zb2 := Lib.frozen_of_heap hb2 0
  have cb2 : w2.cell? ⟨b, 0, none⟩ = some (.slice none 0 0) := by rw [Lib.cell_of_heap hb2]; rfl
  have lb2 := (Array.getElem?_eq_some_iff.1 hb2).1
  have hne : (⟨b, 0, none⟩ : Addr) ≠ ⟨t, 0, none⟩ := fun e => by injection e with e; have := hlt.out; omega
  have htb : t ≠ b := by have := hlt.out; omega
  have k0 := hid (set_keep (p := ⟨b, 0, none⟩) (v := .slice Av (lst h T 0).length cv) (hx2.cell h1.out.c0) hne)
  have kf : Hid ((w2.setCell ⟨b, 0, none⟩ (.slice Av (lst h T 0).length cv)).frozen? ⟨t, 0, none⟩ = false) := by
    unfold Hid
    rw [World.frozen?_setCell]
    exact (hx2.frozen (p := ⟨t, 0, none⟩) l1).trans (h1.out.free 0)
  have hx3 := hid (hb.out w2 hx2)
  have hI2 : Hid (IX w.heap.size ((w2.setCell ⟨b, 0, none⟩ (.slice Av (lst h T 0).length cv)).setCell ⟨t, 0, none⟩ (.int .i32 0)) (.slice Av (lst h T 0).length cv) (lst h T 0)) := by
    obtain ⟨vs9, g9, a1, a2, a3⟩ := (hI.out.set (b := b) (j := 0) (u := .slice Av (lst h T 0).length cv) (by omega)).set (b := t) (j := 0) (u := .int .i32 0) (by have := hlt.out; omega)
    exact ⟨vs9, g9, own_baseK a1 (by have := hbe.out; omega), NL.base (by have := hbe.out; omega) a2, a3⟩
  have hblk : Hid (((w2.setCell ⟨b, 0, none⟩ (.slice Av (lst h T 0).length cv)).setCell ⟨t, 0, none⟩ (.int .i32 0)).heap[b]? = some (.cells #[.slice Av (lst h T 0).length cv] 82 (0, 0))) := by
    refine heap_set_other ?_ htb _ _
    simp [World.setCell, Array.getElem?_modify, hb2]
  have hx4 : Hid (Ext w ((w2.setCell ⟨b, 0, none⟩ (.slice Av (lst h T 0).length cv)).setCell ⟨t, 0, none⟩ (.int .i32 0))) := by
    have h5 := (hx0.out.trans hx3.out).set (p := ⟨b, 0, none⟩) (by show w.heap.size ≤ b; have := hbe.out; omega) (.slice Av (lst h T 0).length cv)
    rw [set_comm htb] at h5
    exact h5
  clear hL hx2 hI hb2
  go_wp2
  refine leaves_cons (f := 19) (args := #[.pointer (some ⟨t, 0, none⟩)]) (by simp) (by simp [go_sem]) ?_
  refine (unlock_deferred muLib ⟨t, 0, none⟩ .returning _ k0.out kf.out).mono ?_
  rintro e u' w'' ⟨rfl, rfl, rfl⟩
  exact ⟨_, results_cell_row rfl _ _ b 82 _ (0, 0) _ rfl hblk.out Tryz.underlying82 rfl (by kernel_rfl), _, rfl, hI2.out, hx4.out⟩
open Go.RowKit Go.Shelf
def TA (w0 w : World) (t : Nat) (L : List Te) : Prop := w0.heap.size ≤ t ∧ Ext w0 w ∧ ∃ h p T fT, TreeAt 0 w t L h p T fT ∧ ∀ a, a < w0.heap.size → fT a = 0
section
variable {w0 w w' : World} {t : Nat} {L : List Te}
theorem TA.ext (H : TA w0 w t L) (hx : Ext w w') : TA w0 w' t L := by
  obtain ⟨h1, h2, h, p, T, fT, h3, h4⟩ := H
  exact ⟨h1, h2.trans hx, h, p, T, fT, h3.ext hx, h4⟩
theorem TA.turn {h p : Nat} {T : BT} {fT : Nat → Nat} {L' : List Te} (H : TreeAt 0 w t L h p T fT) (h1 : w0.heap.size ≤ t) (hx : Ext w0 w) (h4 : ∀ a, a < w0.heap.size → fT a = 0) (ht : TreeTurned 0 w w' t fT L') : TA w0 w' t L' := by
  obtain ⟨h', p', T', f', H', k1, k2⟩ := ht
  refine ⟨h1, hx.trans' k2 (fun a ha => ?_), h', p', T', f', H', fun a ha => ?_⟩
  · show one1 t a + fT a = 0
    rw [h4 a ha, show one1 t a = 0 from if_neg (by omega)]
  · have := k1 a (Nat.lt_of_lt_of_le ha hx.size)
    have := h4 a ha
    omega
theorem TA.lt (H : TA w0 w t L) : t < w.heap.size := by
  obtain ⟨h1, h2, h, p, T, fT, h3, h4⟩ := H
  exact h3.lt
theorem TA.le (H : TA w0 w t L) : L.length ≤ 10000 := by
  obtain ⟨h1, h2, h, p, T, fT, h3, h4⟩ := H
  exact h3.le
theorem TA.sr (H : TA w0 w t L) : Srt L := by
  obtain ⟨h1, h2, h, p, T, fT, h3, h4⟩ := H
  exact h3.sr
theorem New_TA (w0 w : World) (hx : Ext w0 w) : Calls Tryz.prog 5 #[] w fun e w' => ∃ t, e = .returned (.pointer (some ⟨t, 0, none⟩)) ∧ TA w0 w' t [] ∧ Ext w w' := by
  refine (New_any w).mono ?_
  rintro e w' ⟨t, rfl, h1, h2, p, fT, h3, h4⟩
  exact ⟨t, rfl, ⟨Nat.le_trans hx.size h1, hx.trans h2, 0, p, _, fT, h3, fun a ha => h4 a (Nat.lt_of_lt_of_le ha hx.size)⟩, h2⟩
theorem Put_TA (H : TA w0 w t L) (s : ByteArray) (n : Int) : Calls Tryz.prog 8 #[.pointer (some ⟨t, 0, none⟩), .string s, .int .i64 n] w fun e w' => e = .returned (.int .i64 (putEr L ⟨s, n⟩)) ∧ TA w0 w' t (putLs L ⟨s, n⟩) := by
  obtain ⟨h1, h2, h, p, T, fT, h3, h4⟩ := H
  refine (Put_any t L h p T fT s n w h3).mono ?_
  rintro e w' ⟨rfl, ht⟩
  exact ⟨rfl, TA.turn h3 h1 h2 h4 ht⟩
theorem Len_TA (H : TA w0 w t L) : Calls Tryz.prog 30 #[.pointer (some ⟨t, 0, none⟩)] w (Give (.int .i64 L.length) w) := by
  obtain ⟨h1, h2, h, p, T, fT, h3, h4⟩ := H
  exact Len_any t L h p T fT w h3
theorem Rank_TA (H : TA w0 w t L) (s : ByteArray) (i : Int) : Calls Tryz.prog 31 #[.pointer (some ⟨t, 0, none⟩), .string s, .int .i64 i] w (Give (.int .i64 (rankT L ⟨s, i⟩)) w) := by
  obtain ⟨h1, h2, h, p, T, fT, h3, h4⟩ := H
  exact Rank_any t L h p T fT s i w h3
end
open Go.RowKit Go.Shelf
theorem told_no (A : Option Addr) (n c : Nat) (i : Int) (w : World) (h : i < 0 ∨ (n : Int) ≤ i) : Calls Tryz.prog 38 #[.slice A n c, .int .i64 i] w fun e w' => e = .returned (.tuple #[.string ⟨#[]⟩, .int .i64 0, .bool false]) ∧ w = w' := by
  by_cases h1 : i < 0
  · clear h
    go_enter Tryz.func38, Tryz.ntmps38
    go_wp2
    go_ret3
    exact ⟨rfl, rfl⟩
  · have h2 : (n : Int) ≤ i := by omega
    clear h
    go_enter Tryz.func38, Tryz.ntmps38
    go_wp2
    go_ret3
    exact ⟨rfl, rfl⟩
theorem len_toListB (s : ByteArray) : s.toList.length = s.size := by
  rw [ByteArray.toList_eq]; rfl
theorem empty_is {s : ByteArray} (h : s.toList.isEmpty = true) : s = ⟨#[]⟩ := by
  obtain ⟨⟨l⟩⟩ := s
  have : (⟨⟨l⟩⟩ : ByteArray).toList.length = 0 := by rw [List.isEmpty_iff.1 h]; rfl
  rw [len_toListB] at this
  have h2 : l.length = 0 := this
  rw [List.length_eq_zero_iff.1 h2]
open Go.RowKit Go.Shelf
def keyR (l : List Te) (s : ByteArray) : Nat := (l.takeWhile fun x => decide (cmpK x.key s < 0)).length
theorem takeWhile_at {α : Type} (p : α → Bool) : ∀ (l : List α), (l.takeWhile p).length ≤ l.length ∧ (∀ t (h : t < l.length), t < (l.takeWhile p).length → p l[t] = true) ∧ (∀ h : (l.takeWhile p).length < l.length, p l[(l.takeWhile p).length] = false)
  | [] => ⟨Nat.le_refl _, fun t h => absurd h (Nat.not_lt_zero _), fun h => absurd h (Nat.not_lt_zero _)⟩
  | a :: l => by
    obtain ⟨i1, i2, i3⟩ := takeWhile_at p l
    cases h : p a with
    | true =>
      rw [List.takeWhile_cons_of_pos h]
      refine ⟨by simp; omega, fun t ht hlt => ?_, fun hh => ?_⟩
      · cases t with
        | zero => exact h
        | succ t => exact i2 t (by simpa using ht) (by simpa using hlt)
      · exact i3 (by simpa using hh)
    | false =>
      rw [List.takeWhile_cons_of_neg (by rw [h]; decide)]
      exact ⟨Nat.zero_le _, fun t _ ht => absurd ht (Nat.not_lt_zero _), fun _ => h⟩
theorem cmpK_trans {a b c : ByteArray} (h : cmpK a b < 0) (h2 : cmpK b c < 0) : cmpK a c < 0 := cmp_trans h h2
theorem key_mono {x y : Te} {s : ByteArray} (h : cmpT x y < 0) (hx : ¬ cmpK x.key s < 0) : ¬ cmpK y.key s < 0 := by
  intro hy
  unfold cmpT at h
  by_cases h0 : cmpK x.key y.key = 0
  · rw [cmpK_zero.1 h0] at hx
    exact hx hy
  · rw [if_neg h0] at h
    exact hx (cmpK_trans h hy)
theorem keyR_cut {l : List Te} (h : Srt l) (s : ByteArray) : keyR l s ≤ l.length ∧ (∀ t, t < keyR l s → cmpK (tth l t).key s < 0) ∧ (∀ t, keyR l s ≤ t → t < l.length → ¬ cmpK (tth l t).key s < 0) := by
  obtain ⟨h1, h2, h3⟩ := takeWhile_at (fun x : Te => decide (cmpK x.key s < 0)) l
  refine ⟨h1, fun t ht => ?_, fun t ht hl => ?_⟩
  · rw [tth_get (Nat.lt_of_lt_of_le ht h1)]
    exact of_decide_eq_true (h2 t (Nat.lt_of_lt_of_le ht h1) ht)
  · have h0 : ¬ cmpK (tth l (keyR l s)).key s < 0 := by
      have hh : keyR l s < l.length := Nat.lt_of_le_of_lt ht hl
      rw [tth_get hh]
      exact of_decide_eq_false (h3 hh)
    rcases Nat.lt_or_eq_of_le ht with h4 | h4
    · exact key_mono (srt_nth h h4 hl) h0
    · rw [← h4]; exact h0
def TV : Option Te → Value
  | some x => .tuple #[.string x.key, .int .i64 x.no, .bool true]
  | none => .tuple #[.string ⟨#[]⟩, .int .i64 0, .bool false]
def atT (l : List Te) (i : Int) : Option Te := if i < 0 then none else l[i.toNat]?
theorem atT_nat (l : List Te) (k : Nat) : atT l (k : Int) = l[k]? := by unfold atT; rw [if_neg (by omega)]; rfl
def endR (L : List Te) (hi : ByteArray) : Nat := if hi = ⟨#[]⟩ then L.length else keyR L hi
def betwT (L : List Te) (lo hi : ByteArray) : List Te := (L.take (endR L hi)).drop (min (keyR L lo) (endR L hi))
theorem told_any (A : Option Addr) (n c : Nat) (l : List Te) (i : Int) (w : World) (hl : RdN w A n c l) : Calls Tryz.prog 38 #[.slice A n c, .int .i64 i] w (Give (TV (atT l i)) w) := by
  have hlen := hl.len
  by_cases h : i < 0 ∨ (n : Int) ≤ i
  · refine (told_no A n c i w h).mono ?_
    rintro e w' ⟨rfl, rfl⟩
    have : atT l i = none := by
      unfold atT
      rcases h with h | h
      · rw [if_pos h]
      · rw [if_neg (by omega)]
        exact List.getElem?_eq_none (by omega)
    rw [this]
    exact ⟨rfl, Ext.refl _⟩
  · obtain ⟨k, rfl⟩ : ∃ k : Nat, i = k := ⟨i.toNat, by omega⟩
    have hk : k < n := by omega
    obtain ⟨ad, rfl, x0, x1⟩ := hl.at_ hk
    have hmx := Rd.max hl
    have ea : atT l (k : Int) = some (tth l k) := by rw [atT_nat, tth_get (by omega)]; exact List.getElem?_eq_getElem (by omega)
    rw [ea]
    have hki : (k : Int) < (n : Int) := by omega
    have hk0 : ¬ (n : Int) ≤ (k : Int) := by omega
    generalize tth l k = x at *
    clear h hl hlen ea
    show Calls Tryz.prog _ _ w (Give (.tuple #[.string x.key, .int .i64 x.no, .bool true]) w)
    go_enter Tryz.func38, Tryz.ntmps38
    go_upto_region 3 with fail
    go_quiet (fail)
    go_wp2
    go_ret3
    exact ⟨rfl, Ext.drewN _ _⟩
theorem fromKeyC_any (A : Option Addr) (n c p q k : Nat) (l : List Te) (s : ByteArray) (w : World) (hl : RdN w A n c l) (hk : k < n) (hn : n ≤ 1000000) (hp : w.cell? ⟨p, 0, none⟩ = some (.slice A n c)) (h0 : w.cell? ⟨q, 0, none⟩ = some (.string s)) : Calls Tryz.prog 126 #[.int .i64 k, .pointer (some ⟨p, 0, none⟩), .pointer (some ⟨q, 0, none⟩)] w (Give (.bool (!decide (cmpK (tth l k).key s < 0))) w) := by
  obtain ⟨ad, rfl, x0, x1⟩ := hl.at_ hk
  have hmx := Rd.max hl
  have hkn : (k : Int) < (n : Int) := by omega
  have hb : Hid (decide (cmpK (tth l k).key s < 0) = Op.bytesLess (tth l k).key.toList s.toList) := by unfold Hid; rw [ByteArray.toList_eq, ByteArray.toList_eq]; exact (less_cmp _ _).symm
  generalize tth l k = x at *
  clear hl
  go_enter Tryz.func126, Tryz.ntmps126
  go_upto_region 1 with fail
  go_quiet (fail)
  go_wp2
  go_ret
  exact ⟨by rw [hb.out]; rfl, Ext.drewN _ _⟩
theorem fromKey_any (A : Option Addr) (n c : Nat) (l : List Te) (s : ByteArray) (w : World) (hl : RdN w A n c l) (hS : Srt l) (hn : n ≤ 1000000) : Calls Tryz.prog 93 #[.slice A n c, .string s] w (Give (.int .i64 (keyR l s)) w) := by
  have hlen := hl.len
  have hx := hid (((Ext.refl w).alloc_right (.cells #[.slice A n c] 45)).alloc_right (.cells #[.string s] 9))
  have hp0 := heap_alloc_new w (.cells #[.slice A n c] 45)
  have hq := heap_alloc_new (w.alloc (.cells #[.slice A n c] 45)) (.cells #[.string s] 9)
  have hp := (((Ext.refl (w.alloc (.cells #[.slice A n c] 45))).alloc_right (.cells #[.string s] 9)).block (Array.getElem?_eq_some_iff.1 hp0).1).trans hp0
  rw [World.size_alloc] at hq
  obtain ⟨r1, r2, r3⟩ := keyR_cut hS s
  have en : ∀ (x y a : Value) (w : World), (callFunc 126 #[a, x, y]).run Tryz.prog w = .ok (.enter 126 #[a, x, y]) w := fun x y a w => by kernel_rfl
  have hQ1 : Hid (∀ t, t < keyR l s → (!decide (cmpK (tth l t).key s < 0)) = false) := fun t ht => by rw [decide_eq_true (r2 t ht)]; rfl
  have hQ2 : Hid (∀ t, keyR l s ≤ t → t < n → (!decide (cmpK (tth l t).key s < 0)) = true) := fun t ht htn => by rw [decide_eq_false (r3 t ht (by omega))]; rfl
  have hC : Hid (∀ w1, Ext ((w.alloc (.cells #[.slice A n c] 45)).alloc (.cells #[.string s] 9)) w1 → Calls Tryz.prog 94 #[.int .i64 n, .func (.func 126) #[] #[.pointer (some ⟨w.heap.size, 0, none⟩), .pointer (some ⟨w.heap.size + 1, 0, none⟩)]] w1 (Give (.int .i64 (keyR l s)) w1)) := fun w1 hx1 => by
    refine search_any n (keyR l s) 126 _ _ (fun t => (!decide (cmpK (tth l t).key s < 0))) w1 hn (by omega) (en _ _) (fun k w' hk hx' => fromKeyC_any A n c _ _ k l s w' (hl.ext (hx.out.trans (hx1.trans hx'))) hk hn ?_ ?_) hQ1 hQ2
    all_goals first
      | exact (hx1.trans hx').cell (by rw [Lib.cell_of_heap hp]; rfl)
      | exact (hx1.trans hx').cell (by rw [Lib.cell_of_heap hq]; rfl)
  have zp : ((w.alloc (.cells #[.slice A n c] 45)).alloc (.cells #[.string s] 9)).cell? ⟨w.heap.size, 0, none⟩ = some (.slice A n c) := by rw [Lib.cell_of_heap hp]; rfl
  have lz := World.block_lt_of_cell? _ _ zp
  dsimp only at lz
  have hmx := Rd.max hl
  generalize keyR l s = r at *
  clear r1 r2 r3 hp hq hp0 hQ1 hQ2 hl hlen hS
  go_enter Tryz.func93, Tryz.ntmps93
  go_upto_region 1 with fail
  generalize ((w.alloc (.cells #[.slice A n c] 45)).alloc (.cells #[.string s] 9)) = w1 at *
  go_wp2_with fail
  refine (hC.out _ (Ext.refl _)).mono ?_
  rintro e' w3 ⟨rfl, hx3⟩
  go_wp2
  go_ret
  exact ⟨rfl, hx.out.trans hx3⟩
theorem At_any (t : Nat) (L : List Te) (h p : Nat) (T : BT) (fT : Nat → Nat) (i : Int) (w : World) (H : TreeAt 0 w t L h p T fT) (o : Option Te) (ho : Hid (o = atT L i)) : Calls Tryz.prog 13 #[.pointer (some ⟨t, 0, none⟩), .int .i64 i] w (Give (TV o) w) := by
  have hE := hid (entries_any t L h p T fT w H)
  have hsr := hid H.sr
  have hle := hid H.le
  clear H
  go_enter Tryz.func13, Tryz.ntmps13
  go_wp2_with fail
  refine hE.out.mono ?_
  rintro e w2 ⟨v, rfl, own2, hx⟩
  obtain ⟨A, c, rfl, -⟩ := own_form own2
  have hrd := hid (show RdN w2 A L.length c L from Rd.of_own own2)
  have hmx := Rd.max hrd.out
  clear own2
  have hT := hid (told_any A L.length c L i w2 hrd.out)
  rw [← ho.out] at hT
  clear ho
  go_wp2_with fail
  refine hT.out.mono ?_
  rintro e w3 ⟨rfl, hx3⟩
  replace hx := hid (hx.trans hx3)
  cases o with
  | none =>
    simp only [TV]
    go_wp2
    go_ret3
    exact ⟨rfl, hx.out⟩
  | some x =>
    simp only [TV]
    go_wp2
    go_ret3
    exact ⟨rfl, hx.out⟩
open Go.RowKit Go.Shelf
def GiveN (l : List Te) (w : World) (e : Ending) (w' : World) : Prop := ∃ A c, e = .returned (.slice A l.length c) ∧ RdN w' A l.length c l ∧ Ext w w'
theorem betw_len (L : List Te) (lo hi : ByteArray) (h : endR L hi ≤ L.length) : (betwT L lo hi).length = endR L hi - min (keyR L lo) (endR L hi) := by
  unfold betwT
  rw [List.length_drop, List.length_take, Nat.min_eq_left h]
theorem end_le {L : List Te} (hS : Srt L) (hi : ByteArray) : endR L hi ≤ L.length := by
  unfold endR
  split
  · exact Nat.le_refl _
  · exact (keyR_cut hS hi).1
theorem rd_part {w : World} {B c a b : Nat} {A : Option Addr} {L : List Te} (h : w.ownsRow B 65 2 (.slice A L.length c) L.length (tents L)) (hab : a ≤ b) (hb : b ≤ L.length) : RdN w (if c = a then A else A.map (·.add (a * 2))) (b - a) (c - a) ((L.take b).drop a) := by
  have hl : ((L.take b).drop a).length = b - a := by rw [List.length_drop, List.length_take, Nat.min_eq_left hb]
  have hr := Rd.of_own h
  have hmx := Rd.max hr
  have e0 : tents ((L.take b).drop a) = ((tents L).drop (a * 2)).take ((b - a) * 2) := by
    rw [tents_drop, tents_take, List.drop_take]
  rcases Nat.eq_zero_or_pos (b - a) with h0 | h0
  · refine ⟨by rw [tents_len, hl], by omega, by unfold maxLen; omega, fun h1 => by omega⟩
  · rw [if_neg (by omega)]
    obtain ⟨ad, rfl, -⟩ := hr.2.2.2 (by omega)
    have e := own_lit h
    rw [e] at hr
    have h2 := hr.sub hab hb
    rw [← e0] at h2
    rw [e]
    show Rd w 2 (some ((⟨ad.block, 0, none⟩ : Addr).add (a * 2))) _ _ _
    rw [lit_add, Nat.zero_add]
    exact h2
theorem between_any (t : Nat) (L : List Te) (h p : Nat) (T : BT) (fT : Nat → Nat) (lo hi : ByteArray) (w : World) (H : TreeAt 0 w t L h p T fT) (l : List Te) (hl : Hid (l = betwT L lo hi)) : Calls Tryz.prog 59 #[.pointer (some ⟨t, 0, none⟩), .string lo, .string hi] w (GiveN l w) := by
  have hE := hid (entries_any t L h p T fT w H)
  have hsr := hid H.sr
  have hle := hid H.le
  clear H
  have hend := end_le hsr.out hi
  have hlo := (keyR_cut hsr.out lo).1
  have hln := betw_len L lo hi hend
  rw [← hl.out] at hln
  obtain ⟨en, hen⟩ : ∃ en, endR L hi = en := ⟨_, rfl⟩
  obtain ⟨r, hr⟩ : ∃ r, keyR L lo = r := ⟨_, rfl⟩
  obtain ⟨a, ha⟩ : ∃ a, min r en = a := ⟨_, rfl⟩
  rw [hen] at hend hln
  rw [hr] at hlo hln
  rw [ha] at hln
  have hae : a ≤ en := by omega
  have hfk := hid (fun (A : Option Addr) (c : Nat) (w2 : World) (hrd : RdN w2 A L.length c L) (s : ByteArray) => fromKey_any A L.length c L s w2 hrd hsr.out (by have := hle.out; omega))
  have hpart : Hid (l = (L.take en).drop a) := by unfold Hid; rw [hl.out]; unfold betwT; rw [hen, hr, ha]
  have hen2 := hen
  unfold endR at hen2
  have hmn : min (r : Int) (en : Int) = (a : Int) := by omega
  replace hln := hid hln
  replace hen := hid hen
  replace ha := hid ha
  have hle10 : L.length ≤ 10000 := hle.out
  have hae2 : (a : Int) ≤ (en : Int) := by omega
  have hfl := hid (fun (A : Option Addr) (c : Nat) (w2 : World) (hrd : RdN w2 A L.length c L) => hfk.out A c w2 hrd lo)
  rw [hr] at hfl
  replace hr := hid hr
  by_cases hb : hi = ⟨#[]⟩
  · rw [if_pos hb] at hen2
    subst hb
    subst hen2
    clear hen
    go_enter Tryz.func59, Tryz.ntmps59
    go_wp2_with fail
    refine hE.out.mono ?_
    rintro e w2 ⟨v, rfl, own2, hx⟩
    obtain ⟨A, c, rfl, -⟩ := own_form own2
    have hrd := hid (show RdN w2 A L.length c L from Rd.of_own own2)
    have hmx := Rd.max hrd.out
    have own2' := hid own2
    replace hx := hid hx
    clear own2
    go_wp2_with fail
    refine (hfl.out A c w2 hrd.out).mono ?_
    rintro e w3 ⟨rfl, hx3⟩
    replace hx := hid (hx.out.trans hx3)
    have hrd3 := hid (rd_part (hx3.own own2'.out) hae (Nat.le_refl _))
    rw [← hpart.out] at hrd3
    clear hx3
    by_cases hca : c = a
    · rw [if_pos hca, hca, Nat.sub_self] at hrd3
      go_wp2
      go_ret
      exact ⟨A, 0, by rw [hln.out]; rfl, by rw [hln.out]; exact hrd3.out, hx.out⟩
    · rw [if_neg hca] at hrd3
      go_wp2
      go_ret
      exact ⟨_, _, by rw [hln.out]; rfl, by rw [hln.out]; exact hrd3.out, hx.out⟩
  · rw [if_neg hb] at hen2
    have hfh := hid (fun (A : Option Addr) (c : Nat) (w2 : World) (hrd : RdN w2 A L.length c L) => hfk.out A c w2 hrd hi)
    rw [hen2] at hfh
    clear hen hen2
    have hbe : hi.toList.isEmpty = false := by
      cases he : hi.toList.isEmpty with
      | false => rfl
      | true => exact absurd (empty_is he) hb
    go_enter Tryz.func59, Tryz.ntmps59
    go_wp2_with fail
    refine hE.out.mono ?_
    rintro e w2 ⟨v, rfl, own2, hx⟩
    obtain ⟨A, c, rfl, -⟩ := own_form own2
    have hrd := hid (show RdN w2 A L.length c L from Rd.of_own own2)
    have hmx := Rd.max hrd.out
    have own2' := hid own2
    replace hx := hid hx
    clear own2
    go_wp2_with fail
    refine (hfh.out A c w2 hrd.out).mono ?_
    rintro e w3 ⟨rfl, hx3⟩
    replace hx := hid (hx.out.trans hx3)
    replace own2' := hid (hx3.own own2'.out)
    replace hrd := hid (hrd.out.ext hx3)
    clear hx3
    go_wp2_with fail
    refine (hfl.out A c w3 hrd.out).mono ?_
    rintro e w4 ⟨rfl, hx4⟩
    replace hx := hid (hx.out.trans hx4)
    have hrd3 := hid (rd_part (hx4.own own2'.out) hae hend)
    rw [← hpart.out] at hrd3
    clear hx4
    by_cases hca : c = a
    · rw [if_pos hca, hca, Nat.sub_self] at hrd3
      go_wp2
      go_ret
      exact ⟨A, 0, by rw [hln.out]; rfl, by rw [hln.out]; exact hrd3.out, hx.out⟩
    · rw [if_neg hca] at hrd3
      go_wp2
      go_ret
      exact ⟨_, _, by rw [hln.out]; rfl, by rw [hln.out]; exact hrd3.out, hx.out⟩
open Go.RowKit Go.Shelf
theorem app_at {P : Program} (w : World) (base : Nat) (t ty e : TypeId) (i : TypeInfo) (z : Value) (size bytes : Nat) (ht : P.underlying t = some (.slice e)) (hi : P.info? e = some i) (hz : i.zero = some z)
    (hsize : i.size = size) (hby : i.bytes = bytes) (hzs : z.cells.size = size) (hsz : 0 < size) (v : Value) (n : Nat) (xs : List Value) (hown : w.ownsRow base e size v n xs)
    (A : Option Addr) (m c : Nat) (es : List Value) (hr : Rd w size A m c es) (h1 : ∀ u ∈ es, u.oneCell' = true) (h63 : n + m ≤ maxLen) (hbytes : (n + m) * bytes ≤ 140737488355328) (hbase : base ≤ w.heap.size) :
    ∃ v' w', (Builtin.append_ #[t, t] ty #[v, .slice A m c]).run P w = .ok v' w' ∧ w'.ownsRow base e size v' (n + m) (xs ++ es) ∧ w.grownBy w' v.ownBlock ∧ (v'.ownBlock = v.ownBlock ∨ ∀ k, v'.ownBlock = some k → w.heap.size ≤ k) := by
  rcases A with _ | ad
  · have hm : m = 0 := by
      rcases Nat.eq_zero_or_pos m with h0 | h0
      · exact h0
      · obtain ⟨ad, h, _⟩ := hr.2.2.2 h0
        cases h
    subst hm
    have hn : es = [] := List.eq_nil_of_length_eq_zero (by simpa using hr.1)
    subst hn
    exact ⟨v, w, run_append_nilsrc (P := P) w base t ty e i size ht hi v n xs hown c, by simpa using hown, World.grownBy.refl w _, .inl rfl⟩
  · obtain ⟨v', w', hrun, h2, h3, _, h5⟩ := run_append_own_at (P := P) w base t ty e i z size bytes ht hi hz hsize hby hzs hsz v n xs hown ad m c es hr.1 (by
      intro j u hu
      rcases Nat.eq_zero_or_pos m with h0 | h0
      · subst h0
        have hn : es = [] := List.eq_nil_of_length_eq_zero (by simpa using hr.1)
        subst hn
        simp at hu
      · obtain ⟨ad', e', hc⟩ := hr.2.2.2 h0
        injection e' with e'
        subst e'
        exact hc j u hu) h1 h63 hbytes hbase
    refine ⟨v', w', hrun, h2, h3, ?_⟩
    rcases h5 with h5 | h5
    · exact .inl h5
    · refine .inr fun k hk => ?_
      rw [h5] at hk
      injection hk with hk
      omega
def KR (w1 w : World) (kv rv : Value) (ks : List ByteArray) (rs : List Int) : Prop := Two (fun _ => 0) w1 w w1.heap.size 9 3 1 1 kv rv ks.length rs.length (strv ks) (ints rs)
theorem KR.up {w1 w : World} {kv rv : Value} {ks : List ByteArray} {rs : List Int} (h : KR w1 w kv rv ks rs) : Ext w1 w := (Ext.refl w1).trans' h.fr (fun _ _ => rfl)
theorem KR.ext {w1 w w' : World} {kv rv : Value} {ks : List ByteArray} {rs : List Int} (h : KR w1 w kv rv ks rs) (hx : Ext w w') : KR w1 w' kv rv ks rs := Two.ext h hx
theorem KR.start (w1 : World) : KR w1 w1 (.slice none 0 0) (.slice none 0 0) [] [] := ⟨World.ownsRow_nil _ _ _ _, World.ownsRow_nil _ _ _ _, fun a => by show (if _ then 1 else 0) + (if _ then 1 else 0) ≤ 1; simp [Value.ownBlock], fun a _ => by show (if _ then 1 else 0) + (if _ then 1 else 0) ≤ 0; simp [Value.ownBlock], FR.of_ext (Ext.refl _)⟩
theorem strv_one (l : List ByteArray) : ∀ u ∈ strv l, u.oneCell' = true := fun u hu => by
  obtain ⟨x, _, rfl⟩ := List.mem_map.1 hu
  rfl
def Kp (w w' : World) (v : Value) : Prop := w.heap.size ≤ w'.heap.size ∧ ∀ q, q < w.heap.size → ob v q = 0 → w'.heap[q]? = w.heap[q]?
theorem Kp.of {w w' : World} {v : Value} (hg : w.grownBy w' v.ownBlock) : Kp w w' v := ⟨hg.size, fun q hq h0 => hg.block q hq (fun e => ob_zero h0 e.symm)⟩
theorem Kp.rd {w w' : World} {v : Value} {k q n c : Nat} {es : List Value} (h : Kp w w' v) (hq : q < w.heap.size) (h0 : ob v q = 0) (hr : Rd w k (some ⟨q, 0, none⟩) n c es) : Rd w' k (some ⟨q, 0, none⟩) n c es :=
  ⟨hr.1, hr.2.1, hr.2.2.1, fun hn => by
    obtain ⟨ad, e, hc⟩ := hr.2.2.2 hn
    injection e with e
    subst e
    exact ⟨_, rfl, fun j u hu => (World.cell?_of_block (by rw [block_add]; exact h.2 q hq h0)).trans (hc j u hu)⟩⟩
theorem KR.appK {w1 w : World} {kv rv : Value} {ks : List ByteArray} {rs : List Int} (h : KR w1 w kv rv ks rs) {A : Option Addr} {m c : Nat} {es : List ByteArray} (hr : Rd w 1 A m c (strv es)) (hb : ks.length + m ≤ 1000000) (ty : TypeId) :
    ∃ A' c' w', (Builtin.append_ #[38, 38] ty #[kv, .slice A m c]).run Tryz.prog w = .ok (.slice A' (ks ++ es).length c') w' ∧ KR w1 w' (.slice A' (ks ++ es).length c') rv (ks ++ es) rs ∧ Kp w w' kv := by
  obtain ⟨i0, hi0, hz0, hz1, hz2⟩ := info_parts infoS
  have hm : es.length = m := by have := hr.1; rw [strv_len] at this; omega
  obtain ⟨v', w', h1, h2, h3, h4⟩ := app_at w w1.heap.size 38 ty 9 i0 _ 1 16 Tryz.underlying38 hi0 hz0 hz1 hz2 rfl (by decide) _ _ _ h.hk A m c _ hr (strv_one es) (by unfold maxLen; omega) (by omega) h.fr.2.2.2.1
  rw [← strv_app] at h2
  have hl : (ks ++ es).length = ks.length + m := by rw [List.length_append, hm]
  rw [← hl] at h2
  obtain ⟨A', c', rfl, -⟩ := own_form h2
  exact ⟨A', c', w', h1, Two.push h h3 h2 h4, Kp.of h3⟩
theorem KR.appR {w1 w : World} {kv rv : Value} {ks : List ByteArray} {rs : List Int} (h : KR w1 w kv rv ks rs) {A : Option Addr} {m c : Nat} {es : List Int} (hr : RdI w A m c es) (hb : rs.length + m ≤ 1000000) (ty : TypeId) :
    ∃ A' c' w', (Builtin.append_ #[23, 23] ty #[rv, .slice A m c]).run Tryz.prog w = .ok (.slice A' (rs ++ es).length c') w' ∧ KR w1 w' kv (.slice A' (rs ++ es).length c') ks (rs ++ es) ∧ Kp w w' rv := by
  obtain ⟨i0, hi0, hz0, hz1, hz2⟩ := info_parts infoI
  have hm : es.length = m := hr.len
  obtain ⟨v', w', h1, h2, h3, h4⟩ := app_at w w1.heap.size 23 ty 3 i0 _ 1 8 Tryz.underlying23 hi0 hz0 hz1 hz2 rfl (by decide) _ _ _ h.hr A m c _ hr (ints_one es) (by unfold maxLen; omega) (by omega) h.fr.2.2.2.1
  rw [← ints_append] at h2
  have hl : (rs ++ es).length = rs.length + m := by rw [List.length_append, hm]
  rw [← hl] at h2
  obtain ⟨A', c', rfl, -⟩ := own_form h2
  exact ⟨A', c', w', h1, (Two.push (Two.swap h) h3 h2 h4).swap, Kp.of h3⟩
theorem KR.keep {w1 w9 w w' : World} {kv rv : Value} {ks : List ByteArray} {rs : List Int} (h : KR w1 w9 kv rv ks rs) (hk : Kp w w' kv) {A : Option Addr} {k n c : Nat} {es : List Value} (hf : Fr w9.heap.size A) (hr : Rd w k A n c es) : Rd w' k A n c es :=
  ⟨hr.1, hr.2.1, hr.2.2.1, fun hn => by
    obtain ⟨ad, e, hc⟩ := hr.2.2.2 hn
    refine ⟨ad, e, fun j u hu => ?_⟩
    have h1 := hc j u hu
    have h2 := World.block_lt_of_cell? _ _ h1
    rw [block_add] at h2
    exact (World.cell?_of_block (by rw [block_add]; exact hk.2 ad.block h2 (own_bound h.hk (hf ad e)))).trans h1⟩
theorem rd_new1 (w : World) (u : Value) (t : TypeId) : Rd (w.alloc (.cells #[u] t)) 1 (some ⟨w.heap.size, 0, none⟩) 1 1 [u] := ⟨rfl, Nat.le_refl _, by decide, fun _ => ⟨_, rfl, fun j v hv => by
  rw [lit_add, Nat.zero_add, Lib.cell_of_heap (heap_alloc_new w _)]
  simpa using hv⟩⟩
def GiveE (L : List Te) (w : World) (e : Ending) (w' : World) : Prop := ∃ A1 c1 A2 c2, e = .returned (.tuple #[.slice A1 L.length c1, .slice A2 L.length c2]) ∧ Rd w' 1 A1 L.length c1 (strv (L.map Te.key)) ∧ RdI w' A2 L.length c2 (L.map Te.no) ∧ Ext w w' ∧ Fr w.heap.size A1 ∧ Fr w.heap.size A2
theorem KR.give {w w1 w' : World} {kv rv : Value} {L : List Te} (h : KR w1 w' kv rv (L.map Te.key) (L.map Te.no)) (hx : Ext w w1) : GiveE L w (.returned (.tuple #[kv, rv])) w' := by
  obtain ⟨A1, c1, rfl, h1⟩ := own_rd h.hk
  obtain ⟨A2, c2, rfl, h2⟩ := own_rd h.hr
  have f1 := (own_fresh h.hk).mono hx.size
  have f2 := (own_fresh h.hr).mono hx.size
  have hu := h.up
  have e1 : (L.map Te.key).length = L.length := List.length_map _
  have e2 : (L.map Te.no).length = L.length := List.length_map _
  rw [e1] at h1 ⊢
  rw [e2] at h2 ⊢
  exact ⟨A1, c1, A2, c2, rfl, h1, h2, hx.trans hu, f1, f2⟩
open Go.RowKit Go.Shelf
def rangeT (l : List Te) (most : Int) : List Te := if most < 0 then l else l.take most.toNat
theorem eS {W : World} {d : Nat} {x : Te} (h : W.heap[d]? = some (.cells #[.string x.key, .int .i64 x.no] 65 (0, 0))) : W.cell? ⟨d, 0, none⟩ = some (.string x.key) ∧ W.cell? ⟨d, 1, none⟩ = some (.int .i64 x.no) :=
  ⟨by rw [Lib.cell_of_heap h]; rfl, by rw [Lib.cell_of_heap h]; rfl⟩
theorem Range_any (t : Nat) (L : List Te) (h p : Nat) (T : BT) (fT : Nat → Nat) (lo hi : ByteArray) (most : Int) (w : World) (H : TreeAt 0 w t L h p T fT) (l : List Te) (hl : Hid (l = rangeT (betwT L lo hi) most)) : Calls Tryz.prog 27 #[.pointer (some ⟨t, 0, none⟩), .string lo, .string hi, .int .i64 most] w (GiveE l w) := by
  obtain ⟨l0, hl0⟩ : ∃ l0, Hid (l0 = betwT L lo hi) := ⟨_, rfl⟩
  have hB := hid (between_any t L h p T fT lo hi w H l0 hl0)
  have hn : l0.length ≤ 10000 := by
    rw [hl0.out]
    have h1 := betw_len L lo hi (end_le H.sr hi)
    have h2 := end_le H.sr hi
    have h3 := H.le
    omega
  rw [← hl0.out] at hl
  clear H hl0
  go_enter Tryz.func27, Tryz.ntmps27
  go_wp2_with fail
  refine hB.out.mono ?_
  rintro e w2 ⟨A, c, rfl, hrd, hx⟩
  have hmx := Rd.max hrd
  replace hrd := hid hrd
  replace hx := hid hx
  clear hB
  go_wp2_with fail
  go_loopw [10, 11, 19] (fun kv rv i wr => ∃ (q N1 N2 : Nat) (K1 K2 : Option Addr) (d1 d2 : Nat), q ≤ l0.length ∧ i = .int .i64 q ∧ kv = .slice K1 N1 d1 ∧ rv = .slice K2 N2 d2 ∧ Hid (KR w2 wr (.slice K1 N1 d1) (.slice K2 N2 d2) ((l0.take q).map Te.key) ((l0.take q).map Te.no)) ∧ Hid (0 ≤ most → (q : Int) ≤ most)) (fun _ _ i _ => l0.length - (intOf i).toNat)
  case atStart => exact ⟨0, 0, 0, none, none, 0, 0, by omega, rfl, rfl, rfl, by rw [List.take_zero]; exact KR.start w2, fun h => h⟩
  case round =>
    obtain ⟨q, N1, N2, K1, K2, d1, d2, hq, rfl, rfl, rfl, hT, hqm⟩ := hrel
    by_cases hlt : q < l0.length
    · obtain ⟨ad, rfl, z0, z1⟩ := (hrd.out.ext hT.out.up).at_ hlt
      have hM1 : Hid (l0.take (q + 1) = l0.take q ++ [tth l0 q]) := by unfold Hid; rw [List.take_succ_eq_append_getElem hlt, tth_get hlt]
      have hMl : Hid ((l0.take q).length = q) := by unfold Hid; rw [List.length_take]; omega
      have hlti : (q : Int) < (l0.length : Int) := by omega
      generalize tth l0 q = x at *
      have hxd := (Ext.refl wr).alloc_right (.cells #[.string x.key, .int .i64 x.no] 65)
      have hd := hid (heap_alloc_new wr (.cells #[.string x.key, .int .i64 x.no] 65))
      have hob := hid (hT.out.ob0 (Nat.le_refl wr.heap.size))
      have hTd := hid (hT.out.ext hxd)
      by_cases hmost : 0 ≤ most ∧ most ≤ (q : Int)
      · obtain ⟨m1, m2⟩ := hmost
        have hfin : Hid (l0.take q = l) := by
          unfold Hid
          rw [hl.out]
          unfold rangeT
          rw [if_neg (by omega)]
          have := hqm.out m1
          congr 1
          omega
        have hgive := hid (KR.give (L := l0.take q) hTd.out hx.out)
        rw [hfin.out] at hgive
        clear hfin hM1 hMl hl hqm hd hxd hob hT hTd
        go_wp2
        go_ret2
        exact hgive.out
      · have hqm1 : Hid (0 ≤ most → ((q + 1 : Nat) : Int) ≤ most) := fun h => by have := hqm.out h; omega
        have hgo : Hid (0 ≤ most → ¬ most ≤ (q : Int)) := fun h1 h2 => hmost ⟨h1, h2⟩
        clear hmost hqm hl
        generalize hM : l0.take q = M at *
        replace hM := hid hM
        have hq10 : M.length ≤ 10000 := by have := hMl.out; omega
        rcases Int.lt_or_le most 0 with m1 | m1
        · have m2 : ¬ (0 : Int) ≤ most := by omega
          go_upto_region 7 with fail
          obtain ⟨d, hde⟩ : ∃ d, d = wr.heap.size := ⟨_, rfl⟩
          rw [← hde] at hd hob
          simp only [← hde]
          clear z0 z1 hT hxd hgo
          replace hde := hid hde
          have I0 : (fun w' : World => w'.cell? ⟨d, 0, none⟩ = some (.string x.key) ∧ w'.cell? ⟨d, 1, none⟩ = some (.int .i64 x.no)) (wr.alloc (.cells #[.string x.key, .int .i64 x.no] 65)).drew := eS hd.out
          refine region_J (fun w' : World => w'.cell? ⟨d, 0, none⟩ = some (.string x.key) ∧ w'.cell? ⟨d, 1, none⟩ = some (.int .i64 x.no)) 12 (by kernel_rfl) ?_
          replace hT : Hid (KR w2 (wr.alloc (.cells #[.string x.key, .int .i64 x.no] 65)).drew (.slice K1 N1 d1) (.slice K2 N2 d2) (M.map Te.key) (M.map Te.no)) := hTd.out.ext (Ext.drewN _ 1)
          replace hd : Hid ((wr.alloc (.cells #[.string x.key, .int .i64 x.no] 65)).drew.heap[d]? = some (.cells #[.string x.key, .int .i64 x.no] 65 (0, 0))) := hd.out
          clear hTd
          generalize (wr.alloc (.cells #[.string x.key, .int .i64 x.no] 65)).drew = wr at *
          refine JO 0 (v := ?vt0) I0 ?yt0 ?rt0
          case yt0 => (intro w h; obtain ⟨_, _⟩ := h; go_simp; with_reducible rfl)
          simp only [Act.put, lyA, lyB, lyC, lyD, lyE, lyF]
          refine JO 1 (v := ?vt1) I0 ?yt1 ?rt1
          case yt1 => (intro w h; obtain ⟨_, _⟩ := h; go_simp; with_reducible rfl)
          simp only [Act.put, lyA, lyB, lyC, lyD, lyE, lyF]
          refine JO 2 (v := ?vt2) I0 ?yt2 ?rt2
          case yt2 => (intro w h; obtain ⟨_, _⟩ := h; go_simp; with_reducible rfl)
          simp only [Act.put, lyA, lyB, lyC, lyD, lyE, lyF]
          refine JO 5 (v := ?vt5) I0 ?yt5 ?rt5
          case yt5 => (intro w h; obtain ⟨_, _⟩ := h; go_simp; with_reducible rfl)
          simp only [Act.put, lyA, lyB, lyC, lyD, lyE, lyF]
          refine JO 6 (v := ?vt6) I0 ?yt6 ?rt6
          case yt6 => (intro w h; obtain ⟨_, _⟩ := h; go_simp; with_reducible rfl)
          simp only [Act.put, lyA, lyB, lyC, lyD, lyE, lyF]
          refine JO 7 (v := ?vt7) I0 ?yt7 ?rt7
          case yt7 => (intro w h; obtain ⟨_, _⟩ := h; go_simp; with_reducible rfl)
          simp only [Act.put, lyA, lyB, lyC, lyD, lyE, lyF]
          refine J_two 3 8 rfl rfl (by kernel_rfl) (fun K hK => ?_) (fun K hK => ?_)
          · go_simp
            have hTa := hid (hT.out.ext ((Ext.refl wr).alloc_right (.cells #[.string x.key] 9)))
            have rk := hid (rd_new1 wr (.string x.key) 9)
            have rk0 := hid ((hT.out.ob0 (Nat.le_refl wr.heap.size)))
            have rkl : Hid (wr.heap.size < (wr.alloc (.cells #[.string x.key] 9)).heap.size) := by unfold Hid; rw [World.size_alloc]; omega
            replace hd := hid ((((Ext.refl wr).alloc_right (.cells #[.string x.key] 9)).block (Array.getElem?_eq_some_iff.1 hd.out).1).trans hd.out)
            refine hK _ _ ⟨fun _ => eS hd.out, ?_⟩
            clear hK K
            try simp only [Act.put, lyA, lyB, lyC, lyD, lyE, lyF]
            generalize wr.heap.size = qk at *
            generalize (wr.alloc (.cells #[.string x.key] 9)) = wa at *
            refine J_two 4 8 rfl rfl (by kernel_rfl) (fun K hK => ?_) (fun K hK => ?_)
            · obtain ⟨K1', d1', wb, hap1, hTb, hkp⟩ := hTa.out.appK (es := [x.key]) rk.out (by rw [List.length_map]; omega) 38
              replace hTb := hid hTb
              replace hd := hid ((hkp.2 d (Array.getElem?_eq_some_iff.1 hd.out).1 hob.out.1).trans hd.out)
              replace hap1 := hid hap1
              refine step_run rfl _ (ex_append _ _ _ _ rfl _ _ (by simp [Act.eval, Act.put]) (by simp [Act.eval, Act.put]) _ hap1.out) ?_
              refine hK _ _ ⟨fun _ => eS hd.out, ?_⟩
              clear hK K
              try simp only [Act.put, lyA, lyB, lyC, lyD, lyE, lyF]
              clear hap1 hkp
              refine J_one 8 rfl (by kernel_rfl) (fun K hK => ?_)
              go_simp
              have hTc := hid (hTb.out.ext ((Ext.refl wb).alloc_right (.cells #[.int .i64 x.no] 3)))
              have rr := hid (rd_new1 wb (.int .i64 x.no) 3)
              have rr0 := hid ((hTb.out.ob0 (Nat.le_refl wb.heap.size)))
              have rrl : Hid (wb.heap.size < (wb.alloc (.cells #[.int .i64 x.no] 3)).heap.size) := by unfold Hid; rw [World.size_alloc]; omega
              replace hd := hid ((((Ext.refl wb).alloc_right (.cells #[.int .i64 x.no] 3)).block (Array.getElem?_eq_some_iff.1 hd.out).1).trans hd.out)
              refine hK _ _ ⟨fun _ => eS hd.out, ?_⟩
              clear hK K
              try simp only [Act.put, lyA, lyB, lyC, lyD, lyE, lyF]
              generalize wb.heap.size = qr at *
              generalize (wb.alloc (.cells #[.int .i64 x.no] 3)) = wc at *
              refine J_one 9 rfl (by kernel_rfl) (fun K hK => ?_)
              obtain ⟨K2', d2', wd, hap1, hTd, hkp⟩ := hTc.out.appR (es := [x.no]) rr.out (by rw [List.length_map]; omega) 23
              replace hTd := hid hTd
              replace hd := hid ((hkp.2 d (Array.getElem?_eq_some_iff.1 hd.out).1 hob.out.2).trans hd.out)
              replace hap1 := hid hap1
              refine step_run rfl _ (ex_append _ _ _ _ rfl _ _ (by simp [Act.eval, Act.put]) (by simp [Act.eval, Act.put]) _ hap1.out) ?_
              refine hK _ _ ⟨fun _ => eS hd.out, ?_⟩
              clear hK K
              try simp only [Act.put, lyA, lyB, lyC, lyD, lyE, lyF]
              clear hap1 hkp
              refine J_one 10 rfl (by kernel_rfl) (fun K hK => ?_)
              go_simp
              refine hK _ _ ⟨fun _ => eS hd.out, ?_⟩
              clear hK K
              try simp only [Act.put, lyA, lyB, lyC, lyD, lyE, lyF]
              refine J_one 11 rfl (by kernel_rfl) (fun K hK => ?_)
              go_simp
              refine hK _ _ ⟨fun _ => eS hd.out, ?_⟩
              clear hK K
              try simp only [Act.put, lyA, lyB, lyC, lyD, lyE, lyF]
              refine J_done (by kernel_rfl) (OnlyOn.normal ?_)
              clear I0
              go_wp2_with fail
              go_roundw
              case rel => exact ⟨q + 1, _, _, _, _, _, _, by omega, by go_num, rfl, rfl, by rw [hM1.out, List.map_append, List.map_append]; have h9 := hTd.out; rw [show (M.map Te.key ++ [x.key]).length = M.length + 1 by simp, show (M.map Te.no ++ [x.no]).length = M.length + 1 by simp] at h9; exact h9, hqm1⟩
              case measure => simp [intOf]; omega
            · go_simp
              have hTb := hid (hTa.out.ext ((Ext.refl wa).alloc_right (.cells #[.int .i64 x.no] 3)))
              have rr := hid (rd_new1 wa (.int .i64 x.no) 3)
              have rr0 := hid ((hTa.out.ob0 (Nat.le_refl wa.heap.size)))
              have rrl : Hid (wa.heap.size < (wa.alloc (.cells #[.int .i64 x.no] 3)).heap.size) := by unfold Hid; rw [World.size_alloc]; omega
              replace rk := hid (rk.out.ext ((Ext.refl wa).alloc_right (.cells #[.int .i64 x.no] 3)))
              replace rkl := hid (Nat.lt_of_lt_of_le rkl.out ((Ext.refl wa).alloc_right (.cells #[.int .i64 x.no] 3)).size)
              replace hd := hid ((((Ext.refl wa).alloc_right (.cells #[.int .i64 x.no] 3)).block (Array.getElem?_eq_some_iff.1 hd.out).1).trans hd.out)
              refine hK _ _ ⟨fun _ => eS hd.out, ?_⟩
              clear hK K
              try simp only [Act.put, lyA, lyB, lyC, lyD, lyE, lyF]
              generalize wa.heap.size = qr at *
              generalize (wa.alloc (.cells #[.int .i64 x.no] 3)) = wb at *
              refine J_one 4 rfl (by kernel_rfl) (fun K hK => ?_)
              obtain ⟨K1', d1', wc, hap1, hTc, hkp⟩ := hTb.out.appK (es := [x.key]) rk.out (by rw [List.length_map]; omega) 38
              replace hTc := hid hTc
              replace hd := hid ((hkp.2 d (Array.getElem?_eq_some_iff.1 hd.out).1 hob.out.1).trans hd.out)
              replace rr := hid (hkp.rd rrl.out rr0.out.1 rr.out)
              replace rrl := hid (Nat.lt_of_lt_of_le rrl.out hkp.1)
              replace hap1 := hid hap1
              refine step_run rfl _ (ex_append _ _ _ _ rfl _ _ (by simp [Act.eval, Act.put]) (by simp [Act.eval, Act.put]) _ hap1.out) ?_
              refine hK _ _ ⟨fun _ => eS hd.out, ?_⟩
              clear hK K
              try simp only [Act.put, lyA, lyB, lyC, lyD, lyE, lyF]
              clear hap1 hkp
              refine J_one 9 rfl (by kernel_rfl) (fun K hK => ?_)
              obtain ⟨K2', d2', wd, hap1, hTd, hkp⟩ := hTc.out.appR (es := [x.no]) rr.out (by rw [List.length_map]; omega) 23
              replace hTd := hid hTd
              replace hd := hid ((hkp.2 d (Array.getElem?_eq_some_iff.1 hd.out).1 hob.out.2).trans hd.out)
              replace hap1 := hid hap1
              refine step_run rfl _ (ex_append _ _ _ _ rfl _ _ (by simp [Act.eval, Act.put]) (by simp [Act.eval, Act.put]) _ hap1.out) ?_
              refine hK _ _ ⟨fun _ => eS hd.out, ?_⟩
              clear hK K
              try simp only [Act.put, lyA, lyB, lyC, lyD, lyE, lyF]
              clear hap1 hkp
              refine J_one 10 rfl (by kernel_rfl) (fun K hK => ?_)
              go_simp
              refine hK _ _ ⟨fun _ => eS hd.out, ?_⟩
              clear hK K
              try simp only [Act.put, lyA, lyB, lyC, lyD, lyE, lyF]
              refine J_one 11 rfl (by kernel_rfl) (fun K hK => ?_)
              go_simp
              refine hK _ _ ⟨fun _ => eS hd.out, ?_⟩
              clear hK K
              try simp only [Act.put, lyA, lyB, lyC, lyD, lyE, lyF]
              refine J_done (by kernel_rfl) (OnlyOn.normal ?_)
              clear I0
              go_wp2_with fail
              go_roundw
              case rel => exact ⟨q + 1, _, _, _, _, _, _, by omega, by go_num, rfl, rfl, by rw [hM1.out, List.map_append, List.map_append]; have h9 := hTd.out; rw [show (M.map Te.key ++ [x.key]).length = M.length + 1 by simp, show (M.map Te.no ++ [x.no]).length = M.length + 1 by simp] at h9; exact h9, hqm1⟩
              case measure => simp [intOf]; omega
          · go_simp
            have hTa := hid (hT.out.ext ((Ext.refl wr).alloc_right (.cells #[.int .i64 x.no] 3)))
            have rr := hid (rd_new1 wr (.int .i64 x.no) 3)
            have rr0 := hid ((hT.out.ob0 (Nat.le_refl wr.heap.size)))
            have rrl : Hid (wr.heap.size < (wr.alloc (.cells #[.int .i64 x.no] 3)).heap.size) := by unfold Hid; rw [World.size_alloc]; omega
            replace hd := hid ((((Ext.refl wr).alloc_right (.cells #[.int .i64 x.no] 3)).block (Array.getElem?_eq_some_iff.1 hd.out).1).trans hd.out)
            refine hK _ _ ⟨fun _ => eS hd.out, ?_⟩
            clear hK K
            try simp only [Act.put, lyA, lyB, lyC, lyD, lyE, lyF]
            generalize wr.heap.size = qr at *
            generalize (wr.alloc (.cells #[.int .i64 x.no] 3)) = wa at *
            refine J_one 3 rfl (by kernel_rfl) (fun K hK => ?_)
            go_simp
            have hTb := hid (hTa.out.ext ((Ext.refl wa).alloc_right (.cells #[.string x.key] 9)))
            have rk := hid (rd_new1 wa (.string x.key) 9)
            have rk0 := hid ((hTa.out.ob0 (Nat.le_refl wa.heap.size)))
            have rkl : Hid (wa.heap.size < (wa.alloc (.cells #[.string x.key] 9)).heap.size) := by unfold Hid; rw [World.size_alloc]; omega
            replace rr := hid (rr.out.ext ((Ext.refl wa).alloc_right (.cells #[.string x.key] 9)))
            replace rrl := hid (Nat.lt_of_lt_of_le rrl.out ((Ext.refl wa).alloc_right (.cells #[.string x.key] 9)).size)
            replace hd := hid ((((Ext.refl wa).alloc_right (.cells #[.string x.key] 9)).block (Array.getElem?_eq_some_iff.1 hd.out).1).trans hd.out)
            refine hK _ _ ⟨fun _ => eS hd.out, ?_⟩
            clear hK K
            try simp only [Act.put, lyA, lyB, lyC, lyD, lyE, lyF]
            generalize wa.heap.size = qk at *
            generalize (wa.alloc (.cells #[.string x.key] 9)) = wb at *
            refine J_one 4 rfl (by kernel_rfl) (fun K hK => ?_)
            obtain ⟨K1', d1', wc, hap1, hTc, hkp⟩ := hTb.out.appK (es := [x.key]) rk.out (by rw [List.length_map]; omega) 38
            replace hTc := hid hTc
            replace hd := hid ((hkp.2 d (Array.getElem?_eq_some_iff.1 hd.out).1 hob.out.1).trans hd.out)
            replace rr := hid (hkp.rd rrl.out rr0.out.1 rr.out)
            replace rrl := hid (Nat.lt_of_lt_of_le rrl.out hkp.1)
            replace hap1 := hid hap1
            refine step_run rfl _ (ex_append _ _ _ _ rfl _ _ (by simp [Act.eval, Act.put]) (by simp [Act.eval, Act.put]) _ hap1.out) ?_
            refine hK _ _ ⟨fun _ => eS hd.out, ?_⟩
            clear hK K
            try simp only [Act.put, lyA, lyB, lyC, lyD, lyE, lyF]
            clear hap1 hkp
            refine J_one 9 rfl (by kernel_rfl) (fun K hK => ?_)
            obtain ⟨K2', d2', wd, hap1, hTd, hkp⟩ := hTc.out.appR (es := [x.no]) rr.out (by rw [List.length_map]; omega) 23
            replace hTd := hid hTd
            replace hd := hid ((hkp.2 d (Array.getElem?_eq_some_iff.1 hd.out).1 hob.out.2).trans hd.out)
            replace hap1 := hid hap1
            refine step_run rfl _ (ex_append _ _ _ _ rfl _ _ (by simp [Act.eval, Act.put]) (by simp [Act.eval, Act.put]) _ hap1.out) ?_
            refine hK _ _ ⟨fun _ => eS hd.out, ?_⟩
            clear hK K
            try simp only [Act.put, lyA, lyB, lyC, lyD, lyE, lyF]
            clear hap1 hkp
            refine J_one 10 rfl (by kernel_rfl) (fun K hK => ?_)
            go_simp
            refine hK _ _ ⟨fun _ => eS hd.out, ?_⟩
            clear hK K
            try simp only [Act.put, lyA, lyB, lyC, lyD, lyE, lyF]
            refine J_one 11 rfl (by kernel_rfl) (fun K hK => ?_)
            go_simp
            refine hK _ _ ⟨fun _ => eS hd.out, ?_⟩
            clear hK K
            try simp only [Act.put, lyA, lyB, lyC, lyD, lyE, lyF]
            refine J_done (by kernel_rfl) (OnlyOn.normal ?_)
            clear I0
            go_wp2_with fail
            go_roundw
            case rel => exact ⟨q + 1, _, _, _, _, _, _, by omega, by go_num, rfl, rfl, by rw [hM1.out, List.map_append, List.map_append]; have h9 := hTd.out; rw [show (M.map Te.key ++ [x.key]).length = M.length + 1 by simp, show (M.map Te.no ++ [x.no]).length = M.length + 1 by simp] at h9; exact h9, hqm1⟩
            case measure => simp [intOf]; omega
        · have m2 := hgo.out m1
          go_upto_region 7 with fail
          obtain ⟨d, hde⟩ : ∃ d, d = wr.heap.size := ⟨_, rfl⟩
          rw [← hde] at hd hob
          simp only [← hde]
          clear z0 z1 hT hxd hgo
          replace hde := hid hde
          have I0 : (fun w' : World => w'.cell? ⟨d, 0, none⟩ = some (.string x.key) ∧ w'.cell? ⟨d, 1, none⟩ = some (.int .i64 x.no)) (wr.alloc (.cells #[.string x.key, .int .i64 x.no] 65)).drew := eS hd.out
          refine region_J (fun w' : World => w'.cell? ⟨d, 0, none⟩ = some (.string x.key) ∧ w'.cell? ⟨d, 1, none⟩ = some (.int .i64 x.no)) 12 (by kernel_rfl) ?_
          replace hT : Hid (KR w2 (wr.alloc (.cells #[.string x.key, .int .i64 x.no] 65)).drew (.slice K1 N1 d1) (.slice K2 N2 d2) (M.map Te.key) (M.map Te.no)) := hTd.out.ext (Ext.drewN _ 1)
          replace hd : Hid ((wr.alloc (.cells #[.string x.key, .int .i64 x.no] 65)).drew.heap[d]? = some (.cells #[.string x.key, .int .i64 x.no] 65 (0, 0))) := hd.out
          clear hTd
          generalize (wr.alloc (.cells #[.string x.key, .int .i64 x.no] 65)).drew = wr at *
          refine JO 0 (v := ?vu0) I0 ?yu0 ?ru0
          case yu0 => (intro w h; obtain ⟨_, _⟩ := h; go_simp; with_reducible rfl)
          simp only [Act.put, lyA, lyB, lyC, lyD, lyE, lyF]
          refine JO 1 (v := ?vu1) I0 ?yu1 ?ru1
          case yu1 => (intro w h; obtain ⟨_, _⟩ := h; go_simp; with_reducible rfl)
          simp only [Act.put, lyA, lyB, lyC, lyD, lyE, lyF]
          refine JO 2 (v := ?vu2) I0 ?yu2 ?ru2
          case yu2 => (intro w h; obtain ⟨_, _⟩ := h; go_simp; with_reducible rfl)
          simp only [Act.put, lyA, lyB, lyC, lyD, lyE, lyF]
          refine JO 5 (v := ?vu5) I0 ?yu5 ?ru5
          case yu5 => (intro w h; obtain ⟨_, _⟩ := h; go_simp; with_reducible rfl)
          simp only [Act.put, lyA, lyB, lyC, lyD, lyE, lyF]
          refine JO 6 (v := ?vu6) I0 ?yu6 ?ru6
          case yu6 => (intro w h; obtain ⟨_, _⟩ := h; go_simp; with_reducible rfl)
          simp only [Act.put, lyA, lyB, lyC, lyD, lyE, lyF]
          refine JO 7 (v := ?vu7) I0 ?yu7 ?ru7
          case yu7 => (intro w h; obtain ⟨_, _⟩ := h; go_simp; with_reducible rfl)
          simp only [Act.put, lyA, lyB, lyC, lyD, lyE, lyF]
          refine J_two 3 8 rfl rfl (by kernel_rfl) (fun K hK => ?_) (fun K hK => ?_)
          · go_simp
            have hTa := hid (hT.out.ext ((Ext.refl wr).alloc_right (.cells #[.string x.key] 9)))
            have rk := hid (rd_new1 wr (.string x.key) 9)
            have rk0 := hid ((hT.out.ob0 (Nat.le_refl wr.heap.size)))
            have rkl : Hid (wr.heap.size < (wr.alloc (.cells #[.string x.key] 9)).heap.size) := by unfold Hid; rw [World.size_alloc]; omega
            replace hd := hid ((((Ext.refl wr).alloc_right (.cells #[.string x.key] 9)).block (Array.getElem?_eq_some_iff.1 hd.out).1).trans hd.out)
            refine hK _ _ ⟨fun _ => eS hd.out, ?_⟩
            clear hK K
            try simp only [Act.put, lyA, lyB, lyC, lyD, lyE, lyF]
            generalize wr.heap.size = qk at *
            generalize (wr.alloc (.cells #[.string x.key] 9)) = wa at *
            refine J_two 4 8 rfl rfl (by kernel_rfl) (fun K hK => ?_) (fun K hK => ?_)
            · obtain ⟨K1', d1', wb, hap1, hTb, hkp⟩ := hTa.out.appK (es := [x.key]) rk.out (by rw [List.length_map]; omega) 38
              replace hTb := hid hTb
              replace hd := hid ((hkp.2 d (Array.getElem?_eq_some_iff.1 hd.out).1 hob.out.1).trans hd.out)
              replace hap1 := hid hap1
              refine step_run rfl _ (ex_append _ _ _ _ rfl _ _ (by simp [Act.eval, Act.put]) (by simp [Act.eval, Act.put]) _ hap1.out) ?_
              refine hK _ _ ⟨fun _ => eS hd.out, ?_⟩
              clear hK K
              try simp only [Act.put, lyA, lyB, lyC, lyD, lyE, lyF]
              clear hap1 hkp
              refine J_one 8 rfl (by kernel_rfl) (fun K hK => ?_)
              go_simp
              have hTc := hid (hTb.out.ext ((Ext.refl wb).alloc_right (.cells #[.int .i64 x.no] 3)))
              have rr := hid (rd_new1 wb (.int .i64 x.no) 3)
              have rr0 := hid ((hTb.out.ob0 (Nat.le_refl wb.heap.size)))
              have rrl : Hid (wb.heap.size < (wb.alloc (.cells #[.int .i64 x.no] 3)).heap.size) := by unfold Hid; rw [World.size_alloc]; omega
              replace hd := hid ((((Ext.refl wb).alloc_right (.cells #[.int .i64 x.no] 3)).block (Array.getElem?_eq_some_iff.1 hd.out).1).trans hd.out)
              refine hK _ _ ⟨fun _ => eS hd.out, ?_⟩
              clear hK K
              try simp only [Act.put, lyA, lyB, lyC, lyD, lyE, lyF]
              generalize wb.heap.size = qr at *
              generalize (wb.alloc (.cells #[.int .i64 x.no] 3)) = wc at *
              refine J_one 9 rfl (by kernel_rfl) (fun K hK => ?_)
              obtain ⟨K2', d2', wd, hap1, hTd, hkp⟩ := hTc.out.appR (es := [x.no]) rr.out (by rw [List.length_map]; omega) 23
              replace hTd := hid hTd
              replace hd := hid ((hkp.2 d (Array.getElem?_eq_some_iff.1 hd.out).1 hob.out.2).trans hd.out)
              replace hap1 := hid hap1
              refine step_run rfl _ (ex_append _ _ _ _ rfl _ _ (by simp [Act.eval, Act.put]) (by simp [Act.eval, Act.put]) _ hap1.out) ?_
              refine hK _ _ ⟨fun _ => eS hd.out, ?_⟩
              clear hK K
              try simp only [Act.put, lyA, lyB, lyC, lyD, lyE, lyF]
              clear hap1 hkp
              refine J_one 10 rfl (by kernel_rfl) (fun K hK => ?_)
              go_simp
              refine hK _ _ ⟨fun _ => eS hd.out, ?_⟩
              clear hK K
              try simp only [Act.put, lyA, lyB, lyC, lyD, lyE, lyF]
              refine J_one 11 rfl (by kernel_rfl) (fun K hK => ?_)
              go_simp
              refine hK _ _ ⟨fun _ => eS hd.out, ?_⟩
              clear hK K
              try simp only [Act.put, lyA, lyB, lyC, lyD, lyE, lyF]
              refine J_done (by kernel_rfl) (OnlyOn.normal ?_)
              clear I0
              go_wp2_with fail
              go_roundw
              case rel => exact ⟨q + 1, _, _, _, _, _, _, by omega, by go_num, rfl, rfl, by rw [hM1.out, List.map_append, List.map_append]; have h9 := hTd.out; rw [show (M.map Te.key ++ [x.key]).length = M.length + 1 by simp, show (M.map Te.no ++ [x.no]).length = M.length + 1 by simp] at h9; exact h9, hqm1⟩
              case measure => simp [intOf]; omega
            · go_simp
              have hTb := hid (hTa.out.ext ((Ext.refl wa).alloc_right (.cells #[.int .i64 x.no] 3)))
              have rr := hid (rd_new1 wa (.int .i64 x.no) 3)
              have rr0 := hid ((hTa.out.ob0 (Nat.le_refl wa.heap.size)))
              have rrl : Hid (wa.heap.size < (wa.alloc (.cells #[.int .i64 x.no] 3)).heap.size) := by unfold Hid; rw [World.size_alloc]; omega
              replace rk := hid (rk.out.ext ((Ext.refl wa).alloc_right (.cells #[.int .i64 x.no] 3)))
              replace rkl := hid (Nat.lt_of_lt_of_le rkl.out ((Ext.refl wa).alloc_right (.cells #[.int .i64 x.no] 3)).size)
              replace hd := hid ((((Ext.refl wa).alloc_right (.cells #[.int .i64 x.no] 3)).block (Array.getElem?_eq_some_iff.1 hd.out).1).trans hd.out)
              refine hK _ _ ⟨fun _ => eS hd.out, ?_⟩
              clear hK K
              try simp only [Act.put, lyA, lyB, lyC, lyD, lyE, lyF]
              generalize wa.heap.size = qr at *
              generalize (wa.alloc (.cells #[.int .i64 x.no] 3)) = wb at *
              refine J_one 4 rfl (by kernel_rfl) (fun K hK => ?_)
              obtain ⟨K1', d1', wc, hap1, hTc, hkp⟩ := hTb.out.appK (es := [x.key]) rk.out (by rw [List.length_map]; omega) 38
              replace hTc := hid hTc
              replace hd := hid ((hkp.2 d (Array.getElem?_eq_some_iff.1 hd.out).1 hob.out.1).trans hd.out)
              replace rr := hid (hkp.rd rrl.out rr0.out.1 rr.out)
              replace rrl := hid (Nat.lt_of_lt_of_le rrl.out hkp.1)
              replace hap1 := hid hap1
              refine step_run rfl _ (ex_append _ _ _ _ rfl _ _ (by simp [Act.eval, Act.put]) (by simp [Act.eval, Act.put]) _ hap1.out) ?_
              refine hK _ _ ⟨fun _ => eS hd.out, ?_⟩
              clear hK K
              try simp only [Act.put, lyA, lyB, lyC, lyD, lyE, lyF]
              clear hap1 hkp
              refine J_one 9 rfl (by kernel_rfl) (fun K hK => ?_)
              obtain ⟨K2', d2', wd, hap1, hTd, hkp⟩ := hTc.out.appR (es := [x.no]) rr.out (by rw [List.length_map]; omega) 23
              replace hTd := hid hTd
              replace hd := hid ((hkp.2 d (Array.getElem?_eq_some_iff.1 hd.out).1 hob.out.2).trans hd.out)
              replace hap1 := hid hap1
              refine step_run rfl _ (ex_append _ _ _ _ rfl _ _ (by simp [Act.eval, Act.put]) (by simp [Act.eval, Act.put]) _ hap1.out) ?_
              refine hK _ _ ⟨fun _ => eS hd.out, ?_⟩
              clear hK K
              try simp only [Act.put, lyA, lyB, lyC, lyD, lyE, lyF]
              clear hap1 hkp
              refine J_one 10 rfl (by kernel_rfl) (fun K hK => ?_)
              go_simp
              refine hK _ _ ⟨fun _ => eS hd.out, ?_⟩
              clear hK K
              try simp only [Act.put, lyA, lyB, lyC, lyD, lyE, lyF]
              refine J_one 11 rfl (by kernel_rfl) (fun K hK => ?_)
              go_simp
              refine hK _ _ ⟨fun _ => eS hd.out, ?_⟩
              clear hK K
              try simp only [Act.put, lyA, lyB, lyC, lyD, lyE, lyF]
              refine J_done (by kernel_rfl) (OnlyOn.normal ?_)
              clear I0
              go_wp2_with fail
              go_roundw
              case rel => exact ⟨q + 1, _, _, _, _, _, _, by omega, by go_num, rfl, rfl, by rw [hM1.out, List.map_append, List.map_append]; have h9 := hTd.out; rw [show (M.map Te.key ++ [x.key]).length = M.length + 1 by simp, show (M.map Te.no ++ [x.no]).length = M.length + 1 by simp] at h9; exact h9, hqm1⟩
              case measure => simp [intOf]; omega
          · go_simp
            have hTa := hid (hT.out.ext ((Ext.refl wr).alloc_right (.cells #[.int .i64 x.no] 3)))
            have rr := hid (rd_new1 wr (.int .i64 x.no) 3)
            have rr0 := hid ((hT.out.ob0 (Nat.le_refl wr.heap.size)))
            have rrl : Hid (wr.heap.size < (wr.alloc (.cells #[.int .i64 x.no] 3)).heap.size) := by unfold Hid; rw [World.size_alloc]; omega
            replace hd := hid ((((Ext.refl wr).alloc_right (.cells #[.int .i64 x.no] 3)).block (Array.getElem?_eq_some_iff.1 hd.out).1).trans hd.out)
            refine hK _ _ ⟨fun _ => eS hd.out, ?_⟩
            clear hK K
            try simp only [Act.put, lyA, lyB, lyC, lyD, lyE, lyF]
            generalize wr.heap.size = qr at *
            generalize (wr.alloc (.cells #[.int .i64 x.no] 3)) = wa at *
            refine J_one 3 rfl (by kernel_rfl) (fun K hK => ?_)
            go_simp
            have hTb := hid (hTa.out.ext ((Ext.refl wa).alloc_right (.cells #[.string x.key] 9)))
            have rk := hid (rd_new1 wa (.string x.key) 9)
            have rk0 := hid ((hTa.out.ob0 (Nat.le_refl wa.heap.size)))
            have rkl : Hid (wa.heap.size < (wa.alloc (.cells #[.string x.key] 9)).heap.size) := by unfold Hid; rw [World.size_alloc]; omega
            replace rr := hid (rr.out.ext ((Ext.refl wa).alloc_right (.cells #[.string x.key] 9)))
            replace rrl := hid (Nat.lt_of_lt_of_le rrl.out ((Ext.refl wa).alloc_right (.cells #[.string x.key] 9)).size)
            replace hd := hid ((((Ext.refl wa).alloc_right (.cells #[.string x.key] 9)).block (Array.getElem?_eq_some_iff.1 hd.out).1).trans hd.out)
            refine hK _ _ ⟨fun _ => eS hd.out, ?_⟩
            clear hK K
            try simp only [Act.put, lyA, lyB, lyC, lyD, lyE, lyF]
            generalize wa.heap.size = qk at *
            generalize (wa.alloc (.cells #[.string x.key] 9)) = wb at *
            refine J_one 4 rfl (by kernel_rfl) (fun K hK => ?_)
            obtain ⟨K1', d1', wc, hap1, hTc, hkp⟩ := hTb.out.appK (es := [x.key]) rk.out (by rw [List.length_map]; omega) 38
            replace hTc := hid hTc
            replace hd := hid ((hkp.2 d (Array.getElem?_eq_some_iff.1 hd.out).1 hob.out.1).trans hd.out)
            replace rr := hid (hkp.rd rrl.out rr0.out.1 rr.out)
            replace rrl := hid (Nat.lt_of_lt_of_le rrl.out hkp.1)
            replace hap1 := hid hap1
            refine step_run rfl _ (ex_append _ _ _ _ rfl _ _ (by simp [Act.eval, Act.put]) (by simp [Act.eval, Act.put]) _ hap1.out) ?_
            refine hK _ _ ⟨fun _ => eS hd.out, ?_⟩
            clear hK K
            try simp only [Act.put, lyA, lyB, lyC, lyD, lyE, lyF]
            clear hap1 hkp
            refine J_one 9 rfl (by kernel_rfl) (fun K hK => ?_)
            obtain ⟨K2', d2', wd, hap1, hTd, hkp⟩ := hTc.out.appR (es := [x.no]) rr.out (by rw [List.length_map]; omega) 23
            replace hTd := hid hTd
            replace hd := hid ((hkp.2 d (Array.getElem?_eq_some_iff.1 hd.out).1 hob.out.2).trans hd.out)
            replace hap1 := hid hap1
            refine step_run rfl _ (ex_append _ _ _ _ rfl _ _ (by simp [Act.eval, Act.put]) (by simp [Act.eval, Act.put]) _ hap1.out) ?_
            refine hK _ _ ⟨fun _ => eS hd.out, ?_⟩
            clear hK K
            try simp only [Act.put, lyA, lyB, lyC, lyD, lyE, lyF]
            clear hap1 hkp
            refine J_one 10 rfl (by kernel_rfl) (fun K hK => ?_)
            go_simp
            refine hK _ _ ⟨fun _ => eS hd.out, ?_⟩
            clear hK K
            try simp only [Act.put, lyA, lyB, lyC, lyD, lyE, lyF]
            refine J_one 11 rfl (by kernel_rfl) (fun K hK => ?_)
            go_simp
            refine hK _ _ ⟨fun _ => eS hd.out, ?_⟩
            clear hK K
            try simp only [Act.put, lyA, lyB, lyC, lyD, lyE, lyF]
            refine J_done (by kernel_rfl) (OnlyOn.normal ?_)
            clear I0
            go_wp2_with fail
            go_roundw
            case rel => exact ⟨q + 1, _, _, _, _, _, _, by omega, by go_num, rfl, rfl, by rw [hM1.out, List.map_append, List.map_append]; have h9 := hTd.out; rw [show (M.map Te.key ++ [x.key]).length = M.length + 1 by simp, show (M.map Te.no ++ [x.no]).length = M.length + 1 by simp] at h9; exact h9, hqm1⟩
            case measure => simp [intOf]; omega
    · obtain rfl : q = l0.length := by omega
      have hfin : Hid (l0.take l0.length = l) := by
        unfold Hid
        rw [hl.out, List.take_length]
        unfold rangeT
        rcases Int.lt_or_le most 0 with h1 | h1
        · rw [if_pos h1]
        · rw [if_neg (by omega), List.take_of_length_le (by have := hqm.out h1; omega)]
      have hgive := hid (KR.give (L := l0.take l0.length) hT.out hx.out)
      rw [hfin.out] at hgive
      clear hfin hl hqm hT
      go_wp2
      go_ret2
      exact hgive.out
open Go.RowKit Go.Shelf
theorem all_tth {l l' : List Te} (hl : l.length = l'.length) (h : ∀ t, t < l.length → tth l t = tth l' t) : l = l' := by
  refine List.ext_getElem hl (fun i h1 h2 => ?_)
  have := h i h1
  rwa [tth_get h1, tth_get h2] at this
theorem eqE_any (A B : Option Addr) (n c m d : Nat) (l l' : List Te) (w : World) (hl : RdN w A n c l) (hl' : RdN w B m d l') (R : Bool) (hR : Hid (R = true ↔ l = l')) : Calls Tryz.prog 70 #[.slice A n c, .slice B m d] w (Give (.bool R) w) := by
  have hmx := Rd.max hl
  have hmy := Rd.max hl'
  have hn := hl.len
  have hm := hl'.len
  by_cases hnm : n = m
  · subst hnm
    replace hn := hid hn
    replace hm := hid hm
    go_enter Tryz.func70, Tryz.ntmps70
    go_wp2_with fail
    go_loopw [13] (fun i wr => ∃ k : Nat, k ≤ n ∧ i = .int .i64 k ∧ Hid (Ext w wr) ∧ Hid (∀ t, t < k → tth l t = tth l' t)) (fun i _ => n - (intOf i).toNat)
    case atStart => exact ⟨0, by omega, rfl, Ext.refl w, fun t h => absurd h (Nat.not_lt_zero _)⟩
    case round =>
      obtain ⟨k, hk, rfl, hx, hall⟩ := hrel
      by_cases hlt : k < n
      · obtain ⟨ad, rfl, x0, x1⟩ := (hl.ext hx.out).at_ hlt
        obtain ⟨bd, rfl, y0, y1⟩ := (hl'.ext hx.out).at_ hlt
        have hki : (k : Int) < (n : Int) := by omega
        by_cases hxy : tth l k = tth l' k
        · have hall2 : Hid (∀ t, t < k + 1 → tth l t = tth l' t) := fun t ht => by
            rcases Nat.lt_or_eq_of_le (Nat.lt_succ_iff.1 ht) with h | h
            · exact hall.out t h
            · rw [h]; exact hxy
          rw [← hxy] at y0 y1
          generalize tth l k = x at *
          clear hall hxy
          go_upto_region 6 with fail
          go_quiet (fail)
          go_wp2
          go_roundw
          case rel => exact ⟨k + 1, by omega, by go_num, hx.out.drewN_right _, hall2⟩
          case measure => simp [intOf]; omega
        · have hne : Hid (R = false) := by
            cases R with
            | false => rfl
            | true => exact absurd (by rw [hR.out.1 rfl]) hxy
          clear hR hall
          by_cases hkk : (tth l k).key = (tth l' k).key
          · have hno : ((tth l k).no == (tth l' k).no) = false := by
              rw [beq_eq_false_iff_ne]
              intro e
              apply hxy
              cases h1 : tth l k
              cases h2 : tth l' k
              rw [h1, h2] at hkk e
              simp only at hkk e
              rw [hkk, e]
            rw [← hkk] at y0
            generalize tth l k = x at *
            generalize tth l' k = y at *
            clear hkk hxy
            go_upto_region 6 with fail
            go_quiet (fail)
            go_wp2
            go_ret
            exact ⟨by rw [hne.out]; rfl, hx.out.drewN_right _⟩
          · have hkf : ((tth l k).key.toList == (tth l' k).key.toList) = false := by
              rw [beq_eq_false_iff_ne]
              intro e
              apply hkk
              rw [ByteArray.toList_eq, ByteArray.toList_eq] at e
              exact str_ext e
            generalize tth l k = x at *
            generalize tth l' k = y at *
            clear hkk hxy
            go_upto_region 6 with fail
            go_quiet (fail)
            go_wp2
            go_ret
            exact ⟨by rw [hne.out]; rfl, hx.out.drewN_right _⟩
      · obtain rfl : k = n := by omega
        have hR1 : Hid (R = true) := hR.out.2 (all_tth (hm.out.trans hn.out.symm |>.symm) (fun t ht => hall.out t (by have := hn.out; omega)))
        clear hR hall
        go_wp2
        go_ret
        exact ⟨by rw [hR1.out]; rfl, hx.out⟩
  · have hne : Hid (R = false) := by
      cases R with
      | false => rfl
      | true => exact absurd (by rw [← hn, ← hm, hR.out.1 rfl]) hnm
    have hnm2 : ((n : Int) != (m : Int)) = true := by
      rw [bne_iff_ne]
      omega
    clear hR hl hl' hn hm
    go_enter Tryz.func70, Tryz.ntmps70
    go_wp2
    go_ret
    exact ⟨by rw [hne.out]; rfl, Ext.refl _⟩
theorem Same_any (t u : Nat) (L M : List Te) (h p h2 p2 : Nat) (T T2 : BT) (fT fU : Nat → Nat) (w : World) (H : TreeAt 0 w t L h p T fT) (H2 : TreeAt 0 w u M h2 p2 T2 fU) (R : Bool) (hR : Hid (R = true ↔ L = M)) : Calls Tryz.prog 37 #[.pointer (some ⟨t, 0, none⟩), .pointer (some ⟨u, 0, none⟩)] w (Give (.bool R) w) := by
  have hE := hid (entries_any t L h p T fT w H)
  have hE2 := hid (fun w' (hx : Ext w w') => entries_any u M h2 p2 T2 fU w' (H2.ext hx))
  clear H H2
  go_enter Tryz.func37, Tryz.ntmps37
  go_wp2_with fail
  refine hE.out.mono ?_
  rintro e w2 ⟨v, rfl, own2, hx⟩
  obtain ⟨A, c, rfl, -⟩ := own_form own2
  have hrd := hid (show RdN w2 A L.length c L from Rd.of_own own2)
  replace hx := hid hx
  clear own2 hE
  go_wp2_with fail
  refine (hE2.out w2 hx.out).mono ?_
  rintro e w3 ⟨v, rfl, own3, hx3⟩
  obtain ⟨B, d, rfl, -⟩ := own_form own3
  have hQ := hid (eqE_any A B L.length c M.length d L M w3 (hrd.out.ext hx3) (Rd.of_own own3) R hR.out)
  replace hx := hid (hx.out.trans hx3)
  clear own3 hE2 hx3 hR hrd
  go_wp2_with fail
  refine hQ.out.mono ?_
  rintro e w4 ⟨rfl, hx4⟩
  go_wp2
  go_ret
  exact ⟨rfl, hx.out.trans hx4⟩
open Go.RowKit Go.Shelf
def nxD : Nx := ⟨[], [], []⟩
def xth (xs : List Nx) (k : Nat) : Nx := xs.getD k nxD
theorem xth_get {xs : List Nx} {k : Nat} (h : k < xs.length) : xth xs k = xs[k] := by simp [xth, List.getD, h]
def RF (w : World) (v : V3) (x : Nx) : Prop := ∃ A1 c1 A2 c2 A3 c3, v = ⟨.slice A1 x.keys.length c1, .slice A2 x.recs.length c2, .slice A3 x.kids.length c3⟩ ∧ Rd w 1 A1 x.keys.length c1 (strv x.keys) ∧ RdI w A2 x.recs.length c2 x.recs ∧ RdI w A3 x.kids.length c3 x.kids
def RFs (w : World) : List V3 → List Nx → Prop
  | [], [] => True
  | v :: vs, x :: xs => RF w v x ∧ RFs w vs xs
  | _, _ => False
def RX (w : World) (A : Option Addr) (n c : Nat) (xs : List Nx) : Prop := ∃ vs, Rd w 3 A n c (rowsV vs) ∧ RFs w vs xs
section
variable {w w' : World}
theorem RF.ext {v : V3} {x : Nx} (h : RF w v x) (hx : Ext w w') : RF w' v x := by
  obtain ⟨A1, c1, A2, c2, A3, c3, e, h1, h2, h3⟩ := h
  exact ⟨A1, c1, A2, c2, A3, c3, e, h1.ext hx, h2.ext hx, h3.ext hx⟩
theorem RFs.ext (hx : Ext w w') : ∀ {vs : List V3} {xs : List Nx}, RFs w vs xs → RFs w' vs xs
  | [], [], h => h
  | v :: vs, x :: xs, ⟨h1, h2⟩ => ⟨h1.ext hx, RFs.ext hx h2⟩
  | [], _ :: _, h => h.elim
  | _ :: _, [], h => h.elim
theorem RFs.len : ∀ {vs : List V3} {xs : List Nx}, RFs w vs xs → vs.length = xs.length
  | [], [], _ => rfl
  | v :: vs, x :: xs, ⟨_, h⟩ => by simp [h.len]
  | [], _ :: _, h => h.elim
  | _ :: _, [], h => h.elim
theorem RFs.at_ : ∀ {vs : List V3} {xs : List Nx} {k : Nat}, RFs w vs xs → (h : k < vs.length) → (h2 : k < xs.length) → RF w vs[k] xs[k]
  | v :: vs, x :: xs, 0, ⟨h, _⟩, _, _ => h
  | v :: vs, x :: xs, k + 1, ⟨_, h⟩, h1, h2 => RFs.at_ h (by simpa using h1) (by simpa using h2)
  | [], [], _, _, h, _ => absurd h (by simp)
  | [], _ :: _, _, h, _, _ => h.elim
  | _ :: _, [], _, h, _, _ => h.elim
theorem NL.reads {B : Nat} : ∀ {vs : List V3} {xs : List Nx} {g : Nat → Nat}, NL w B vs xs g → RFs w vs xs
  | [], [], g, _ => trivial
  | ⟨k, r, d⟩ :: vs, x :: xs, g, ⟨f1, f2, ⟨h1, h2, h3, _⟩, h5, _⟩ => by
    obtain ⟨A1, c1, e1, r1⟩ := own_rd h1
    obtain ⟨A2, c2, e2, r2⟩ := own_rd h2
    obtain ⟨A3, c3, e3, r3⟩ := own_rd h3
    have e1' : k = _ := e1
    have e2' : r = _ := e2
    have e3' : d = _ := e3
    subst e1' e2' e3'
    exact ⟨⟨A1, c1, A2, c2, A3, c3, rfl, r1, r2, r3⟩, NL.reads h5⟩
  | [], _ :: _, g, h => h.elim
  | _ :: _, [], g, h => h.elim
theorem rowsV_nth : ∀ {vs : List V3} {k : Nat} (h : k < vs.length), (rowsV vs)[k * 3]? = some vs[k].k ∧ (rowsV vs)[k * 3 + 1]? = some vs[k].r ∧ (rowsV vs)[k * 3 + 2]? = some vs[k].d := fun {vs k} h => by
  have := rowsV_at (vs.take k) vs[k] (vs.drop (k + 1)) (m := k) (by rw [List.length_take]; omega)
  rw [← list_cut h] at this
  exact this
section
variable {A : Option Addr} {n c : Nat} {xs : List Nx}
theorem RX.len (h : RX w A n c xs) : xs.length = n := by
  obtain ⟨vs, h1, h2⟩ := h
  have := h1.1
  rw [rowsV_len, h2.len] at this
  omega
theorem RX.ext (h : RX w A n c xs) (hx : Ext w w') : RX w' A n c xs := by
  obtain ⟨vs, h1, h2⟩ := h
  exact ⟨vs, h1.ext hx, h2.ext hx⟩
theorem RX.max (h : RX w A n c xs) : n ≤ 9223372036854775807 ∧ n ≤ c ∧ c ≤ 9223372036854775807 := by
  obtain ⟨vs, h1, h2⟩ := h
  exact Rd.max h1
theorem RX.at_ (h : RX w A n c xs) {k : Nat} (hk : k < n) : ∃ ad A1 c1 A2 c2 A3 c3, A = some ad ∧ w.cell? (ad.add (k * 3)) = some (.slice A1 (xth xs k).keys.length c1) ∧ w.cell? ⟨(ad.add (k * 3)).block, (ad.add (k * 3)).off + 1, none⟩ = some (.slice A2 (xth xs k).recs.length c2) ∧ w.cell? ⟨(ad.add (k * 3)).block, (ad.add (k * 3)).off + 2, none⟩ = some (.slice A3 (xth xs k).kids.length c3) ∧ Rd w 1 A1 (xth xs k).keys.length c1 (strv (xth xs k).keys) ∧ RdI w A2 (xth xs k).recs.length c2 (xth xs k).recs ∧ RdI w A3 (xth xs k).kids.length c3 (xth xs k).kids := by
  have hl := h.len
  obtain ⟨vs, h1, h2⟩ := h
  have hlv := h2.len
  obtain ⟨ad, rfl, hc⟩ := h1.2.2.2 (by omega)
  have hkv : k < vs.length := by omega
  have hkx : k < xs.length := by omega
  obtain ⟨A1, c1, A2, c2, A3, c3, e, r1, r2, r3⟩ := h2.at_ hkv hkx
  obtain ⟨q0, q1, q2⟩ := rowsV_nth hkv
  rw [e] at q0 q1 q2
  rw [xth_get hkx]
  exact ⟨ad, A1, c1, A2, c2, A3, c3, rfl, hc _ _ q0, cell_fk (hc _ _ q1) (by decide), cell_fk (hc _ _ q2) (by decide), r1, r2, r3⟩
end
theorem IX.reads {B : Nat} {v : Value} {xs : List Nx} (h : IX B w v xs) : ∃ A c, v = .slice A xs.length c ∧ RX w A xs.length c xs := by
  obtain ⟨vs, g, h1, h2, _⟩ := h
  obtain ⟨A, c, rfl, hr⟩ := own_rd h1
  exact ⟨A, c, rfl, vs, hr, h2.reads⟩
end
def sth (l : List ByteArray) (k : Nat) : ByteArray := l.getD k ⟨#[]⟩
def ith (l : List Int) (k : Nat) : Int := l.getD k 0
theorem sth_get {l : List ByteArray} {k : Nat} (h : k < l.length) : sth l k = l[k] := by simp [sth, List.getD, h]
theorem ith_get {l : List Int} {k : Nat} (h : k < l.length) : ith l k = l[k] := by simp [ith, List.getD, h]
theorem rds_at {w : World} {A : Option Addr} {n c k : Nat} {l : List ByteArray} (h : Rd w 1 A n c (strv l)) (hk : k < n) : ∃ ad, A = some ad ∧ w.cell? (ad.add k) = some (.string (sth l k)) := by
  obtain ⟨ad, hA, hc⟩ := h.2.2.2 (by omega)
  have h1 := h.1
  rw [strv_len] at h1
  have hl : k < l.length := by omega
  rw [sth_get hl]
  exact ⟨ad, hA, hc k _ (by unfold strv; rw [List.getElem?_map, List.getElem?_eq_getElem hl]; rfl)⟩
theorem rdi_at {w : World} {A : Option Addr} {n c k : Nat} {l : List Int} (h : RdI w A n c l) (hk : k < n) : ∃ ad, A = some ad ∧ w.cell? (ad.add k) = some (.int .i64 (ith l k)) := by
  obtain ⟨ad, hA, hc⟩ := h.2.2.2 (by omega)
  have h1 := h.1
  rw [show (ints l).length = l.length by simp [ints]] at h1
  have hl : k < l.length := by omega
  rw [ith_get hl]
  exact ⟨ad, hA, hc k _ (by unfold ints; rw [List.getElem?_map, List.getElem?_eq_getElem hl]; rfl)⟩
def shapeN (a b d : Nat) : Bool := decide (b = a) && (decide (a ≤ 4) && (decide (d = 0) || decide (d = a + 1)))
def shapeB (x : Nx) : Bool := shapeN x.keys.length x.recs.length x.kids.length
end Go.Proofs.YtjjikkhhlpikbaaGreatDoor
