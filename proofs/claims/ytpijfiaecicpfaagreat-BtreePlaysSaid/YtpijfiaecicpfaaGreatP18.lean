/-
  The reference's Put and Take; its tree beside others.
-/
import Derived.Test.YtpijfiaecicpfaaGreatP12
import Derived.Test.YtpijfiaecicpfaaGreatP8
import Derived.Test.YtpijfiaecicpfaaGreatP17
namespace Go.Proofs.YtpijfiaecicpfaaGreat
open Go.RowKit Go.Shelf
set_option linter.unusedVariables false
set_option linter.unusedSimpArgs false
/-- The reference's tree in memory, with the blocks that are its own. -/
def RTo (w : World) (r : Nat) (L : List Te) (G : Nat → Nat) : Prop := ∃ A1 c1 A2 c2, w.heap[r]? = some (.cells #[.slice A1 L.length c1, .slice A2 L.length c2] 31 (0, 0)) ∧ Rd w 1 A1 L.length c1 (strv (L.map Te.key)) ∧ RdI w A2 L.length c2 (L.map Te.no) ∧ G r ≠ 0 ∧
  (0 < L.length → ∀ ad, A1 = some ad → G ad.block ≠ 0 ∧ ad.block ≠ r) ∧ (0 < L.length → ∀ ad, A2 = some ad → G ad.block ≠ 0 ∧ ad.block ≠ r) ∧ ∀ a, w.heap.size ≤ a → G a = 0
section
variable {w w' : World} {r : Nat} {L : List Te} {G : Nat → Nat}
theorem RTo.rt (h : RTo w r L G) : RTr w r L := by
  obtain ⟨A1, c1, A2, c2, h1, h2, h3, -⟩ := h
  exact ⟨A1, c1, A2, c2, h1, h2, h3⟩
theorem rd_frame {k n c : Nat} {A : Option Addr} {xs : List Value} {f : Nat → Nat} (h : Rd w k A n c xs) (hF : FR f w w') (h0 : 0 < n → ∀ ad, A = some ad → f ad.block = 0) : Rd w' k A n c xs := by
  refine ⟨h.1, h.2.1, h.2.2.1, fun hn => ?_⟩
  obtain ⟨ad, e, hc⟩ := h.2.2.2 hn
  refine ⟨ad, e, fun j u hu => ?_⟩
  have h6 := hc j u hu
  have h7 := World.block_lt_of_cell? _ _ h6
  rw [block_add] at h7
  exact (World.cell?_of_block (by rw [block_add]; exact hF.2.2.2.2 ad.block h7 (h0 hn ad e))).trans h6
theorem RTo.frame {f : Nat → Nat} (h : RTo w r L G) (hF : FR f w w') (hd : ∀ a, G a ≠ 0 → f a = 0) : RTo w' r L G := by
  obtain ⟨A1, c1, A2, c2, h1, h2, h3, h4, h5, h6, h7⟩ := h
  exact ⟨A1, c1, A2, c2, (hF.2.2.2.2 r (Array.getElem?_eq_some_iff.1 h1).1 (hd r h4)).trans h1, rd_frame h2 hF (fun hn ad e => hd _ (h5 hn ad e).1), rd_frame h3 hF (fun hn ad e => hd _ (h6 hn ad e).1), h4, h5, h6, fun a ha => h7 a (Nat.le_trans hF.2.2.2.1 ha)⟩
theorem RTo.ext (h : RTo w r L G) (hx : Ext w w') : RTo w' r L G := h.frame (f := fun _ => 0) (FR.of_ext hx) (fun _ _ => rfl)
theorem RTo.lt (h : RTo w r L G) : r < w.heap.size := by
  obtain ⟨A1, c1, A2, c2, h1, -⟩ := h
  exact (Array.getElem?_eq_some_iff.1 h1).1
/-- What a call has made of the reference's tree. -/
def RTurned (w w' : World) (r : Nat) (G : Nat → Nat) (L : List Te) : Prop := ∃ G', RTo w' r L G' ∧ (∀ a, a < w.heap.size → G' a ≠ 0 → G a ≠ 0) ∧ FR (one1 r) w w'
theorem RTo.same (h : RTo w r L G) (hx : Ext w w') : RTurned w w' r G L := ⟨G, h.ext hx, fun _ _ h => h, FR.of_ext hx⟩
end
theorem strv_take (l : List ByteArray) (k : Nat) : (strv l).take k = strv (l.take k) := by unfold strv; rw [List.map_take]
theorem strv_drop (l : List ByteArray) (k : Nat) : (strv l).drop k = strv (l.drop k) := by unfold strv; rw [List.map_drop]
/-- append onto a row that has been made since a world. -/
theorem appSx {W0 W : World} (hx : Ext W0 W) {v : Value} {n : Nat} {xs es : List ByteArray} (hn : Hid (n = xs.length)) (own : W.ownsRow W0.heap.size 9 1 v n (strv xs)) {A : Option Addr} {m c : Nat} (hr : Rd W 1 A m c (strv es)) (hb : n + m ≤ 1000000) (ty : TypeId) :
    ∃ A' n' c' W', (Builtin.append_ #[28, 28] ty #[v, .slice A m c]).run Tryz.prog W = .ok (.slice A' n' c') W' ∧ Hid (n' = (xs ++ es).length) ∧ n' = n + m ∧ W'.ownsRow W0.heap.size 9 1 (.slice A' n' c') n' (strv (xs ++ es)) ∧ Ext W0 W' ∧ W.grownBy W' v.ownBlock := by
  obtain ⟨i0, hi0, hz0, hz1, hz2⟩ := info_parts infoS
  have hm : es.length = m := by have := hr.1; simp [strv] at this; exact this
  obtain ⟨v', w', h1, h2, h3, h4⟩ := app_at W W0.heap.size 28 ty 9 i0 _ 1 16 Tryz.underlying28 hi0 hz0 hz1 hz2 rfl (by decide) _ _ _ own A m c _ hr (strv_one es) (by unfold maxLen; omega) (by omega) hx.size
  have he : strv xs ++ strv es = strv (xs ++ es) := by simp [strv]
  rw [he] at h2
  obtain ⟨A', c', rfl, -⟩ := own_form h2
  exact ⟨A', n + m, c', w', h1, by unfold Hid; rw [List.length_append, hm, ← hn.out], rfl, h2, ext_push hx own h3, h3⟩
/-- append onto a row that has been made since a world. -/
theorem appIx {W0 W : World} (hx : Ext W0 W) {v : Value} {n : Nat} {xs es : List Int} (hn : Hid (n = xs.length)) (own : W.ownsRow W0.heap.size 3 1 v n (ints xs)) {A : Option Addr} {m c : Nat} (hr : Rd W 1 A m c (ints es)) (hb : n + m ≤ 1000000) (ty : TypeId) :
    ∃ A' n' c' W', (Builtin.append_ #[29, 29] ty #[v, .slice A m c]).run Tryz.prog W = .ok (.slice A' n' c') W' ∧ Hid (n' = (xs ++ es).length) ∧ n' = n + m ∧ W'.ownsRow W0.heap.size 3 1 (.slice A' n' c') n' (ints (xs ++ es)) ∧ Ext W0 W' ∧ W.grownBy W' v.ownBlock := by
  obtain ⟨i0, hi0, hz0, hz1, hz2⟩ := info_parts infoI
  have hm : es.length = m := by have := hr.1; simp [ints] at this; exact this
  obtain ⟨v', w', h1, h2, h3, h4⟩ := app_at W W0.heap.size 29 ty 3 i0 _ 1 8 Tryz.underlying29 hi0 hz0 hz1 hz2 rfl (by decide) _ _ _ own A m c _ hr (ints_one es) (by unfold maxLen; omega) (by omega) hx.size
  have he : ints xs ++ ints es = ints (xs ++ es) := by simp [ints]
  rw [he] at h2
  obtain ⟨A', c', rfl, -⟩ := own_form h2
  exact ⟨A', n + m, c', w', h1, by unfold Hid; rw [List.length_append, hm, ← hn.out], rfl, h2, ext_push hx own h3, h3⟩
theorem tree2_set0 {w : World} {p : Nat} {a b : Value} {t : TypeId} (h : w.heap[p]? = some (.cells #[a, b] t (0, 0))) (u : Value) : (w.setCell ⟨p, 0, none⟩ u).heap[p]? = some (.cells #[u, b] t (0, 0)) := by
  simp [World.setCell, Array.getElem?_modify, h]
theorem tree2_set1 {w : World} {p : Nat} {a b : Value} {t : TypeId} (h : w.heap[p]? = some (.cells #[a, b] t (0, 0))) (u : Value) : (w.setCell ⟨p, 1, none⟩ u).heap[p]? = some (.cells #[a, u] t (0, 0)) := by
  simp [World.setCell, Array.getElem?_modify, h]
theorem fr_one {w : World} {b j : Nat} {u : Value} : FR (one1 b) w (w.setCell ⟨b, j, none⟩ u) := ⟨rfl, rfl, rfl, by simp, fun k hk h0 => by
  have hne : b ≠ k := fun e => by rw [e, one_self] at h0; cases h0
  simp [World.setCell, Array.getElem?_modify, hne]⟩
/-- Both rows are new: the tree that a call leaves. -/
theorem RTurned.mk2 {w w3 w4 w5 w7 : World} {r : Nat} {G : Nat → Nat} {L : List Te} {B1 B2 : Option Addr} {d1 d2 : Nat} {o1 o2 : Value} (h0 : r < w.heap.size) (hG : G r ≠ 0) (hx3 : Ext w w3) (hr : w3.heap[r]? = some (.cells #[o1, o2] 31 (0, 0))) (hx4 : Ext w3 w4) (k4 : w4.ownsRow w3.heap.size 9 1 (.slice B1 L.length d1) L.length (strv (L.map Te.key)))
    (h5 : w5 = w4.setCell ⟨r, 0, none⟩ (.slice B1 L.length d1)) (hx7 : Ext w5 w7) (k7 : w7.ownsRow w5.heap.size 3 1 (.slice B2 L.length d2) L.length (ints (L.map Te.no))) : RTurned w (w7.setCell ⟨r, 1, none⟩ (.slice B2 L.length d2)) r G L := by
  have s3 := hx3.size
  have s4 := hx4.size
  have s7 := hx7.size
  have s5 : w5.heap.size = w4.heap.size := by rw [h5]; simp
  have hr4 := (hx4.block (by omega)).trans hr
  have hr5 : w5.heap[r]? = some (.cells #[.slice B1 L.length d1, o2] 31 (0, 0)) := by rw [h5]; exact tree2_set0 hr4 _
  have hr7 := (hx7.block (by omega)).trans hr5
  have hF : FR (one1 r) w (w7.setCell ⟨r, 1, none⟩ (.slice B2 L.length d2)) := by
    have f1 : FR (one1 r) w w5 := by
      rw [h5]
      exact (FR.of_ext (f := one1 r) (hx3.trans hx4)).trans fr_one (fun _ _ h => h)
    exact (f1.trans (FR.of_ext (f := one1 r) hx7) (fun _ _ h => h)).trans fr_one (fun _ _ h => h)
  have b1 : ∀ g, (Value.slice B1 L.length d1).ownBlock = some g → w3.heap.size ≤ g ∧ g < w4.heap.size := fun g e => k4.lt g e
  have b2 : ∀ g, (Value.slice B2 L.length d2).ownBlock = some g → w5.heap.size ≤ g ∧ g < w7.heap.size := fun g e => k7.lt g e
  have n1 : (Value.slice B1 L.length d1).ownBlock ≠ some r := fun e => by have := (b1 r e).1; omega
  have n2 : (Value.slice B2 L.length d2).ownBlock ≠ some r := fun e => by have := (b2 r e).1; omega
  have k5 : w5.ownsRow w3.heap.size 9 1 (.slice B1 L.length d1) L.length (strv (L.map Te.key)) := by rw [h5]; exact own_set k4 n1 0 _
  have k8 := own_set (hx7.own k5) n1 1 (.slice B2 L.length d2)
  have k9 := own_set k7 n2 1 (.slice B2 L.length d2)
  refine ⟨fun a => if a = r ∨ (w.heap.size ≤ a ∧ a < w7.heap.size) then 1 else 0, ⟨B1, d1, B2, d2, tree2_set1 hr7 _, Rd.of_own k8, Rd.of_own k9, ?_, fun _ ad e => ?_, fun _ ad e => ?_, fun a ha => ?_⟩, fun a ha h1 => ?_, hF⟩
  · show (if r = r ∨ _ then 1 else 0) ≠ 0
    rw [if_pos (.inl rfl)]; decide
  · have e1 := b1 ad.block (by rw [e]; rfl)
    refine ⟨?_, by omega⟩
    show (if ad.block = r ∨ _ then 1 else 0) ≠ 0
    rw [if_pos (.inr ⟨by omega, by omega⟩)]; decide
  · have e1 := b2 ad.block (by rw [e]; rfl)
    refine ⟨?_, by omega⟩
    show (if ad.block = r ∨ _ then 1 else 0) ≠ 0
    rw [if_pos (.inr ⟨by omega, by omega⟩)]; decide
  · simp at ha
    show (if a = r ∨ _ then 1 else 0) = 0
    rw [if_neg (by omega)]
  · have e : a = r := Classical.byContradiction fun e => h1 (by show (if a = r ∨ _ then 1 else 0) = 0; rw [if_neg (by omega)])
    rw [e]; exact hG
theorem ext_none {w w' : World} (h : w.grownBy w' (Value.slice none 0 0).ownBlock) : Ext w w' := ⟨h.os, h.tape, h.output, h.size, fun k hk => h.block k hk (fun e => by cases e)⟩
set_option maxRecDepth 100000 in
set_option maxHeartbeats 4000000 in
theorem rPut_any (r : Nat) (L : List Te) (G : Nat → Nat) (s : ByteArray) (i : Int) (w : World) (h : RTo w r L G) (hS : Srt L) (hl : L.length ≤ 1200) (er : Int) (L' : List Te) (hE : Hid (er = putEr L ⟨s, i⟩)) (hL' : Hid (L' = putLs L ⟨s, i⟩)) :
    Calls Tryz.prog 19 #[.pointer (some ⟨r, 0, none⟩), .string s, .int .i64 i] w fun e w' => e = .returned (.int .i64 er) ∧ RTurned w w' r G L' := by
  have hh := hid h
  have hb := hid (fun w' (hx : Ext w w') b hb => rhas_any r L s i w' (hh.out.ext hx).rt hS (by omega) b hb)
  have hRk := hid (fun w' (hx : Ext w w') k hk => rRank_any r L s i w' (hh.out.ext hx).rt hS (by omega) k hk)
  have hsame := hid (fun w' (hx : Ext w w') (h1 : L' = L) => (show RTurned w w' r G L' by rw [h1]; exact hh.out.same hx))
  have hrk := hid (rank_cut hS ⟨s, i⟩).1
  have hins := hid (ins_cut hS ⟨s, i⟩)
  cases hok : okT ⟨s, i⟩ with
  | false =>
    have hE1 : Hid (er = 1) := by unfold Hid; rw [hE.out]; unfold putEr; rw [hok]; rfl
    have hL1 : Hid (L' = L) := by unfold Hid; rw [hL'.out]; unfold putLs; rw [← hE.out, hE1.out]; rfl
    clear h hS
    have hI := hid (risEntry_any s i w)
    rw [hok] at hI
    go_enter Tryz.func19, Tryz.ntmps19
    go_wp2_with fail
    refine hI.out.mono ?_
    rintro e w1 ⟨rfl, rfl⟩
    go_wp2
    go_ret
    exact ⟨by rw [hE1.out]; rfl, hsame.out _ (Ext.refl _) hL1.out⟩
  | true =>
    have hI := hid (fun w => risEntry_any s i w)
    rw [hok] at hI
    cases hmm : memT L ⟨s, i⟩ with
    | true =>
      have hE1 : Hid (er = 5) := by unfold Hid; rw [hE.out]; unfold putEr; rw [hok, hmm]; rfl
      have hL1 : Hid (L' = L) := by unfold Hid; rw [hL'.out]; unfold putLs; rw [← hE.out, hE1.out]; rfl
      replace hb := hid (hb.out w (Ext.refl w) true hmm.symm)
      clear h hS hmm hok
      go_enter Tryz.func19, Tryz.ntmps19
      go_wp2_with fail
      refine (hI.out _).mono ?_
      rintro e w1 ⟨rfl, rfl⟩
      go_wp2_with fail
      refine hb.out.mono ?_
      rintro e w2 ⟨rfl, hx2⟩
      go_wp2
      go_ret
      exact ⟨by rw [hE1.out]; rfl, hsame.out _ hx2 hL1.out⟩
    | false =>
      replace hb := hid (hb.out w (Ext.refl w) false hmm.symm)
      obtain ⟨A1, c1, A2, c2, h1, h2, h3, h4, h5, h6, h7⟩ := h
      have m1 := Rd.max h2
      have m2 := RdI.max h3
      have z0 : w.cell? ⟨r, 0, none⟩ = some (.slice A1 L.length c1) := by rw [Lib.cell_of_heap h1]; rfl
      have lr := (Array.getElem?_eq_some_iff.1 h1).1
      by_cases hfull : 1200 ≤ L.length
      · have hE1 : Hid (er = 3) := by unfold Hid; rw [hE.out]; unfold putEr; rw [hok, hmm, if_pos rfl, if_neg (by decide), if_pos hfull]
        have hL1 : Hid (L' = L) := by unfold Hid; rw [hL'.out]; unfold putLs; rw [← hE.out, hE1.out]; rfl
        have d9 : (1200 : Int) ≤ (L.length : Int) := by omega
        clear hS hmm hok hfull h1 h2 h3 h5 h6 h7
        go_enter Tryz.func19, Tryz.ntmps19
        go_wp2_with fail
        refine (hI.out _).mono ?_
        rintro e w1 ⟨rfl, rfl⟩
        go_wp2_with fail
        refine hb.out.mono ?_
        rintro e w2 ⟨rfl, hx2⟩
        replace z0 := hx2.cell z0
        have lr2 := Nat.lt_of_lt_of_le lr hx2.size
        replace hx2 := hid hx2
        go_wp2
        go_ret
        exact ⟨by rw [hE1.out]; rfl, hsame.out _ hx2.out hL1.out⟩
      · have hE1 : Hid (er = 0) := by unfold Hid; rw [hE.out]; unfold putEr; rw [hok, hmm, if_pos rfl, if_neg (by decide), if_neg hfull]
        have hL1 : Hid (L' = insT L ⟨s, i⟩) := by unfold Hid; rw [hL'.out]; unfold putLs; rw [← hE.out, hE1.out]; rfl
        have d9 : ¬ (1200 : Int) ≤ (L.length : Int) := by omega
        obtain ⟨k, hk⟩ : ∃ k, Hid (k = rankT L ⟨s, i⟩) := ⟨_, rfl⟩
        have hkl : k ≤ L.length := by have := hrk.out; have := hk.out; omega
        rw [hins.out, ← hk.out] at hL1
        have hK' : Hid (L'.map Te.key = [] ++ (L.map Te.key).take k ++ [s] ++ (L.map Te.key).drop k) := by unfold Hid; rw [hL1.out, List.map_append, List.map_cons, List.map_take, List.map_drop]; simp
        have hN' : Hid (L'.map Te.no = [] ++ (L.map Te.no).take k ++ [i] ++ (L.map Te.no).drop k) := by unfold Hid; rw [hL1.out, List.map_append, List.map_cons, List.map_take, List.map_drop]; simp
        have hK'l : Hid ((L'.map Te.key).length = L'.length) := List.length_map _
        have hN'l : Hid ((L'.map Te.no).length = L'.length) := List.length_map _
        have hlr := hid lr
        have hGr := hid h4
        have hh1 := hid h1
        replace h2 := hid h2
        replace h3 := hid h3
        replace h5 := hid h5
        replace h6 := hid h6
        have hki : (k : Int) ≤ (L.length : Int) := by omega
        have hki1 : (k : Int) ≤ (c1 : Int) := by omega
        have hki2 : (k : Int) ≤ (c2 : Int) := by omega
        clear hS hmm hok hfull h1 h7 h4 hsame hE hL' hins hL1 hrk hh
        go_enter Tryz.func19, Tryz.ntmps19
        go_wp2_with fail
        refine (hI.out _).mono ?_
        rintro e w1 ⟨rfl, rfl⟩
        go_wp2_with fail
        refine hb.out.mono ?_
        rintro e w2 ⟨rfl, hx2⟩
        replace z0 := hx2.cell z0
        have lr2 := Nat.lt_of_lt_of_le lr hx2.size
        replace hx2 := hid hx2
        go_wp2_with fail
        refine (hRk.out _ hx2.out k hk.out).mono ?_
        rintro e w3 ⟨rfl, hx3⟩
        have zW := hx3.cell z0
        replace hx3 := hid (hx2.out.trans hx3)
        have hr3 := hid ((hx3.out.block lr).trans hh1.out)
        have hrW := hid hr3.out
        have lrW := Nat.lt_of_lt_of_le lr hx3.out.size
        have hpre : Hid (∀ W', Ext w3 W' → Rd W' 1 A1 k c1 (strv ((L.map Te.key).take k))) := fun W' hx => by
          have := (h2.out.ext (hx3.out.trans hx)).takeK hkl
          rw [Nat.mul_one, strv_take] at this
          exact this
        have hsuf : Hid (∀ W', Ext w3 W' → Rd W' 1 (if c1 = k then A1 else A1.map (·.add k)) (L.length - k) (c1 - k) (strv ((L.map Te.key).drop k))) := fun W' hx => by
          have := (h2.out.ext (hx3.out.trans hx)).cut hkl
          rw [Nat.mul_one, strv_drop] at this
          exact this
        clear z0 lr2 hb hRk hI
        go_upto_region 8 with fail
        have I0 : (fun w' : World => w'.cell? ⟨r, 0, none⟩ = some (.slice A1 L.length c1)) w3.drew := zW
        refine region_J (fun w' : World => w'.cell? ⟨r, 0, none⟩ = some (.slice A1 L.length c1)) 20 (by kernel_rfl) ?_
        have hxWu := hid ((Ext.refl w3).drew_right)
        have lrWu := hid lrW
        clear zW lrW
        generalize w3.drew = Xu at *
        have hp1 := hid (hpre.out Xu hxWu.out)
        have hp2 := hid (hsuf.out Xu hxWu.out)
        have hx0 := hid (Ext.refl Xu)
        have hownN := hid (show Xu.ownsRow Xu.heap.size 9 1 (.slice none 0 0) 0 (strv []) from World.ownsRow_nil _ _ _ _)
        have hnN : Hid (0 = ([] : List ByteArray).length) := rfl
        refine J_take 0 (v := ?vu0) rfl (by kernel_rfl) (by kernel_rfl) (by kernel_rfl) (by kernel_rfl) (fun _ _ _ h => h) (Or.inl ⟨by rfl, ?yu0⟩) I0 ?ru0
        case yu0 => (intro w hSw; have := hSw; (go_simp; with_reducible rfl))
        simp only [Act.put, List.getElem_toArray, List.getElem_cons_zero, List.getElem_cons_succ, List.setIfInBounds_toArray, List.set_cons_zero, List.set_cons_succ]
        refine J_take 1 (v := ?vu1) rfl (by kernel_rfl) (by kernel_rfl) (by kernel_rfl) (by kernel_rfl) (fun _ _ _ h => h) (Or.inl ⟨by rfl, ?yu1⟩) I0 ?ru1
        case yu1 => (intro w hSw; have := hSw; (go_simp; with_reducible rfl))
        simp only [Act.put, List.getElem_toArray, List.getElem_cons_zero, List.getElem_cons_succ, List.setIfInBounds_toArray, List.set_cons_zero, List.set_cons_succ]
        refine J_take 2 (v := ?vu2) rfl (by kernel_rfl) (by kernel_rfl) (by kernel_rfl) (by kernel_rfl) (fun _ _ _ h => h) (Or.inl ⟨by rfl, ?yu2⟩) I0 ?ru2
        case yu2 => (intro w hSw; have := hSw; (go_simp; with_reducible rfl))
        simp only [Act.put, List.getElem_toArray, List.getElem_cons_zero, List.getElem_cons_succ, List.setIfInBounds_toArray, List.set_cons_zero, List.set_cons_succ]
        refine J_take 3 (v := ?vu3) rfl (by kernel_rfl) (by kernel_rfl) (by kernel_rfl) (by kernel_rfl) (fun _ _ _ h => h) (Or.inl ⟨by rfl, ?yu3⟩) I0 ?ru3
        case yu3 => (intro w hSw; have := hSw; (go_simp; with_reducible rfl))
        simp only [Act.put, List.getElem_toArray, List.getElem_cons_zero, List.getElem_cons_succ, List.setIfInBounds_toArray, List.set_cons_zero, List.set_cons_succ]
        refine J_take 4 (v := ?vu4) rfl (by kernel_rfl) (by kernel_rfl) (by kernel_rfl) (by kernel_rfl) (fun _ _ _ h => h) (Or.inl ⟨by rfl, ?yu4⟩) I0 ?ru4
        case yu4 => (intro w hSw; have := hSw; (go_simp; with_reducible rfl))
        simp only [Act.put, List.getElem_toArray, List.getElem_cons_zero, List.getElem_cons_succ, List.setIfInBounds_toArray, List.set_cons_zero, List.set_cons_succ]
        refine J_take 5 (v := ?vu5) rfl (by kernel_rfl) (by kernel_rfl) (by kernel_rfl) (by kernel_rfl) (fun _ _ _ h => h) (Or.inl ⟨by rfl, ?yu5⟩) I0 ?ru5
        case yu5 => (intro w hSw; have := hSw; (go_simp; with_reducible rfl))
        simp only [Act.put, List.getElem_toArray, List.getElem_cons_zero, List.getElem_cons_succ, List.setIfInBounds_toArray, List.set_cons_zero, List.set_cons_succ]
        refine J_take 6 (v := ?vu6) rfl (by kernel_rfl) (by kernel_rfl) (by kernel_rfl) (by kernel_rfl) (fun _ _ _ h => h) (Or.inl ⟨by rfl, ?yu6⟩) I0 ?ru6
        case yu6 => (intro w hSw; have := hSw; (go_simp; with_reducible rfl))
        simp only [Act.put, List.getElem_toArray, List.getElem_cons_zero, List.getElem_cons_succ, List.setIfInBounds_toArray, List.set_cons_zero, List.set_cons_succ]
        refine J_take 8 (v := ?vu8) rfl (by kernel_rfl) (by kernel_rfl) (by kernel_rfl) (by kernel_rfl) (fun _ _ _ h => h) (Or.inl ⟨by rfl, ?yu8⟩) I0 ?ru8
        case yu8 => (intro w hSw; have := hSw; (go_simp; with_reducible rfl))
        simp only [Act.put, List.getElem_toArray, List.getElem_cons_zero, List.getElem_cons_succ, List.setIfInBounds_toArray, List.set_cons_zero, List.set_cons_succ]
        refine J_take 11 (v := ?vu11) rfl (by kernel_rfl) (by kernel_rfl) (by kernel_rfl) (by kernel_rfl) (fun _ _ _ h => h) (Or.inl ⟨by rfl, ?yu11⟩) I0 ?ru11
        case yu11 => (intro w hSw; have := hSw; (go_simp; with_reducible rfl))
        simp only [Act.put, List.getElem_toArray, List.getElem_cons_zero, List.getElem_cons_succ, List.setIfInBounds_toArray, List.set_cons_zero, List.set_cons_succ]
        refine J_take 12 (v := ?vu12) rfl (by kernel_rfl) (by kernel_rfl) (by kernel_rfl) (by kernel_rfl) (fun _ _ _ h => h) (Or.inl ⟨by rfl, ?yu12⟩) I0 ?ru12
        case yu12 => (intro w hSw; have := hSw; (go_simp; with_reducible rfl))
        simp only [Act.put, List.getElem_toArray, List.getElem_cons_zero, List.getElem_cons_succ, List.setIfInBounds_toArray, List.set_cons_zero, List.set_cons_succ]
        refine J_take 13 (v := ?vu13) rfl (by kernel_rfl) (by kernel_rfl) (by kernel_rfl) (by kernel_rfl) (fun _ _ _ h => h) (Or.inl ⟨by rfl, ?yu13⟩) I0 ?ru13
        case yu13 => (intro w hSw; have := hSw; (go_simp; with_reducible rfl))
        simp only [Act.put, List.getElem_toArray, List.getElem_cons_zero, List.getElem_cons_succ, List.setIfInBounds_toArray, List.set_cons_zero, List.set_cons_succ]
        refine J_take 14 (v := ?vu14) rfl (by kernel_rfl) (by kernel_rfl) (by kernel_rfl) (by kernel_rfl) (fun _ _ _ h => h) (Or.inl ⟨by rfl, ?yu14⟩) I0 ?ru14
        case yu14 => (intro w hSw; have := hSw; (go_simp; with_reducible rfl))
        simp only [Act.put, List.getElem_toArray, List.getElem_cons_zero, List.getElem_cons_succ, List.setIfInBounds_toArray, List.set_cons_zero, List.set_cons_succ]
        refine J_take 15 (v := ?vu15) rfl (by kernel_rfl) (by kernel_rfl) (by kernel_rfl) (by kernel_rfl) (fun _ _ _ h => h) (Or.inl ⟨by rfl, ?yu15⟩) I0 ?ru15
        case yu15 => (intro w hSw; have := hSw; (go_simp; with_reducible rfl))
        simp only [Act.put, List.getElem_toArray, List.getElem_cons_zero, List.getElem_cons_succ, List.setIfInBounds_toArray, List.set_cons_zero, List.set_cons_succ]
        refine J_take 16 (v := ?vu16) rfl (by kernel_rfl) (by kernel_rfl) (by kernel_rfl) (by kernel_rfl) (fun _ _ _ h => h) (Or.inl ⟨by rfl, ?yu16⟩) I0 ?ru16
        case yu16 => (intro w hSw; have := hSw; (go_simp; with_reducible rfl))
        simp only [Act.put, List.getElem_toArray, List.getElem_cons_zero, List.getElem_cons_succ, List.setIfInBounds_toArray, List.set_cons_zero, List.set_cons_succ]
        refine J_two 7 9 rfl rfl (by kernel_rfl) (fun K hK => ?_) (fun K hK => ?_)
        · obtain ⟨B7u, n7, e7u, Yau, hap1, hn7, hs7, owau, hxau, -⟩ := appSx hx0.out hnN hownN.out hp1.out (by omega) 28
          replace hn7 := hid hn7.out
          replace hs7 := hid hs7
          replace owau := hid owau
          replace hxau := hid hxau
          have Ia : (fun w' : World => w'.cell? ⟨r, 0, none⟩ = some (.slice A1 L.length c1)) Yau := hxau.out.cell I0
          replace hap1 := hid hap1
          refine step_run rfl _ (ex_append _ _ _ _ rfl _ _ (by simp [Act.eval, Act.put]) (by simp [Act.eval, Act.put]) _ hap1.out) ?_
          refine hK _ _ ⟨fun _ => Ia, ?_⟩
          clear hK K
          try simp only [Act.put, List.getElem_toArray, List.getElem_cons_zero, List.getElem_cons_succ, List.setIfInBounds_toArray, List.set_cons_zero, List.set_cons_succ]
          clear hap1
          refine J_one 9 rfl (by kernel_rfl) (fun K hK => ?_)
          go_simp
          have hxbu := hid (hxau.out.alloc_right (.cells #[.string s] 9))
          have hnw := hid (rd_new1 Yau (.string s) 9)
          have owbu := hid (owau.out.alloc (.cells #[.string s] 9))
          have Ib : (fun w' : World => w'.cell? ⟨r, 0, none⟩ = some (.slice A1 L.length c1)) (Yau.alloc (.cells #[.string s] 9)) := hxbu.out.cell I0
          refine hK _ _ ⟨fun _ => Ib, ?_⟩
          clear hK K
          try simp only [Act.put, List.getElem_toArray, List.getElem_cons_zero, List.getElem_cons_succ, List.setIfInBounds_toArray, List.set_cons_zero, List.set_cons_succ]
          obtain ⟨nb, hnb⟩ : ∃ nb, nb = Yau.heap.size := ⟨_, rfl⟩
          rw [← hnb] at hnw
          simp only [← hnb]
          replace hnb := hid hnb
          generalize (Yau.alloc (.cells #[.string s] 9)) = Ybu at *
          refine J_one 10 rfl (by kernel_rfl) (fun K hK => ?_)
          obtain ⟨B10u, n10, e10u, Ycu, hap1, hn10, hs10, owcu, hxcu, -⟩ := appSx (es := [s]) hxbu.out hn7 owbu.out hnw.out (by have := hs7.out; omega) 28
          replace hn10 := hid hn10.out
          replace hs10 := hid hs10
          replace owcu := hid owcu
          replace hxcu := hid hxcu
          have Ic : (fun w' : World => w'.cell? ⟨r, 0, none⟩ = some (.slice A1 L.length c1)) Ycu := hxcu.out.cell I0
          replace hap1 := hid hap1
          refine step_run rfl _ (ex_append _ _ _ _ rfl _ _ (by simp [Act.eval, Act.put]) (by simp [Act.eval, Act.put]) _ hap1.out) ?_
          refine hK _ _ ⟨fun _ => Ic, ?_⟩
          clear hK K
          try simp only [Act.put, List.getElem_toArray, List.getElem_cons_zero, List.getElem_cons_succ, List.setIfInBounds_toArray, List.set_cons_zero, List.set_cons_succ]
          clear hap1
          refine J_one 17 rfl (by kernel_rfl) (fun K hK => ?_)
          obtain ⟨B17u, n17, e17u, Ydu, hap1, hn17, hs17, owdu, hxdu, -⟩ := appSx hxcu.out hn10 owcu.out (hp2.out.ext hxcu.out) (by have := hs7.out; have := hs10.out; omega) 28
          replace hn17 := hid hn17.out
          replace hs17 := hid hs17
          replace owdu := hid owdu
          replace hxdu := hid hxdu
          have Id : (fun w' : World => w'.cell? ⟨r, 0, none⟩ = some (.slice A1 L.length c1)) Ydu := hxdu.out.cell I0
          replace hap1 := hid hap1
          refine step_run rfl _ (ex_append _ _ _ _ rfl _ _ (by simp [Act.eval, Act.put]) (by simp [Act.eval, Act.put]) _ hap1.out) ?_
          refine hK _ _ ⟨fun _ => Id, ?_⟩
          clear hK K
          try simp only [Act.put, List.getElem_toArray, List.getElem_cons_zero, List.getElem_cons_succ, List.setIfInBounds_toArray, List.set_cons_zero, List.set_cons_succ]
          clear hap1
          have hrn := (hxdu.out.block (Nat.lt_of_lt_of_le lrWu.out hxWu.out.size)).trans ((hxWu.out.block lrWu.out).trans hrW.out)
          have hfr := Lib.frozen_of_heap hrn 0
          refine J_one 18 rfl (by kernel_rfl) (fun K hK => ?_)
          go_simp
          refine hK _ _ ⟨fun _ => Id, ?_⟩
          clear hK K
          try simp only [Act.put, List.getElem_toArray, List.getElem_cons_zero, List.getElem_cons_succ, List.setIfInBounds_toArray, List.set_cons_zero, List.set_cons_succ]
          refine J_one 19 rfl (by kernel_rfl) (fun K hK => ?_)
          go_simp
          refine hK _ _ ⟨fun _ => Id, ?_⟩
          clear hK K
          try simp only [Act.put, List.getElem_toArray, List.getElem_cons_zero, List.getElem_cons_succ, List.setIfInBounds_toArray, List.set_cons_zero, List.set_cons_succ]
          refine J_one 20 rfl (by kernel_rfl) (fun K hK => ?_)
          go_simp
          refine hK _ _ ⟨fun h => absurd rfl h, ?_⟩
          clear hK K
          refine J_done (by kernel_rfl) (OnlyOn.normal ?_)
          clear I0 Id hfr hp1 hp2 hx0 hownN hnN
          have hk4 := owdu.out
          obtain rfl : n17 = L'.length := by have := hn17.out; rw [← hK'.out, hK'l.out] at this; exact this
          rw [← hK'.out] at hk4
          replace hk4 := hid (own_baseK hk4 hxWu.out.size)
          have hx4 := hid (hxWu.out.trans hxdu.out)
          have hr5 := tree2_set0 hrn (.slice B17u L'.length e17u)
          have hF5 : FR (one1 r) w (Ydu.setCell ⟨r, 0, none⟩ (.slice B17u L'.length e17u)) := (FR.of_ext (f := one1 r) (hx3.out.trans hx4.out)).trans fr_one (fun _ _ h => h)
          have hr5n := hid (rd_frame (show Rd w 1 A2 L.length c2 (ints (L.map Te.no)) from h3.out) hF5 (fun hn ad e => if_neg (h6.out hn ad e).2))
          clear hpre hsuf hrn hF5 hrW
          generalize hw5 : Ydu.setCell ⟨r, 0, none⟩ (.slice B17u L'.length e17u) = W5 at *
          replace hw5 := hid hw5.symm
          have zW : W5.cell? ⟨r, 1, none⟩ = some (.slice A2 L.length c2) := by rw [Lib.cell_of_heap hr5]; rfl
          have lrW := (Array.getElem?_eq_some_iff.1 hr5).1
          have hrW := hid hr5
          clear hr5
          have hpre : Hid (∀ W', Ext W5 W' → Rd W' 1 A2 k c2 (ints ((L.map Te.no).take k))) := fun W' hx => by
            have := (hr5n.out.ext hx).takeK hkl
            rw [Nat.mul_one, ints_take] at this
            exact this
          have hsuf : Hid (∀ W', Ext W5 W' → Rd W' 1 (if c2 = k then A2 else A2.map (·.add k)) (L.length - k) (c2 - k) (ints ((L.map Te.no).drop k))) := fun W' hx => by
            have := (hr5n.out.ext hx).cut hkl
            rw [Nat.mul_one, ints_drop] at this
            exact this
          go_upto_region 9 with fail
          have I0 : (fun w' : World => w'.cell? ⟨r, 1, none⟩ = some (.slice A2 L.length c2)) W5.drew := zW
          refine region_J (fun w' : World => w'.cell? ⟨r, 1, none⟩ = some (.slice A2 L.length c2)) 20 (by kernel_rfl) ?_
          have hxWp := hid ((Ext.refl W5).drew_right)
          have lrWp := hid lrW
          clear zW lrW
          generalize W5.drew = Xp at *
          have hp1 := hid (hpre.out Xp hxWp.out)
          have hp2 := hid (hsuf.out Xp hxWp.out)
          have hx0 := hid (Ext.refl Xp)
          have hownN := hid (show Xp.ownsRow Xp.heap.size 3 1 (.slice none 0 0) 0 (ints []) from World.ownsRow_nil _ _ _ _)
          have hnN : Hid (0 = ([] : List Int).length) := rfl
          refine J_take 0 (v := ?vp0) rfl (by kernel_rfl) (by kernel_rfl) (by kernel_rfl) (by kernel_rfl) (fun _ _ _ h => h) (Or.inl ⟨by rfl, ?yp0⟩) I0 ?rp0
          case yp0 => (intro w hSw; have := hSw; (go_simp; with_reducible rfl))
          simp only [Act.put, List.getElem_toArray, List.getElem_cons_zero, List.getElem_cons_succ, List.setIfInBounds_toArray, List.set_cons_zero, List.set_cons_succ]
          refine J_take 1 (v := ?vp1) rfl (by kernel_rfl) (by kernel_rfl) (by kernel_rfl) (by kernel_rfl) (fun _ _ _ h => h) (Or.inl ⟨by rfl, ?yp1⟩) I0 ?rp1
          case yp1 => (intro w hSw; have := hSw; (go_simp; with_reducible rfl))
          simp only [Act.put, List.getElem_toArray, List.getElem_cons_zero, List.getElem_cons_succ, List.setIfInBounds_toArray, List.set_cons_zero, List.set_cons_succ]
          refine J_take 2 (v := ?vp2) rfl (by kernel_rfl) (by kernel_rfl) (by kernel_rfl) (by kernel_rfl) (fun _ _ _ h => h) (Or.inl ⟨by rfl, ?yp2⟩) I0 ?rp2
          case yp2 => (intro w hSw; have := hSw; (go_simp; with_reducible rfl))
          simp only [Act.put, List.getElem_toArray, List.getElem_cons_zero, List.getElem_cons_succ, List.setIfInBounds_toArray, List.set_cons_zero, List.set_cons_succ]
          refine J_take 3 (v := ?vp3) rfl (by kernel_rfl) (by kernel_rfl) (by kernel_rfl) (by kernel_rfl) (fun _ _ _ h => h) (Or.inl ⟨by rfl, ?yp3⟩) I0 ?rp3
          case yp3 => (intro w hSw; have := hSw; (go_simp; with_reducible rfl))
          simp only [Act.put, List.getElem_toArray, List.getElem_cons_zero, List.getElem_cons_succ, List.setIfInBounds_toArray, List.set_cons_zero, List.set_cons_succ]
          refine J_take 4 (v := ?vp4) rfl (by kernel_rfl) (by kernel_rfl) (by kernel_rfl) (by kernel_rfl) (fun _ _ _ h => h) (Or.inl ⟨by rfl, ?yp4⟩) I0 ?rp4
          case yp4 => (intro w hSw; have := hSw; (go_simp; with_reducible rfl))
          simp only [Act.put, List.getElem_toArray, List.getElem_cons_zero, List.getElem_cons_succ, List.setIfInBounds_toArray, List.set_cons_zero, List.set_cons_succ]
          refine J_take 5 (v := ?vp5) rfl (by kernel_rfl) (by kernel_rfl) (by kernel_rfl) (by kernel_rfl) (fun _ _ _ h => h) (Or.inl ⟨by rfl, ?yp5⟩) I0 ?rp5
          case yp5 => (intro w hSw; have := hSw; (go_simp; with_reducible rfl))
          simp only [Act.put, List.getElem_toArray, List.getElem_cons_zero, List.getElem_cons_succ, List.setIfInBounds_toArray, List.set_cons_zero, List.set_cons_succ]
          refine J_take 6 (v := ?vp6) rfl (by kernel_rfl) (by kernel_rfl) (by kernel_rfl) (by kernel_rfl) (fun _ _ _ h => h) (Or.inl ⟨by rfl, ?yp6⟩) I0 ?rp6
          case yp6 => (intro w hSw; have := hSw; (go_simp; with_reducible rfl))
          simp only [Act.put, List.getElem_toArray, List.getElem_cons_zero, List.getElem_cons_succ, List.setIfInBounds_toArray, List.set_cons_zero, List.set_cons_succ]
          refine J_take 8 (v := ?vp8) rfl (by kernel_rfl) (by kernel_rfl) (by kernel_rfl) (by kernel_rfl) (fun _ _ _ h => h) (Or.inl ⟨by rfl, ?yp8⟩) I0 ?rp8
          case yp8 => (intro w hSw; have := hSw; (go_simp; with_reducible rfl))
          simp only [Act.put, List.getElem_toArray, List.getElem_cons_zero, List.getElem_cons_succ, List.setIfInBounds_toArray, List.set_cons_zero, List.set_cons_succ]
          refine J_take 11 (v := ?vp11) rfl (by kernel_rfl) (by kernel_rfl) (by kernel_rfl) (by kernel_rfl) (fun _ _ _ h => h) (Or.inl ⟨by rfl, ?yp11⟩) I0 ?rp11
          case yp11 => (intro w hSw; have := hSw; (go_simp; with_reducible rfl))
          simp only [Act.put, List.getElem_toArray, List.getElem_cons_zero, List.getElem_cons_succ, List.setIfInBounds_toArray, List.set_cons_zero, List.set_cons_succ]
          refine J_take 12 (v := ?vp12) rfl (by kernel_rfl) (by kernel_rfl) (by kernel_rfl) (by kernel_rfl) (fun _ _ _ h => h) (Or.inl ⟨by rfl, ?yp12⟩) I0 ?rp12
          case yp12 => (intro w hSw; have := hSw; (go_simp; with_reducible rfl))
          simp only [Act.put, List.getElem_toArray, List.getElem_cons_zero, List.getElem_cons_succ, List.setIfInBounds_toArray, List.set_cons_zero, List.set_cons_succ]
          refine J_take 13 (v := ?vp13) rfl (by kernel_rfl) (by kernel_rfl) (by kernel_rfl) (by kernel_rfl) (fun _ _ _ h => h) (Or.inl ⟨by rfl, ?yp13⟩) I0 ?rp13
          case yp13 => (intro w hSw; have := hSw; (go_simp; with_reducible rfl))
          simp only [Act.put, List.getElem_toArray, List.getElem_cons_zero, List.getElem_cons_succ, List.setIfInBounds_toArray, List.set_cons_zero, List.set_cons_succ]
          refine J_take 14 (v := ?vp14) rfl (by kernel_rfl) (by kernel_rfl) (by kernel_rfl) (by kernel_rfl) (fun _ _ _ h => h) (Or.inl ⟨by rfl, ?yp14⟩) I0 ?rp14
          case yp14 => (intro w hSw; have := hSw; (go_simp; with_reducible rfl))
          simp only [Act.put, List.getElem_toArray, List.getElem_cons_zero, List.getElem_cons_succ, List.setIfInBounds_toArray, List.set_cons_zero, List.set_cons_succ]
          refine J_take 15 (v := ?vp15) rfl (by kernel_rfl) (by kernel_rfl) (by kernel_rfl) (by kernel_rfl) (fun _ _ _ h => h) (Or.inl ⟨by rfl, ?yp15⟩) I0 ?rp15
          case yp15 => (intro w hSw; have := hSw; (go_simp; with_reducible rfl))
          simp only [Act.put, List.getElem_toArray, List.getElem_cons_zero, List.getElem_cons_succ, List.setIfInBounds_toArray, List.set_cons_zero, List.set_cons_succ]
          refine J_take 16 (v := ?vp16) rfl (by kernel_rfl) (by kernel_rfl) (by kernel_rfl) (by kernel_rfl) (fun _ _ _ h => h) (Or.inl ⟨by rfl, ?yp16⟩) I0 ?rp16
          case yp16 => (intro w hSw; have := hSw; (go_simp; with_reducible rfl))
          simp only [Act.put, List.getElem_toArray, List.getElem_cons_zero, List.getElem_cons_succ, List.setIfInBounds_toArray, List.set_cons_zero, List.set_cons_succ]
          refine J_two 7 9 rfl rfl (by kernel_rfl) (fun K hK => ?_) (fun K hK => ?_)
          · obtain ⟨B7p, n7, e7p, Yap, hap1, hn7, hs7, owap, hxap, -⟩ := appIx hx0.out hnN hownN.out hp1.out (by omega) 29
            replace hn7 := hid hn7.out
            replace hs7 := hid hs7
            replace owap := hid owap
            replace hxap := hid hxap
            have Ia : (fun w' : World => w'.cell? ⟨r, 1, none⟩ = some (.slice A2 L.length c2)) Yap := hxap.out.cell I0
            replace hap1 := hid hap1
            refine step_run rfl _ (ex_append _ _ _ _ rfl _ _ (by simp [Act.eval, Act.put]) (by simp [Act.eval, Act.put]) _ hap1.out) ?_
            refine hK _ _ ⟨fun _ => Ia, ?_⟩
            clear hK K
            try simp only [Act.put, List.getElem_toArray, List.getElem_cons_zero, List.getElem_cons_succ, List.setIfInBounds_toArray, List.set_cons_zero, List.set_cons_succ]
            clear hap1
            refine J_one 9 rfl (by kernel_rfl) (fun K hK => ?_)
            go_simp
            have hxbp := hid (hxap.out.alloc_right (.cells #[.int .i64 i] 3))
            have hnw := hid (rd_new1 Yap (.int .i64 i) 3)
            have owbp := hid (owap.out.alloc (.cells #[.int .i64 i] 3))
            have Ib : (fun w' : World => w'.cell? ⟨r, 1, none⟩ = some (.slice A2 L.length c2)) (Yap.alloc (.cells #[.int .i64 i] 3)) := hxbp.out.cell I0
            refine hK _ _ ⟨fun _ => Ib, ?_⟩
            clear hK K
            try simp only [Act.put, List.getElem_toArray, List.getElem_cons_zero, List.getElem_cons_succ, List.setIfInBounds_toArray, List.set_cons_zero, List.set_cons_succ]
            obtain ⟨nb, hnb⟩ : ∃ nb, nb = Yap.heap.size := ⟨_, rfl⟩
            rw [← hnb] at hnw
            simp only [← hnb]
            replace hnb := hid hnb
            generalize (Yap.alloc (.cells #[.int .i64 i] 3)) = Ybp at *
            refine J_one 10 rfl (by kernel_rfl) (fun K hK => ?_)
            obtain ⟨B10p, n10, e10p, Ycp, hap1, hn10, hs10, owcp, hxcp, -⟩ := appIx (es := [i]) hxbp.out hn7 owbp.out hnw.out (by have := hs7.out; omega) 29
            replace hn10 := hid hn10.out
            replace hs10 := hid hs10
            replace owcp := hid owcp
            replace hxcp := hid hxcp
            have Ic : (fun w' : World => w'.cell? ⟨r, 1, none⟩ = some (.slice A2 L.length c2)) Ycp := hxcp.out.cell I0
            replace hap1 := hid hap1
            refine step_run rfl _ (ex_append _ _ _ _ rfl _ _ (by simp [Act.eval, Act.put]) (by simp [Act.eval, Act.put]) _ hap1.out) ?_
            refine hK _ _ ⟨fun _ => Ic, ?_⟩
            clear hK K
            try simp only [Act.put, List.getElem_toArray, List.getElem_cons_zero, List.getElem_cons_succ, List.setIfInBounds_toArray, List.set_cons_zero, List.set_cons_succ]
            clear hap1
            refine J_one 17 rfl (by kernel_rfl) (fun K hK => ?_)
            obtain ⟨B17p, n17, e17p, Ydp, hap1, hn17, hs17, owdp, hxdp, -⟩ := appIx hxcp.out hn10 owcp.out (hp2.out.ext hxcp.out) (by have := hs7.out; have := hs10.out; omega) 29
            replace hn17 := hid hn17.out
            replace hs17 := hid hs17
            replace owdp := hid owdp
            replace hxdp := hid hxdp
            have Id : (fun w' : World => w'.cell? ⟨r, 1, none⟩ = some (.slice A2 L.length c2)) Ydp := hxdp.out.cell I0
            replace hap1 := hid hap1
            refine step_run rfl _ (ex_append _ _ _ _ rfl _ _ (by simp [Act.eval, Act.put]) (by simp [Act.eval, Act.put]) _ hap1.out) ?_
            refine hK _ _ ⟨fun _ => Id, ?_⟩
            clear hK K
            try simp only [Act.put, List.getElem_toArray, List.getElem_cons_zero, List.getElem_cons_succ, List.setIfInBounds_toArray, List.set_cons_zero, List.set_cons_succ]
            clear hap1
            have hrn := (hxdp.out.block (Nat.lt_of_lt_of_le lrWp.out hxWp.out.size)).trans ((hxWp.out.block lrWp.out).trans hrW.out)
            have hfr := Lib.frozen_of_heap hrn 1
            refine J_one 18 rfl (by kernel_rfl) (fun K hK => ?_)
            go_simp
            refine hK _ _ ⟨fun _ => Id, ?_⟩
            clear hK K
            try simp only [Act.put, List.getElem_toArray, List.getElem_cons_zero, List.getElem_cons_succ, List.setIfInBounds_toArray, List.set_cons_zero, List.set_cons_succ]
            refine J_one 19 rfl (by kernel_rfl) (fun K hK => ?_)
            go_simp
            refine hK _ _ ⟨fun _ => Id, ?_⟩
            clear hK K
            try simp only [Act.put, List.getElem_toArray, List.getElem_cons_zero, List.getElem_cons_succ, List.setIfInBounds_toArray, List.set_cons_zero, List.set_cons_succ]
            refine J_one 20 rfl (by kernel_rfl) (fun K hK => ?_)
            go_simp
            refine hK _ _ ⟨fun h => absurd rfl h, ?_⟩
            clear hK K
            refine J_done (by kernel_rfl) (OnlyOn.normal ?_)
            clear I0 Id hfr hp1 hp2 hx0 hownN hnN
            have hk7 := owdp.out
            obtain rfl : n17 = L'.length := by have := hn17.out; rw [← hN'.out, hN'l.out] at this; exact this
            rw [← hN'.out] at hk7
            have hfin : Hid (RTurned w (Ydp.setCell ⟨r, 1, none⟩ (.slice B17p L'.length e17p)) r G L') :=
              RTurned.mk2 hlr.out hGr.out hx3.out hr3.out hx4.out hk4.out hw5.out (hxWp.out.trans hxdp.out) (own_baseK hk7 hxWp.out.size)
            clear hk7 hrn
            go_wp2
            all_goals
              go_ret
              exact ⟨by rw [hE1.out]; rfl, hfin.out⟩
          · go_simp
            have hxap := hid (hx0.out.alloc_right (.cells #[.int .i64 i] 3))
            have hnw := hid (rd_new1 Xp (.int .i64 i) 3)
            have owap := hid (hownN.out.alloc (.cells #[.int .i64 i] 3))
            have Ia : (fun w' : World => w'.cell? ⟨r, 1, none⟩ = some (.slice A2 L.length c2)) (Xp.alloc (.cells #[.int .i64 i] 3)) := hxap.out.cell I0
            refine hK _ _ ⟨fun _ => Ia, ?_⟩
            clear hK K
            try simp only [Act.put, List.getElem_toArray, List.getElem_cons_zero, List.getElem_cons_succ, List.setIfInBounds_toArray, List.set_cons_zero, List.set_cons_succ]
            obtain ⟨nb, hnb⟩ : ∃ nb, nb = Xp.heap.size := ⟨_, rfl⟩
            rw [← hnb] at hnw
            simp only [← hnb]
            replace hnb := hid hnb
            generalize (Xp.alloc (.cells #[.int .i64 i] 3)) = Yap at *
            refine J_one 7 rfl (by kernel_rfl) (fun K hK => ?_)
            obtain ⟨B7p, n7, e7p, Ybp, hap1, hn7, hs7, owbp, hxbp, hgw⟩ := appIx hxap.out hnN owap.out (hp1.out.ext hxap.out) (by omega) 29
            replace hn7 := hid hn7.out
            replace hs7 := hid hs7
            replace owbp := hid owbp
            replace hxbp := hid hxbp
            have Ib : (fun w' : World => w'.cell? ⟨r, 1, none⟩ = some (.slice A2 L.length c2)) Ybp := hxbp.out.cell I0
            replace hnw := hid (hnw.out.ext (ext_none hgw))
            clear hgw
            replace hap1 := hid hap1
            refine step_run rfl _ (ex_append _ _ _ _ rfl _ _ (by simp [Act.eval, Act.put]) (by simp [Act.eval, Act.put]) _ hap1.out) ?_
            refine hK _ _ ⟨fun _ => Ib, ?_⟩
            clear hK K
            try simp only [Act.put, List.getElem_toArray, List.getElem_cons_zero, List.getElem_cons_succ, List.setIfInBounds_toArray, List.set_cons_zero, List.set_cons_succ]
            clear hap1
            refine J_one 10 rfl (by kernel_rfl) (fun K hK => ?_)
            obtain ⟨B10p, n10, e10p, Ycp, hap1, hn10, hs10, owcp, hxcp, -⟩ := appIx (es := [i]) hxbp.out hn7 owbp.out hnw.out (by have := hs7.out; omega) 29
            replace hn10 := hid hn10.out
            replace hs10 := hid hs10
            replace owcp := hid owcp
            replace hxcp := hid hxcp
            have Ic : (fun w' : World => w'.cell? ⟨r, 1, none⟩ = some (.slice A2 L.length c2)) Ycp := hxcp.out.cell I0
            replace hap1 := hid hap1
            refine step_run rfl _ (ex_append _ _ _ _ rfl _ _ (by simp [Act.eval, Act.put]) (by simp [Act.eval, Act.put]) _ hap1.out) ?_
            refine hK _ _ ⟨fun _ => Ic, ?_⟩
            clear hK K
            try simp only [Act.put, List.getElem_toArray, List.getElem_cons_zero, List.getElem_cons_succ, List.setIfInBounds_toArray, List.set_cons_zero, List.set_cons_succ]
            clear hap1
            refine J_one 17 rfl (by kernel_rfl) (fun K hK => ?_)
            obtain ⟨B17p, n17, e17p, Ydp, hap1, hn17, hs17, owdp, hxdp, -⟩ := appIx hxcp.out hn10 owcp.out (hp2.out.ext hxcp.out) (by have := hs7.out; have := hs10.out; omega) 29
            replace hn17 := hid hn17.out
            replace hs17 := hid hs17
            replace owdp := hid owdp
            replace hxdp := hid hxdp
            have Id : (fun w' : World => w'.cell? ⟨r, 1, none⟩ = some (.slice A2 L.length c2)) Ydp := hxdp.out.cell I0
            replace hap1 := hid hap1
            refine step_run rfl _ (ex_append _ _ _ _ rfl _ _ (by simp [Act.eval, Act.put]) (by simp [Act.eval, Act.put]) _ hap1.out) ?_
            refine hK _ _ ⟨fun _ => Id, ?_⟩
            clear hK K
            try simp only [Act.put, List.getElem_toArray, List.getElem_cons_zero, List.getElem_cons_succ, List.setIfInBounds_toArray, List.set_cons_zero, List.set_cons_succ]
            clear hap1
            have hrn := (hxdp.out.block (Nat.lt_of_lt_of_le lrWp.out hxWp.out.size)).trans ((hxWp.out.block lrWp.out).trans hrW.out)
            have hfr := Lib.frozen_of_heap hrn 1
            refine J_one 18 rfl (by kernel_rfl) (fun K hK => ?_)
            go_simp
            refine hK _ _ ⟨fun _ => Id, ?_⟩
            clear hK K
            try simp only [Act.put, List.getElem_toArray, List.getElem_cons_zero, List.getElem_cons_succ, List.setIfInBounds_toArray, List.set_cons_zero, List.set_cons_succ]
            refine J_one 19 rfl (by kernel_rfl) (fun K hK => ?_)
            go_simp
            refine hK _ _ ⟨fun _ => Id, ?_⟩
            clear hK K
            try simp only [Act.put, List.getElem_toArray, List.getElem_cons_zero, List.getElem_cons_succ, List.setIfInBounds_toArray, List.set_cons_zero, List.set_cons_succ]
            refine J_one 20 rfl (by kernel_rfl) (fun K hK => ?_)
            go_simp
            refine hK _ _ ⟨fun h => absurd rfl h, ?_⟩
            clear hK K
            refine J_done (by kernel_rfl) (OnlyOn.normal ?_)
            clear I0 Id hfr hp1 hp2 hx0 hownN hnN
            have hk7 := owdp.out
            obtain rfl : n17 = L'.length := by have := hn17.out; rw [← hN'.out, hN'l.out] at this; exact this
            rw [← hN'.out] at hk7
            have hfin : Hid (RTurned w (Ydp.setCell ⟨r, 1, none⟩ (.slice B17p L'.length e17p)) r G L') :=
              RTurned.mk2 hlr.out hGr.out hx3.out hr3.out hx4.out hk4.out hw5.out (hxWp.out.trans hxdp.out) (own_baseK hk7 hxWp.out.size)
            clear hk7 hrn
            go_wp2
            all_goals
              go_ret
              exact ⟨by rw [hE1.out]; rfl, hfin.out⟩
        · go_simp
          have hxau := hid (hx0.out.alloc_right (.cells #[.string s] 9))
          have hnw := hid (rd_new1 Xu (.string s) 9)
          have owau := hid (hownN.out.alloc (.cells #[.string s] 9))
          have Ia : (fun w' : World => w'.cell? ⟨r, 0, none⟩ = some (.slice A1 L.length c1)) (Xu.alloc (.cells #[.string s] 9)) := hxau.out.cell I0
          refine hK _ _ ⟨fun _ => Ia, ?_⟩
          clear hK K
          try simp only [Act.put, List.getElem_toArray, List.getElem_cons_zero, List.getElem_cons_succ, List.setIfInBounds_toArray, List.set_cons_zero, List.set_cons_succ]
          obtain ⟨nb, hnb⟩ : ∃ nb, nb = Xu.heap.size := ⟨_, rfl⟩
          rw [← hnb] at hnw
          simp only [← hnb]
          replace hnb := hid hnb
          generalize (Xu.alloc (.cells #[.string s] 9)) = Yau at *
          refine J_one 7 rfl (by kernel_rfl) (fun K hK => ?_)
          obtain ⟨B7u, n7, e7u, Ybu, hap1, hn7, hs7, owbu, hxbu, hgw⟩ := appSx hxau.out hnN owau.out (hp1.out.ext hxau.out) (by omega) 28
          replace hn7 := hid hn7.out
          replace hs7 := hid hs7
          replace owbu := hid owbu
          replace hxbu := hid hxbu
          have Ib : (fun w' : World => w'.cell? ⟨r, 0, none⟩ = some (.slice A1 L.length c1)) Ybu := hxbu.out.cell I0
          replace hnw := hid (hnw.out.ext (ext_none hgw))
          clear hgw
          replace hap1 := hid hap1
          refine step_run rfl _ (ex_append _ _ _ _ rfl _ _ (by simp [Act.eval, Act.put]) (by simp [Act.eval, Act.put]) _ hap1.out) ?_
          refine hK _ _ ⟨fun _ => Ib, ?_⟩
          clear hK K
          try simp only [Act.put, List.getElem_toArray, List.getElem_cons_zero, List.getElem_cons_succ, List.setIfInBounds_toArray, List.set_cons_zero, List.set_cons_succ]
          clear hap1
          refine J_one 10 rfl (by kernel_rfl) (fun K hK => ?_)
          obtain ⟨B10u, n10, e10u, Ycu, hap1, hn10, hs10, owcu, hxcu, -⟩ := appSx (es := [s]) hxbu.out hn7 owbu.out hnw.out (by have := hs7.out; omega) 28
          replace hn10 := hid hn10.out
          replace hs10 := hid hs10
          replace owcu := hid owcu
          replace hxcu := hid hxcu
          have Ic : (fun w' : World => w'.cell? ⟨r, 0, none⟩ = some (.slice A1 L.length c1)) Ycu := hxcu.out.cell I0
          replace hap1 := hid hap1
          refine step_run rfl _ (ex_append _ _ _ _ rfl _ _ (by simp [Act.eval, Act.put]) (by simp [Act.eval, Act.put]) _ hap1.out) ?_
          refine hK _ _ ⟨fun _ => Ic, ?_⟩
          clear hK K
          try simp only [Act.put, List.getElem_toArray, List.getElem_cons_zero, List.getElem_cons_succ, List.setIfInBounds_toArray, List.set_cons_zero, List.set_cons_succ]
          clear hap1
          refine J_one 17 rfl (by kernel_rfl) (fun K hK => ?_)
          obtain ⟨B17u, n17, e17u, Ydu, hap1, hn17, hs17, owdu, hxdu, -⟩ := appSx hxcu.out hn10 owcu.out (hp2.out.ext hxcu.out) (by have := hs7.out; have := hs10.out; omega) 28
          replace hn17 := hid hn17.out
          replace hs17 := hid hs17
          replace owdu := hid owdu
          replace hxdu := hid hxdu
          have Id : (fun w' : World => w'.cell? ⟨r, 0, none⟩ = some (.slice A1 L.length c1)) Ydu := hxdu.out.cell I0
          replace hap1 := hid hap1
          refine step_run rfl _ (ex_append _ _ _ _ rfl _ _ (by simp [Act.eval, Act.put]) (by simp [Act.eval, Act.put]) _ hap1.out) ?_
          refine hK _ _ ⟨fun _ => Id, ?_⟩
          clear hK K
          try simp only [Act.put, List.getElem_toArray, List.getElem_cons_zero, List.getElem_cons_succ, List.setIfInBounds_toArray, List.set_cons_zero, List.set_cons_succ]
          clear hap1
          have hrn := (hxdu.out.block (Nat.lt_of_lt_of_le lrWu.out hxWu.out.size)).trans ((hxWu.out.block lrWu.out).trans hrW.out)
          have hfr := Lib.frozen_of_heap hrn 0
          refine J_one 18 rfl (by kernel_rfl) (fun K hK => ?_)
          go_simp
          refine hK _ _ ⟨fun _ => Id, ?_⟩
          clear hK K
          try simp only [Act.put, List.getElem_toArray, List.getElem_cons_zero, List.getElem_cons_succ, List.setIfInBounds_toArray, List.set_cons_zero, List.set_cons_succ]
          refine J_one 19 rfl (by kernel_rfl) (fun K hK => ?_)
          go_simp
          refine hK _ _ ⟨fun _ => Id, ?_⟩
          clear hK K
          try simp only [Act.put, List.getElem_toArray, List.getElem_cons_zero, List.getElem_cons_succ, List.setIfInBounds_toArray, List.set_cons_zero, List.set_cons_succ]
          refine J_one 20 rfl (by kernel_rfl) (fun K hK => ?_)
          go_simp
          refine hK _ _ ⟨fun h => absurd rfl h, ?_⟩
          clear hK K
          refine J_done (by kernel_rfl) (OnlyOn.normal ?_)
          clear I0 Id hfr hp1 hp2 hx0 hownN hnN
          have hk4 := owdu.out
          obtain rfl : n17 = L'.length := by have := hn17.out; rw [← hK'.out, hK'l.out] at this; exact this
          rw [← hK'.out] at hk4
          replace hk4 := hid (own_baseK hk4 hxWu.out.size)
          have hx4 := hid (hxWu.out.trans hxdu.out)
          have hr5 := tree2_set0 hrn (.slice B17u L'.length e17u)
          have hF5 : FR (one1 r) w (Ydu.setCell ⟨r, 0, none⟩ (.slice B17u L'.length e17u)) := (FR.of_ext (f := one1 r) (hx3.out.trans hx4.out)).trans fr_one (fun _ _ h => h)
          have hr5n := hid (rd_frame (show Rd w 1 A2 L.length c2 (ints (L.map Te.no)) from h3.out) hF5 (fun hn ad e => if_neg (h6.out hn ad e).2))
          clear hpre hsuf hrn hF5 hrW
          generalize hw5 : Ydu.setCell ⟨r, 0, none⟩ (.slice B17u L'.length e17u) = W5 at *
          replace hw5 := hid hw5.symm
          have zW : W5.cell? ⟨r, 1, none⟩ = some (.slice A2 L.length c2) := by rw [Lib.cell_of_heap hr5]; rfl
          have lrW := (Array.getElem?_eq_some_iff.1 hr5).1
          have hrW := hid hr5
          clear hr5
          have hpre : Hid (∀ W', Ext W5 W' → Rd W' 1 A2 k c2 (ints ((L.map Te.no).take k))) := fun W' hx => by
            have := (hr5n.out.ext hx).takeK hkl
            rw [Nat.mul_one, ints_take] at this
            exact this
          have hsuf : Hid (∀ W', Ext W5 W' → Rd W' 1 (if c2 = k then A2 else A2.map (·.add k)) (L.length - k) (c2 - k) (ints ((L.map Te.no).drop k))) := fun W' hx => by
            have := (hr5n.out.ext hx).cut hkl
            rw [Nat.mul_one, ints_drop] at this
            exact this
          go_upto_region 9 with fail
          have I0 : (fun w' : World => w'.cell? ⟨r, 1, none⟩ = some (.slice A2 L.length c2)) W5.drew := zW
          refine region_J (fun w' : World => w'.cell? ⟨r, 1, none⟩ = some (.slice A2 L.length c2)) 20 (by kernel_rfl) ?_
          have hxWq := hid ((Ext.refl W5).drew_right)
          have lrWq := hid lrW
          clear zW lrW
          generalize W5.drew = Xq at *
          have hp1 := hid (hpre.out Xq hxWq.out)
          have hp2 := hid (hsuf.out Xq hxWq.out)
          have hx0 := hid (Ext.refl Xq)
          have hownN := hid (show Xq.ownsRow Xq.heap.size 3 1 (.slice none 0 0) 0 (ints []) from World.ownsRow_nil _ _ _ _)
          have hnN : Hid (0 = ([] : List Int).length) := rfl
          refine J_take 0 (v := ?vq0) rfl (by kernel_rfl) (by kernel_rfl) (by kernel_rfl) (by kernel_rfl) (fun _ _ _ h => h) (Or.inl ⟨by rfl, ?yq0⟩) I0 ?rq0
          case yq0 => (intro w hSw; have := hSw; (go_simp; with_reducible rfl))
          simp only [Act.put, List.getElem_toArray, List.getElem_cons_zero, List.getElem_cons_succ, List.setIfInBounds_toArray, List.set_cons_zero, List.set_cons_succ]
          refine J_take 1 (v := ?vq1) rfl (by kernel_rfl) (by kernel_rfl) (by kernel_rfl) (by kernel_rfl) (fun _ _ _ h => h) (Or.inl ⟨by rfl, ?yq1⟩) I0 ?rq1
          case yq1 => (intro w hSw; have := hSw; (go_simp; with_reducible rfl))
          simp only [Act.put, List.getElem_toArray, List.getElem_cons_zero, List.getElem_cons_succ, List.setIfInBounds_toArray, List.set_cons_zero, List.set_cons_succ]
          refine J_take 2 (v := ?vq2) rfl (by kernel_rfl) (by kernel_rfl) (by kernel_rfl) (by kernel_rfl) (fun _ _ _ h => h) (Or.inl ⟨by rfl, ?yq2⟩) I0 ?rq2
          case yq2 => (intro w hSw; have := hSw; (go_simp; with_reducible rfl))
          simp only [Act.put, List.getElem_toArray, List.getElem_cons_zero, List.getElem_cons_succ, List.setIfInBounds_toArray, List.set_cons_zero, List.set_cons_succ]
          refine J_take 3 (v := ?vq3) rfl (by kernel_rfl) (by kernel_rfl) (by kernel_rfl) (by kernel_rfl) (fun _ _ _ h => h) (Or.inl ⟨by rfl, ?yq3⟩) I0 ?rq3
          case yq3 => (intro w hSw; have := hSw; (go_simp; with_reducible rfl))
          simp only [Act.put, List.getElem_toArray, List.getElem_cons_zero, List.getElem_cons_succ, List.setIfInBounds_toArray, List.set_cons_zero, List.set_cons_succ]
          refine J_take 4 (v := ?vq4) rfl (by kernel_rfl) (by kernel_rfl) (by kernel_rfl) (by kernel_rfl) (fun _ _ _ h => h) (Or.inl ⟨by rfl, ?yq4⟩) I0 ?rq4
          case yq4 => (intro w hSw; have := hSw; (go_simp; with_reducible rfl))
          simp only [Act.put, List.getElem_toArray, List.getElem_cons_zero, List.getElem_cons_succ, List.setIfInBounds_toArray, List.set_cons_zero, List.set_cons_succ]
          refine J_take 5 (v := ?vq5) rfl (by kernel_rfl) (by kernel_rfl) (by kernel_rfl) (by kernel_rfl) (fun _ _ _ h => h) (Or.inl ⟨by rfl, ?yq5⟩) I0 ?rq5
          case yq5 => (intro w hSw; have := hSw; (go_simp; with_reducible rfl))
          simp only [Act.put, List.getElem_toArray, List.getElem_cons_zero, List.getElem_cons_succ, List.setIfInBounds_toArray, List.set_cons_zero, List.set_cons_succ]
          refine J_take 6 (v := ?vq6) rfl (by kernel_rfl) (by kernel_rfl) (by kernel_rfl) (by kernel_rfl) (fun _ _ _ h => h) (Or.inl ⟨by rfl, ?yq6⟩) I0 ?rq6
          case yq6 => (intro w hSw; have := hSw; (go_simp; with_reducible rfl))
          simp only [Act.put, List.getElem_toArray, List.getElem_cons_zero, List.getElem_cons_succ, List.setIfInBounds_toArray, List.set_cons_zero, List.set_cons_succ]
          refine J_take 8 (v := ?vq8) rfl (by kernel_rfl) (by kernel_rfl) (by kernel_rfl) (by kernel_rfl) (fun _ _ _ h => h) (Or.inl ⟨by rfl, ?yq8⟩) I0 ?rq8
          case yq8 => (intro w hSw; have := hSw; (go_simp; with_reducible rfl))
          simp only [Act.put, List.getElem_toArray, List.getElem_cons_zero, List.getElem_cons_succ, List.setIfInBounds_toArray, List.set_cons_zero, List.set_cons_succ]
          refine J_take 11 (v := ?vq11) rfl (by kernel_rfl) (by kernel_rfl) (by kernel_rfl) (by kernel_rfl) (fun _ _ _ h => h) (Or.inl ⟨by rfl, ?yq11⟩) I0 ?rq11
          case yq11 => (intro w hSw; have := hSw; (go_simp; with_reducible rfl))
          simp only [Act.put, List.getElem_toArray, List.getElem_cons_zero, List.getElem_cons_succ, List.setIfInBounds_toArray, List.set_cons_zero, List.set_cons_succ]
          refine J_take 12 (v := ?vq12) rfl (by kernel_rfl) (by kernel_rfl) (by kernel_rfl) (by kernel_rfl) (fun _ _ _ h => h) (Or.inl ⟨by rfl, ?yq12⟩) I0 ?rq12
          case yq12 => (intro w hSw; have := hSw; (go_simp; with_reducible rfl))
          simp only [Act.put, List.getElem_toArray, List.getElem_cons_zero, List.getElem_cons_succ, List.setIfInBounds_toArray, List.set_cons_zero, List.set_cons_succ]
          refine J_take 13 (v := ?vq13) rfl (by kernel_rfl) (by kernel_rfl) (by kernel_rfl) (by kernel_rfl) (fun _ _ _ h => h) (Or.inl ⟨by rfl, ?yq13⟩) I0 ?rq13
          case yq13 => (intro w hSw; have := hSw; (go_simp; with_reducible rfl))
          simp only [Act.put, List.getElem_toArray, List.getElem_cons_zero, List.getElem_cons_succ, List.setIfInBounds_toArray, List.set_cons_zero, List.set_cons_succ]
          refine J_take 14 (v := ?vq14) rfl (by kernel_rfl) (by kernel_rfl) (by kernel_rfl) (by kernel_rfl) (fun _ _ _ h => h) (Or.inl ⟨by rfl, ?yq14⟩) I0 ?rq14
          case yq14 => (intro w hSw; have := hSw; (go_simp; with_reducible rfl))
          simp only [Act.put, List.getElem_toArray, List.getElem_cons_zero, List.getElem_cons_succ, List.setIfInBounds_toArray, List.set_cons_zero, List.set_cons_succ]
          refine J_take 15 (v := ?vq15) rfl (by kernel_rfl) (by kernel_rfl) (by kernel_rfl) (by kernel_rfl) (fun _ _ _ h => h) (Or.inl ⟨by rfl, ?yq15⟩) I0 ?rq15
          case yq15 => (intro w hSw; have := hSw; (go_simp; with_reducible rfl))
          simp only [Act.put, List.getElem_toArray, List.getElem_cons_zero, List.getElem_cons_succ, List.setIfInBounds_toArray, List.set_cons_zero, List.set_cons_succ]
          refine J_take 16 (v := ?vq16) rfl (by kernel_rfl) (by kernel_rfl) (by kernel_rfl) (by kernel_rfl) (fun _ _ _ h => h) (Or.inl ⟨by rfl, ?yq16⟩) I0 ?rq16
          case yq16 => (intro w hSw; have := hSw; (go_simp; with_reducible rfl))
          simp only [Act.put, List.getElem_toArray, List.getElem_cons_zero, List.getElem_cons_succ, List.setIfInBounds_toArray, List.set_cons_zero, List.set_cons_succ]
          refine J_two 7 9 rfl rfl (by kernel_rfl) (fun K hK => ?_) (fun K hK => ?_)
          · obtain ⟨B7q, n7, e7q, Yaq, hap1, hn7, hs7, owaq, hxaq, -⟩ := appIx hx0.out hnN hownN.out hp1.out (by omega) 29
            replace hn7 := hid hn7.out
            replace hs7 := hid hs7
            replace owaq := hid owaq
            replace hxaq := hid hxaq
            have Ia : (fun w' : World => w'.cell? ⟨r, 1, none⟩ = some (.slice A2 L.length c2)) Yaq := hxaq.out.cell I0
            replace hap1 := hid hap1
            refine step_run rfl _ (ex_append _ _ _ _ rfl _ _ (by simp [Act.eval, Act.put]) (by simp [Act.eval, Act.put]) _ hap1.out) ?_
            refine hK _ _ ⟨fun _ => Ia, ?_⟩
            clear hK K
            try simp only [Act.put, List.getElem_toArray, List.getElem_cons_zero, List.getElem_cons_succ, List.setIfInBounds_toArray, List.set_cons_zero, List.set_cons_succ]
            clear hap1
            refine J_one 9 rfl (by kernel_rfl) (fun K hK => ?_)
            go_simp
            have hxbq := hid (hxaq.out.alloc_right (.cells #[.int .i64 i] 3))
            have hnw := hid (rd_new1 Yaq (.int .i64 i) 3)
            have owbq := hid (owaq.out.alloc (.cells #[.int .i64 i] 3))
            have Ib : (fun w' : World => w'.cell? ⟨r, 1, none⟩ = some (.slice A2 L.length c2)) (Yaq.alloc (.cells #[.int .i64 i] 3)) := hxbq.out.cell I0
            refine hK _ _ ⟨fun _ => Ib, ?_⟩
            clear hK K
            try simp only [Act.put, List.getElem_toArray, List.getElem_cons_zero, List.getElem_cons_succ, List.setIfInBounds_toArray, List.set_cons_zero, List.set_cons_succ]
            obtain ⟨nb, hnb⟩ : ∃ nb, nb = Yaq.heap.size := ⟨_, rfl⟩
            rw [← hnb] at hnw
            simp only [← hnb]
            replace hnb := hid hnb
            generalize (Yaq.alloc (.cells #[.int .i64 i] 3)) = Ybq at *
            refine J_one 10 rfl (by kernel_rfl) (fun K hK => ?_)
            obtain ⟨B10q, n10, e10q, Ycq, hap1, hn10, hs10, owcq, hxcq, -⟩ := appIx (es := [i]) hxbq.out hn7 owbq.out hnw.out (by have := hs7.out; omega) 29
            replace hn10 := hid hn10.out
            replace hs10 := hid hs10
            replace owcq := hid owcq
            replace hxcq := hid hxcq
            have Ic : (fun w' : World => w'.cell? ⟨r, 1, none⟩ = some (.slice A2 L.length c2)) Ycq := hxcq.out.cell I0
            replace hap1 := hid hap1
            refine step_run rfl _ (ex_append _ _ _ _ rfl _ _ (by simp [Act.eval, Act.put]) (by simp [Act.eval, Act.put]) _ hap1.out) ?_
            refine hK _ _ ⟨fun _ => Ic, ?_⟩
            clear hK K
            try simp only [Act.put, List.getElem_toArray, List.getElem_cons_zero, List.getElem_cons_succ, List.setIfInBounds_toArray, List.set_cons_zero, List.set_cons_succ]
            clear hap1
            refine J_one 17 rfl (by kernel_rfl) (fun K hK => ?_)
            obtain ⟨B17q, n17, e17q, Ydq, hap1, hn17, hs17, owdq, hxdq, -⟩ := appIx hxcq.out hn10 owcq.out (hp2.out.ext hxcq.out) (by have := hs7.out; have := hs10.out; omega) 29
            replace hn17 := hid hn17.out
            replace hs17 := hid hs17
            replace owdq := hid owdq
            replace hxdq := hid hxdq
            have Id : (fun w' : World => w'.cell? ⟨r, 1, none⟩ = some (.slice A2 L.length c2)) Ydq := hxdq.out.cell I0
            replace hap1 := hid hap1
            refine step_run rfl _ (ex_append _ _ _ _ rfl _ _ (by simp [Act.eval, Act.put]) (by simp [Act.eval, Act.put]) _ hap1.out) ?_
            refine hK _ _ ⟨fun _ => Id, ?_⟩
            clear hK K
            try simp only [Act.put, List.getElem_toArray, List.getElem_cons_zero, List.getElem_cons_succ, List.setIfInBounds_toArray, List.set_cons_zero, List.set_cons_succ]
            clear hap1
            have hrn := (hxdq.out.block (Nat.lt_of_lt_of_le lrWq.out hxWq.out.size)).trans ((hxWq.out.block lrWq.out).trans hrW.out)
            have hfr := Lib.frozen_of_heap hrn 1
            refine J_one 18 rfl (by kernel_rfl) (fun K hK => ?_)
            go_simp
            refine hK _ _ ⟨fun _ => Id, ?_⟩
            clear hK K
            try simp only [Act.put, List.getElem_toArray, List.getElem_cons_zero, List.getElem_cons_succ, List.setIfInBounds_toArray, List.set_cons_zero, List.set_cons_succ]
            refine J_one 19 rfl (by kernel_rfl) (fun K hK => ?_)
            go_simp
            refine hK _ _ ⟨fun _ => Id, ?_⟩
            clear hK K
            try simp only [Act.put, List.getElem_toArray, List.getElem_cons_zero, List.getElem_cons_succ, List.setIfInBounds_toArray, List.set_cons_zero, List.set_cons_succ]
            refine J_one 20 rfl (by kernel_rfl) (fun K hK => ?_)
            go_simp
            refine hK _ _ ⟨fun h => absurd rfl h, ?_⟩
            clear hK K
            refine J_done (by kernel_rfl) (OnlyOn.normal ?_)
            clear I0 Id hfr hp1 hp2 hx0 hownN hnN
            have hk7 := owdq.out
            obtain rfl : n17 = L'.length := by have := hn17.out; rw [← hN'.out, hN'l.out] at this; exact this
            rw [← hN'.out] at hk7
            have hfin : Hid (RTurned w (Ydq.setCell ⟨r, 1, none⟩ (.slice B17q L'.length e17q)) r G L') :=
              RTurned.mk2 hlr.out hGr.out hx3.out hr3.out hx4.out hk4.out hw5.out (hxWq.out.trans hxdq.out) (own_baseK hk7 hxWq.out.size)
            clear hk7 hrn
            go_wp2
            all_goals
              go_ret
              exact ⟨by rw [hE1.out]; rfl, hfin.out⟩
          · go_simp
            have hxaq := hid (hx0.out.alloc_right (.cells #[.int .i64 i] 3))
            have hnw := hid (rd_new1 Xq (.int .i64 i) 3)
            have owaq := hid (hownN.out.alloc (.cells #[.int .i64 i] 3))
            have Ia : (fun w' : World => w'.cell? ⟨r, 1, none⟩ = some (.slice A2 L.length c2)) (Xq.alloc (.cells #[.int .i64 i] 3)) := hxaq.out.cell I0
            refine hK _ _ ⟨fun _ => Ia, ?_⟩
            clear hK K
            try simp only [Act.put, List.getElem_toArray, List.getElem_cons_zero, List.getElem_cons_succ, List.setIfInBounds_toArray, List.set_cons_zero, List.set_cons_succ]
            obtain ⟨nb, hnb⟩ : ∃ nb, nb = Xq.heap.size := ⟨_, rfl⟩
            rw [← hnb] at hnw
            simp only [← hnb]
            replace hnb := hid hnb
            generalize (Xq.alloc (.cells #[.int .i64 i] 3)) = Yaq at *
            refine J_one 7 rfl (by kernel_rfl) (fun K hK => ?_)
            obtain ⟨B7q, n7, e7q, Ybq, hap1, hn7, hs7, owbq, hxbq, hgw⟩ := appIx hxaq.out hnN owaq.out (hp1.out.ext hxaq.out) (by omega) 29
            replace hn7 := hid hn7.out
            replace hs7 := hid hs7
            replace owbq := hid owbq
            replace hxbq := hid hxbq
            have Ib : (fun w' : World => w'.cell? ⟨r, 1, none⟩ = some (.slice A2 L.length c2)) Ybq := hxbq.out.cell I0
            replace hnw := hid (hnw.out.ext (ext_none hgw))
            clear hgw
            replace hap1 := hid hap1
            refine step_run rfl _ (ex_append _ _ _ _ rfl _ _ (by simp [Act.eval, Act.put]) (by simp [Act.eval, Act.put]) _ hap1.out) ?_
            refine hK _ _ ⟨fun _ => Ib, ?_⟩
            clear hK K
            try simp only [Act.put, List.getElem_toArray, List.getElem_cons_zero, List.getElem_cons_succ, List.setIfInBounds_toArray, List.set_cons_zero, List.set_cons_succ]
            clear hap1
            refine J_one 10 rfl (by kernel_rfl) (fun K hK => ?_)
            obtain ⟨B10q, n10, e10q, Ycq, hap1, hn10, hs10, owcq, hxcq, -⟩ := appIx (es := [i]) hxbq.out hn7 owbq.out hnw.out (by have := hs7.out; omega) 29
            replace hn10 := hid hn10.out
            replace hs10 := hid hs10
            replace owcq := hid owcq
            replace hxcq := hid hxcq
            have Ic : (fun w' : World => w'.cell? ⟨r, 1, none⟩ = some (.slice A2 L.length c2)) Ycq := hxcq.out.cell I0
            replace hap1 := hid hap1
            refine step_run rfl _ (ex_append _ _ _ _ rfl _ _ (by simp [Act.eval, Act.put]) (by simp [Act.eval, Act.put]) _ hap1.out) ?_
            refine hK _ _ ⟨fun _ => Ic, ?_⟩
            clear hK K
            try simp only [Act.put, List.getElem_toArray, List.getElem_cons_zero, List.getElem_cons_succ, List.setIfInBounds_toArray, List.set_cons_zero, List.set_cons_succ]
            clear hap1
            refine J_one 17 rfl (by kernel_rfl) (fun K hK => ?_)
            obtain ⟨B17q, n17, e17q, Ydq, hap1, hn17, hs17, owdq, hxdq, -⟩ := appIx hxcq.out hn10 owcq.out (hp2.out.ext hxcq.out) (by have := hs7.out; have := hs10.out; omega) 29
            replace hn17 := hid hn17.out
            replace hs17 := hid hs17
            replace owdq := hid owdq
            replace hxdq := hid hxdq
            have Id : (fun w' : World => w'.cell? ⟨r, 1, none⟩ = some (.slice A2 L.length c2)) Ydq := hxdq.out.cell I0
            replace hap1 := hid hap1
            refine step_run rfl _ (ex_append _ _ _ _ rfl _ _ (by simp [Act.eval, Act.put]) (by simp [Act.eval, Act.put]) _ hap1.out) ?_
            refine hK _ _ ⟨fun _ => Id, ?_⟩
            clear hK K
            try simp only [Act.put, List.getElem_toArray, List.getElem_cons_zero, List.getElem_cons_succ, List.setIfInBounds_toArray, List.set_cons_zero, List.set_cons_succ]
            clear hap1
            have hrn := (hxdq.out.block (Nat.lt_of_lt_of_le lrWq.out hxWq.out.size)).trans ((hxWq.out.block lrWq.out).trans hrW.out)
            have hfr := Lib.frozen_of_heap hrn 1
            refine J_one 18 rfl (by kernel_rfl) (fun K hK => ?_)
            go_simp
            refine hK _ _ ⟨fun _ => Id, ?_⟩
            clear hK K
            try simp only [Act.put, List.getElem_toArray, List.getElem_cons_zero, List.getElem_cons_succ, List.setIfInBounds_toArray, List.set_cons_zero, List.set_cons_succ]
            refine J_one 19 rfl (by kernel_rfl) (fun K hK => ?_)
            go_simp
            refine hK _ _ ⟨fun _ => Id, ?_⟩
            clear hK K
            try simp only [Act.put, List.getElem_toArray, List.getElem_cons_zero, List.getElem_cons_succ, List.setIfInBounds_toArray, List.set_cons_zero, List.set_cons_succ]
            refine J_one 20 rfl (by kernel_rfl) (fun K hK => ?_)
            go_simp
            refine hK _ _ ⟨fun h => absurd rfl h, ?_⟩
            clear hK K
            refine J_done (by kernel_rfl) (OnlyOn.normal ?_)
            clear I0 Id hfr hp1 hp2 hx0 hownN hnN
            have hk7 := owdq.out
            obtain rfl : n17 = L'.length := by have := hn17.out; rw [← hN'.out, hN'l.out] at this; exact this
            rw [← hN'.out] at hk7
            have hfin : Hid (RTurned w (Ydq.setCell ⟨r, 1, none⟩ (.slice B17q L'.length e17q)) r G L') :=
              RTurned.mk2 hlr.out hGr.out hx3.out hr3.out hx4.out hk4.out hw5.out (hxWq.out.trans hxdq.out) (own_baseK hk7 hxWq.out.size)
            clear hk7 hrn
            go_wp2
            all_goals
              go_ret
              exact ⟨by rw [hE1.out]; rfl, hfin.out⟩
set_option maxRecDepth 100000 in
set_option maxHeartbeats 4000000 in
theorem rTake_any (r : Nat) (L : List Te) (G : Nat → Nat) (s : ByteArray) (i : Int) (w : World) (h : RTo w r L G) (hS : Srt L) (hl : L.length ≤ 1200) (er : Int) (L' : List Te) (hE : Hid (er = takeEr L ⟨s, i⟩)) (hL' : Hid (L' = takeLs L ⟨s, i⟩)) :
    Calls Tryz.prog 21 #[.pointer (some ⟨r, 0, none⟩), .string s, .int .i64 i] w fun e w' => e = .returned (.int .i64 er) ∧ RTurned w w' r G L' := by
  have hh := hid h
  have hb := hid (fun w' (hx : Ext w w') b hb => rhas_any r L s i w' (hh.out.ext hx).rt hS (by omega) b hb)
  have hRk := hid (fun w' (hx : Ext w w') k hk => rRank_any r L s i w' (hh.out.ext hx).rt hS (by omega) k hk)
  have hsame := hid (fun w' (hx : Ext w w') (h1 : L' = L) => (show RTurned w w' r G L' by rw [h1]; exact hh.out.same hx))
  have hins := hid (fun hm => del_cut hS (e := ⟨s, i⟩) hm)
  have hatr := hid (fun hm => (at_rank hS (e := ⟨s, i⟩) hm).1)
  cases hok : okT ⟨s, i⟩ with
  | false =>
    have hE1 : Hid (er = 1) := by unfold Hid; rw [hE.out]; unfold takeEr; rw [hok]; rfl
    have hL1 : Hid (L' = L) := by unfold Hid; rw [hL'.out]; unfold takeLs; rw [← hE.out, hE1.out]; rfl
    clear h hS hatr hins
    have hI := hid (risEntry_any s i w)
    rw [hok] at hI
    go_enter Tryz.func21, Tryz.ntmps21
    go_wp2_with fail
    refine hI.out.mono ?_
    rintro e w1 ⟨rfl, rfl⟩
    go_wp2
    go_ret
    exact ⟨by rw [hE1.out]; rfl, hsame.out _ (Ext.refl _) hL1.out⟩
  | true =>
    have hI := hid (fun w => risEntry_any s i w)
    rw [hok] at hI
    cases hmm : memT L ⟨s, i⟩ with
    | false =>
      have hE1 : Hid (er = 4) := by unfold Hid; rw [hE.out]; unfold takeEr; rw [hok, hmm]; rfl
      have hL1 : Hid (L' = L) := by unfold Hid; rw [hL'.out]; unfold takeLs; rw [← hE.out, hE1.out]; rfl
      replace hb := hid (hb.out w (Ext.refl w) false hmm.symm)
      clear h hS hmm hok hatr hins
      go_enter Tryz.func21, Tryz.ntmps21
      go_wp2_with fail
      refine (hI.out _).mono ?_
      rintro e w1 ⟨rfl, rfl⟩
      go_wp2_with fail
      refine hb.out.mono ?_
      rintro e w2 ⟨rfl, hx2⟩
      go_wp2
      go_ret
      exact ⟨by rw [hE1.out]; rfl, hsame.out _ hx2 hL1.out⟩
    | true =>
      replace hb := hid (hb.out w (Ext.refl w) true hmm.symm)
      obtain ⟨A1, c1, A2, c2, h1, h2, h3, h4, h5, h6, h7⟩ := h
      have m1 := Rd.max h2
      have m2 := RdI.max h3
      have z0 : w.cell? ⟨r, 0, none⟩ = some (.slice A1 L.length c1) := by rw [Lib.cell_of_heap h1]; rfl
      have lr := (Array.getElem?_eq_some_iff.1 h1).1
      have hE1 : Hid (er = 0) := by unfold Hid; rw [hE.out]; unfold takeEr; rw [hok, hmm]; rfl
      have hL1 : Hid (L' = delT L ⟨s, i⟩) := by unfold Hid; rw [hL'.out]; unfold takeLs; rw [← hE.out, hE1.out]; rfl
      obtain ⟨k, hk⟩ : ∃ k, Hid (k = rankT L ⟨s, i⟩) := ⟨_, rfl⟩
      have hkl2 : k < L.length := by have := hatr.out (memT_iff.1 hmm); have := hk.out; omega
      rw [hins.out (memT_iff.1 hmm), ← hk.out] at hL1
      obtain ⟨k1, hk1⟩ : ∃ k1, k1 = k + 1 := ⟨_, rfl⟩
      rw [← hk1] at hL1
      have hkl : k ≤ L.length := by omega
      have hkl1 : k1 ≤ L.length := by omega
      have hw1 : IntKind.i64.wrap ((k : Int) + 1) = (k1 : Int) := by rw [IntWalk.i64_in _ (by omega)]; omega
      have hw2 : ((k : Int) + 1) = (k1 : Int) := by omega
      have hw3 : IntKind.i64.wrap (k1 : Int) = (k1 : Int) := IntWalk.i64_in _ (by omega)
      replace hk1 := hid hk1
      have hK' : Hid (L'.map Te.key = [] ++ (L.map Te.key).take k ++ (L.map Te.key).drop k1) := by unfold Hid; rw [hL1.out, List.map_append, List.map_take, List.map_drop]; simp
      have hN' : Hid (L'.map Te.no = [] ++ (L.map Te.no).take k ++ (L.map Te.no).drop k1) := by unfold Hid; rw [hL1.out, List.map_append, List.map_take, List.map_drop]; simp
      have hK'l : Hid ((L'.map Te.key).length = L'.length) := List.length_map _
      have hN'l : Hid ((L'.map Te.no).length = L'.length) := List.length_map _
      have hlr := hid lr
      have hGr := hid h4
      have hh1 := hid h1
      replace h2 := hid h2
      replace h3 := hid h3
      replace h5 := hid h5
      replace h6 := hid h6
      have hki : (k : Int) ≤ (L.length : Int) := by omega
      have hki1 : (k : Int) ≤ (c1 : Int) := by omega
      have hki2 : (k : Int) ≤ (c2 : Int) := by omega
      have hkj : (k1 : Int) ≤ (L.length : Int) := by omega
      clear hS hmm hok h1 h7 h4 hsame hE hL' hins hL1 hatr hh
      go_enter Tryz.func21, Tryz.ntmps21
      go_wp2_with fail
      refine (hI.out _).mono ?_
      rintro e w1 ⟨rfl, rfl⟩
      go_wp2_with fail
      refine hb.out.mono ?_
      rintro e w2 ⟨rfl, hx2⟩
      replace z0 := hx2.cell z0
      have lr2 := Nat.lt_of_lt_of_le lr hx2.size
      replace hx2 := hid hx2
      go_wp2_with fail
      refine (hRk.out _ hx2.out k hk.out).mono ?_
      rintro e w3 ⟨rfl, hx3⟩
      have zW := hx3.cell z0
      replace hx3 := hid (hx2.out.trans hx3)
      have hr3 := hid ((hx3.out.block lr).trans hh1.out)
      have hrW := hid hr3.out
      have lrW := Nat.lt_of_lt_of_le lr hx3.out.size
      have hpre : Hid (∀ W', Ext w3 W' → Rd W' 1 A1 k c1 (strv ((L.map Te.key).take k))) := fun W' hx => by
        have := (h2.out.ext (hx3.out.trans hx)).takeK hkl
        rw [Nat.mul_one, strv_take] at this
        exact this
      have hsuf : Hid (∀ W', Ext w3 W' → Rd W' 1 (if c1 = k1 then A1 else A1.map (·.add k1)) (L.length - k1) (c1 - k1) (strv ((L.map Te.key).drop k1))) := fun W' hx => by
        have := (h2.out.ext (hx3.out.trans hx)).cut hkl1
        rw [Nat.mul_one, strv_drop] at this
        exact this
      clear z0 lr2 hb hRk hI
      go_upto_region 6 with fail
      have I0 : (fun w' : World => w'.cell? ⟨r, 0, none⟩ = some (.slice A1 L.length c1)) w3.drew := zW
      refine region_J (fun w' : World => w'.cell? ⟨r, 0, none⟩ = some (.slice A1 L.length c1)) 18 (by kernel_rfl) ?_
      have hxWv := hid ((Ext.refl w3).drew_right)
      have lrWv := hid lrW
      clear zW lrW
      generalize w3.drew = Xv at *
      have hp1 := hid (hpre.out Xv hxWv.out)
      have hp2 := hid (hsuf.out Xv hxWv.out)
      have hx0 := hid (Ext.refl Xv)
      have hownN := hid (show Xv.ownsRow Xv.heap.size 9 1 (.slice none 0 0) 0 (strv []) from World.ownsRow_nil _ _ _ _)
      have hnN : Hid (0 = ([] : List ByteArray).length) := rfl
      refine J_take 0 (v := ?vv0) rfl (by kernel_rfl) (by kernel_rfl) (by kernel_rfl) (by kernel_rfl) (fun _ _ _ h => h) (Or.inl ⟨by rfl, ?yv0⟩) I0 ?rv0
      case yv0 => (intro w hSw; have := hSw; (go_simp; with_reducible rfl))
      simp only [Act.put, List.getElem_toArray, List.getElem_cons_zero, List.getElem_cons_succ, List.setIfInBounds_toArray, List.set_cons_zero, List.set_cons_succ]
      refine J_take 1 (v := ?vv1) rfl (by kernel_rfl) (by kernel_rfl) (by kernel_rfl) (by kernel_rfl) (fun _ _ _ h => h) (Or.inl ⟨by rfl, ?yv1⟩) I0 ?rv1
      case yv1 => (intro w hSw; have := hSw; (go_simp; with_reducible rfl))
      simp only [Act.put, List.getElem_toArray, List.getElem_cons_zero, List.getElem_cons_succ, List.setIfInBounds_toArray, List.set_cons_zero, List.set_cons_succ]
      refine J_take 2 (v := ?vv2) rfl (by kernel_rfl) (by kernel_rfl) (by kernel_rfl) (by kernel_rfl) (fun _ _ _ h => h) (Or.inl ⟨by rfl, ?yv2⟩) I0 ?rv2
      case yv2 => (intro w hSw; have := hSw; (go_simp; with_reducible rfl))
      simp only [Act.put, List.getElem_toArray, List.getElem_cons_zero, List.getElem_cons_succ, List.setIfInBounds_toArray, List.set_cons_zero, List.set_cons_succ]
      refine J_take 3 (v := ?vv3) rfl (by kernel_rfl) (by kernel_rfl) (by kernel_rfl) (by kernel_rfl) (fun _ _ _ h => h) (Or.inl ⟨by rfl, ?yv3⟩) I0 ?rv3
      case yv3 => (intro w hSw; have := hSw; (go_simp; with_reducible rfl))
      simp only [Act.put, List.getElem_toArray, List.getElem_cons_zero, List.getElem_cons_succ, List.setIfInBounds_toArray, List.set_cons_zero, List.set_cons_succ]
      refine J_take 4 (v := ?vv4) rfl (by kernel_rfl) (by kernel_rfl) (by kernel_rfl) (by kernel_rfl) (fun _ _ _ h => h) (Or.inl ⟨by rfl, ?yv4⟩) I0 ?rv4
      case yv4 => (intro w hSw; have := hSw; (go_simp; with_reducible rfl))
      simp only [Act.put, List.getElem_toArray, List.getElem_cons_zero, List.getElem_cons_succ, List.setIfInBounds_toArray, List.set_cons_zero, List.set_cons_succ]
      refine J_take 5 (v := ?vv5) rfl (by kernel_rfl) (by kernel_rfl) (by kernel_rfl) (by kernel_rfl) (fun _ _ _ h => h) (Or.inl ⟨by rfl, ?yv5⟩) I0 ?rv5
      case yv5 => (intro w hSw; have := hSw; (go_simp; with_reducible rfl))
      simp only [Act.put, List.getElem_toArray, List.getElem_cons_zero, List.getElem_cons_succ, List.setIfInBounds_toArray, List.set_cons_zero, List.set_cons_succ]
      refine J_take 6 (v := ?vv6) rfl (by kernel_rfl) (by kernel_rfl) (by kernel_rfl) (by kernel_rfl) (fun _ _ _ h => h) (Or.inl ⟨by rfl, ?yv6⟩) I0 ?rv6
      case yv6 => (intro w hSw; have := hSw; (go_simp; with_reducible rfl))
      simp only [Act.put, List.getElem_toArray, List.getElem_cons_zero, List.getElem_cons_succ, List.setIfInBounds_toArray, List.set_cons_zero, List.set_cons_succ]
      refine J_take 8 (v := ?vv8) rfl (by kernel_rfl) (by kernel_rfl) (by kernel_rfl) (by kernel_rfl) (fun _ _ _ h => h) (Or.inl ⟨by rfl, ?yv8⟩) I0 ?rv8
      case yv8 => (intro w hSw; have := hSw; (go_simp; with_reducible rfl))
      simp only [Act.put, List.getElem_toArray, List.getElem_cons_zero, List.getElem_cons_succ, List.setIfInBounds_toArray, List.set_cons_zero, List.set_cons_succ]
      refine J_take 9 (v := ?vv9) rfl (by kernel_rfl) (by kernel_rfl) (by kernel_rfl) (by kernel_rfl) (fun _ _ _ h => h) (Or.inl ⟨by rfl, ?yv9⟩) I0 ?rv9
      case yv9 => (intro w hSw; have := hSw; (go_simp; with_reducible rfl))
      simp only [Act.put, List.getElem_toArray, List.getElem_cons_zero, List.getElem_cons_succ, List.setIfInBounds_toArray, List.set_cons_zero, List.set_cons_succ]
      refine J_take 10 (v := ?vv10) rfl (by kernel_rfl) (by kernel_rfl) (by kernel_rfl) (by kernel_rfl) (fun _ _ _ h => h) (Or.inl ⟨by rfl, ?yv10⟩) I0 ?rv10
      case yv10 => (intro w hSw; have := hSw; (go_simp; with_reducible rfl))
      simp only [Act.put, List.getElem_toArray, List.getElem_cons_zero, List.getElem_cons_succ, List.setIfInBounds_toArray, List.set_cons_zero, List.set_cons_succ]
      refine J_take 11 (v := ?vv11) rfl (by kernel_rfl) (by kernel_rfl) (by kernel_rfl) (by kernel_rfl) (fun _ _ _ h => h) (Or.inl ⟨by rfl, ?yv11⟩) I0 ?rv11
      case yv11 => (intro w hSw; have := hSw; (go_simp; with_reducible rfl))
      simp only [Act.put, List.getElem_toArray, List.getElem_cons_zero, List.getElem_cons_succ, List.setIfInBounds_toArray, List.set_cons_zero, List.set_cons_succ]
      refine J_take 12 (v := ?vv12) rfl (by kernel_rfl) (by kernel_rfl) (by kernel_rfl) (by kernel_rfl) (fun _ _ _ h => h) (Or.inl ⟨by rfl, ?yv12⟩) I0 ?rv12
      case yv12 => (intro w hSw; have := hSw; (go_simp; with_reducible rfl))
      simp only [Act.put, List.getElem_toArray, List.getElem_cons_zero, List.getElem_cons_succ, List.setIfInBounds_toArray, List.set_cons_zero, List.set_cons_succ]
      refine J_take 13 (v := ?vv13) rfl (by kernel_rfl) (by kernel_rfl) (by kernel_rfl) (by kernel_rfl) (fun _ _ _ h => h) (Or.inl ⟨by rfl, ?yv13⟩) I0 ?rv13
      case yv13 => (intro w hSw; have := hSw; (go_simp; with_reducible rfl))
      simp only [Act.put, List.getElem_toArray, List.getElem_cons_zero, List.getElem_cons_succ, List.setIfInBounds_toArray, List.set_cons_zero, List.set_cons_succ]
      refine J_take 14 (v := ?vv14) rfl (by kernel_rfl) (by kernel_rfl) (by kernel_rfl) (by kernel_rfl) (fun _ _ _ h => h) (Or.inl ⟨by rfl, ?yv14⟩) I0 ?rv14
      case yv14 => (intro w hSw; have := hSw; (go_simp; with_reducible rfl))
      simp only [Act.put, List.getElem_toArray, List.getElem_cons_zero, List.getElem_cons_succ, List.setIfInBounds_toArray, List.set_cons_zero, List.set_cons_succ]
      refine J_one 7 rfl (by kernel_rfl) (fun K hK => ?_)
      obtain ⟨B7v, n7, e7v, Yav, hap1, hn7, hs7, owav, hxav, -⟩ := appSx hx0.out hnN hownN.out hp1.out (by omega) 28
      replace hn7 := hid hn7.out
      replace hs7 := hid hs7
      replace owav := hid owav
      replace hxav := hid hxav
      have Ia : (fun w' : World => w'.cell? ⟨r, 0, none⟩ = some (.slice A1 L.length c1)) Yav := hxav.out.cell I0
      replace hap1 := hid hap1
      refine step_run rfl _ (ex_append _ _ _ _ rfl _ _ (by simp [Act.eval, Act.put]) (by simp [Act.eval, Act.put]) _ hap1.out) ?_
      refine hK _ _ ⟨fun _ => Ia, ?_⟩
      clear hK K
      try simp only [Act.put, List.getElem_toArray, List.getElem_cons_zero, List.getElem_cons_succ, List.setIfInBounds_toArray, List.set_cons_zero, List.set_cons_succ]
      clear hap1
      refine J_one 15 rfl (by kernel_rfl) (fun K hK => ?_)
      obtain ⟨B15v, n15, e15v, Ydv, hap1, hn15, hs15, owdv, hxdv, -⟩ := appSx hxav.out hn7 owav.out (hp2.out.ext hxav.out) (by have := hs7.out; omega) 28
      replace hn15 := hid hn15.out
      replace hs15 := hid hs15
      replace owdv := hid owdv
      replace hxdv := hid hxdv
      have Id : (fun w' : World => w'.cell? ⟨r, 0, none⟩ = some (.slice A1 L.length c1)) Ydv := hxdv.out.cell I0
      replace hap1 := hid hap1
      refine step_run rfl _ (ex_append _ _ _ _ rfl _ _ (by simp [Act.eval, Act.put]) (by simp [Act.eval, Act.put]) _ hap1.out) ?_
      refine hK _ _ ⟨fun _ => Id, ?_⟩
      clear hK K
      try simp only [Act.put, List.getElem_toArray, List.getElem_cons_zero, List.getElem_cons_succ, List.setIfInBounds_toArray, List.set_cons_zero, List.set_cons_succ]
      clear hap1
      have hrn := (hxdv.out.block (Nat.lt_of_lt_of_le lrWv.out hxWv.out.size)).trans ((hxWv.out.block lrWv.out).trans hrW.out)
      have hfr := Lib.frozen_of_heap hrn 0
      refine J_one 16 rfl (by kernel_rfl) (fun K hK => ?_)
      go_simp
      refine hK _ _ ⟨fun _ => Id, ?_⟩
      clear hK K
      try simp only [Act.put, List.getElem_toArray, List.getElem_cons_zero, List.getElem_cons_succ, List.setIfInBounds_toArray, List.set_cons_zero, List.set_cons_succ]
      refine J_one 17 rfl (by kernel_rfl) (fun K hK => ?_)
      go_simp
      refine hK _ _ ⟨fun _ => Id, ?_⟩
      clear hK K
      try simp only [Act.put, List.getElem_toArray, List.getElem_cons_zero, List.getElem_cons_succ, List.setIfInBounds_toArray, List.set_cons_zero, List.set_cons_succ]
      refine J_one 18 rfl (by kernel_rfl) (fun K hK => ?_)
      go_simp
      refine hK _ _ ⟨fun h => absurd rfl h, ?_⟩
      clear hK K
      refine J_done (by kernel_rfl) (OnlyOn.normal ?_)
      clear I0 Id hfr hp1 hp2 hx0 hownN hnN
      have hk4 := owdv.out
      obtain rfl : n15 = L'.length := by have := hn15.out; rw [← hK'.out, hK'l.out] at this; exact this
      rw [← hK'.out] at hk4
      replace hk4 := hid (own_baseK hk4 hxWv.out.size)
      have hx4 := hid (hxWv.out.trans hxdv.out)
      have hr5 := tree2_set0 hrn (.slice B15v L'.length e15v)
      have hF5 : FR (one1 r) w (Ydv.setCell ⟨r, 0, none⟩ (.slice B15v L'.length e15v)) := (FR.of_ext (f := one1 r) (hx3.out.trans hx4.out)).trans fr_one (fun _ _ h => h)
      have hr5n := hid (rd_frame (show Rd w 1 A2 L.length c2 (ints (L.map Te.no)) from h3.out) hF5 (fun hn ad e => if_neg (h6.out hn ad e).2))
      clear hpre hsuf hrn hF5 hrW
      generalize hw5 : Ydv.setCell ⟨r, 0, none⟩ (.slice B15v L'.length e15v) = W5 at *
      replace hw5 := hid hw5.symm
      have zW : W5.cell? ⟨r, 1, none⟩ = some (.slice A2 L.length c2) := by rw [Lib.cell_of_heap hr5]; rfl
      have lrW := (Array.getElem?_eq_some_iff.1 hr5).1
      have hrW := hid hr5
      clear hr5
      have hpre : Hid (∀ W', Ext W5 W' → Rd W' 1 A2 k c2 (ints ((L.map Te.no).take k))) := fun W' hx => by
        have := (hr5n.out.ext hx).takeK hkl
        rw [Nat.mul_one, ints_take] at this
        exact this
      have hsuf : Hid (∀ W', Ext W5 W' → Rd W' 1 (if c2 = k1 then A2 else A2.map (·.add k1)) (L.length - k1) (c2 - k1) (ints ((L.map Te.no).drop k1))) := fun W' hx => by
        have := (hr5n.out.ext hx).cut hkl1
        rw [Nat.mul_one, ints_drop] at this
        exact this
      go_upto_region 7 with fail
      have I0 : (fun w' : World => w'.cell? ⟨r, 1, none⟩ = some (.slice A2 L.length c2)) W5.drew := zW
      refine region_J (fun w' : World => w'.cell? ⟨r, 1, none⟩ = some (.slice A2 L.length c2)) 18 (by kernel_rfl) ?_
      have hxWx := hid ((Ext.refl W5).drew_right)
      have lrWx := hid lrW
      clear zW lrW
      generalize W5.drew = Xx at *
      have hp1 := hid (hpre.out Xx hxWx.out)
      have hp2 := hid (hsuf.out Xx hxWx.out)
      have hx0 := hid (Ext.refl Xx)
      have hownN := hid (show Xx.ownsRow Xx.heap.size 3 1 (.slice none 0 0) 0 (ints []) from World.ownsRow_nil _ _ _ _)
      have hnN : Hid (0 = ([] : List Int).length) := rfl
      refine J_take 0 (v := ?vx0) rfl (by kernel_rfl) (by kernel_rfl) (by kernel_rfl) (by kernel_rfl) (fun _ _ _ h => h) (Or.inl ⟨by rfl, ?yx0⟩) I0 ?rx0
      case yx0 => (intro w hSw; have := hSw; (go_simp; with_reducible rfl))
      simp only [Act.put, List.getElem_toArray, List.getElem_cons_zero, List.getElem_cons_succ, List.setIfInBounds_toArray, List.set_cons_zero, List.set_cons_succ]
      refine J_take 1 (v := ?vx1) rfl (by kernel_rfl) (by kernel_rfl) (by kernel_rfl) (by kernel_rfl) (fun _ _ _ h => h) (Or.inl ⟨by rfl, ?yx1⟩) I0 ?rx1
      case yx1 => (intro w hSw; have := hSw; (go_simp; with_reducible rfl))
      simp only [Act.put, List.getElem_toArray, List.getElem_cons_zero, List.getElem_cons_succ, List.setIfInBounds_toArray, List.set_cons_zero, List.set_cons_succ]
      refine J_take 2 (v := ?vx2) rfl (by kernel_rfl) (by kernel_rfl) (by kernel_rfl) (by kernel_rfl) (fun _ _ _ h => h) (Or.inl ⟨by rfl, ?yx2⟩) I0 ?rx2
      case yx2 => (intro w hSw; have := hSw; (go_simp; with_reducible rfl))
      simp only [Act.put, List.getElem_toArray, List.getElem_cons_zero, List.getElem_cons_succ, List.setIfInBounds_toArray, List.set_cons_zero, List.set_cons_succ]
      refine J_take 3 (v := ?vx3) rfl (by kernel_rfl) (by kernel_rfl) (by kernel_rfl) (by kernel_rfl) (fun _ _ _ h => h) (Or.inl ⟨by rfl, ?yx3⟩) I0 ?rx3
      case yx3 => (intro w hSw; have := hSw; (go_simp; with_reducible rfl))
      simp only [Act.put, List.getElem_toArray, List.getElem_cons_zero, List.getElem_cons_succ, List.setIfInBounds_toArray, List.set_cons_zero, List.set_cons_succ]
      refine J_take 4 (v := ?vx4) rfl (by kernel_rfl) (by kernel_rfl) (by kernel_rfl) (by kernel_rfl) (fun _ _ _ h => h) (Or.inl ⟨by rfl, ?yx4⟩) I0 ?rx4
      case yx4 => (intro w hSw; have := hSw; (go_simp; with_reducible rfl))
      simp only [Act.put, List.getElem_toArray, List.getElem_cons_zero, List.getElem_cons_succ, List.setIfInBounds_toArray, List.set_cons_zero, List.set_cons_succ]
      refine J_take 5 (v := ?vx5) rfl (by kernel_rfl) (by kernel_rfl) (by kernel_rfl) (by kernel_rfl) (fun _ _ _ h => h) (Or.inl ⟨by rfl, ?yx5⟩) I0 ?rx5
      case yx5 => (intro w hSw; have := hSw; (go_simp; with_reducible rfl))
      simp only [Act.put, List.getElem_toArray, List.getElem_cons_zero, List.getElem_cons_succ, List.setIfInBounds_toArray, List.set_cons_zero, List.set_cons_succ]
      refine J_take 6 (v := ?vx6) rfl (by kernel_rfl) (by kernel_rfl) (by kernel_rfl) (by kernel_rfl) (fun _ _ _ h => h) (Or.inl ⟨by rfl, ?yx6⟩) I0 ?rx6
      case yx6 => (intro w hSw; have := hSw; (go_simp; with_reducible rfl))
      simp only [Act.put, List.getElem_toArray, List.getElem_cons_zero, List.getElem_cons_succ, List.setIfInBounds_toArray, List.set_cons_zero, List.set_cons_succ]
      refine J_take 8 (v := ?vx8) rfl (by kernel_rfl) (by kernel_rfl) (by kernel_rfl) (by kernel_rfl) (fun _ _ _ h => h) (Or.inl ⟨by rfl, ?yx8⟩) I0 ?rx8
      case yx8 => (intro w hSw; have := hSw; (go_simp; with_reducible rfl))
      simp only [Act.put, List.getElem_toArray, List.getElem_cons_zero, List.getElem_cons_succ, List.setIfInBounds_toArray, List.set_cons_zero, List.set_cons_succ]
      refine J_take 9 (v := ?vx9) rfl (by kernel_rfl) (by kernel_rfl) (by kernel_rfl) (by kernel_rfl) (fun _ _ _ h => h) (Or.inl ⟨by rfl, ?yx9⟩) I0 ?rx9
      case yx9 => (intro w hSw; have := hSw; (go_simp; with_reducible rfl))
      simp only [Act.put, List.getElem_toArray, List.getElem_cons_zero, List.getElem_cons_succ, List.setIfInBounds_toArray, List.set_cons_zero, List.set_cons_succ]
      refine J_take 10 (v := ?vx10) rfl (by kernel_rfl) (by kernel_rfl) (by kernel_rfl) (by kernel_rfl) (fun _ _ _ h => h) (Or.inl ⟨by rfl, ?yx10⟩) I0 ?rx10
      case yx10 => (intro w hSw; have := hSw; (go_simp; with_reducible rfl))
      simp only [Act.put, List.getElem_toArray, List.getElem_cons_zero, List.getElem_cons_succ, List.setIfInBounds_toArray, List.set_cons_zero, List.set_cons_succ]
      refine J_take 11 (v := ?vx11) rfl (by kernel_rfl) (by kernel_rfl) (by kernel_rfl) (by kernel_rfl) (fun _ _ _ h => h) (Or.inl ⟨by rfl, ?yx11⟩) I0 ?rx11
      case yx11 => (intro w hSw; have := hSw; (go_simp; with_reducible rfl))
      simp only [Act.put, List.getElem_toArray, List.getElem_cons_zero, List.getElem_cons_succ, List.setIfInBounds_toArray, List.set_cons_zero, List.set_cons_succ]
      refine J_take 12 (v := ?vx12) rfl (by kernel_rfl) (by kernel_rfl) (by kernel_rfl) (by kernel_rfl) (fun _ _ _ h => h) (Or.inl ⟨by rfl, ?yx12⟩) I0 ?rx12
      case yx12 => (intro w hSw; have := hSw; (go_simp; with_reducible rfl))
      simp only [Act.put, List.getElem_toArray, List.getElem_cons_zero, List.getElem_cons_succ, List.setIfInBounds_toArray, List.set_cons_zero, List.set_cons_succ]
      refine J_take 13 (v := ?vx13) rfl (by kernel_rfl) (by kernel_rfl) (by kernel_rfl) (by kernel_rfl) (fun _ _ _ h => h) (Or.inl ⟨by rfl, ?yx13⟩) I0 ?rx13
      case yx13 => (intro w hSw; have := hSw; (go_simp; with_reducible rfl))
      simp only [Act.put, List.getElem_toArray, List.getElem_cons_zero, List.getElem_cons_succ, List.setIfInBounds_toArray, List.set_cons_zero, List.set_cons_succ]
      refine J_take 14 (v := ?vx14) rfl (by kernel_rfl) (by kernel_rfl) (by kernel_rfl) (by kernel_rfl) (fun _ _ _ h => h) (Or.inl ⟨by rfl, ?yx14⟩) I0 ?rx14
      case yx14 => (intro w hSw; have := hSw; (go_simp; with_reducible rfl))
      simp only [Act.put, List.getElem_toArray, List.getElem_cons_zero, List.getElem_cons_succ, List.setIfInBounds_toArray, List.set_cons_zero, List.set_cons_succ]
      refine J_one 7 rfl (by kernel_rfl) (fun K hK => ?_)
      obtain ⟨B7x, n7, e7x, Yax, hap1, hn7, hs7, owax, hxax, -⟩ := appIx hx0.out hnN hownN.out hp1.out (by omega) 29
      replace hn7 := hid hn7.out
      replace hs7 := hid hs7
      replace owax := hid owax
      replace hxax := hid hxax
      have Ia : (fun w' : World => w'.cell? ⟨r, 1, none⟩ = some (.slice A2 L.length c2)) Yax := hxax.out.cell I0
      replace hap1 := hid hap1
      refine step_run rfl _ (ex_append _ _ _ _ rfl _ _ (by simp [Act.eval, Act.put]) (by simp [Act.eval, Act.put]) _ hap1.out) ?_
      refine hK _ _ ⟨fun _ => Ia, ?_⟩
      clear hK K
      try simp only [Act.put, List.getElem_toArray, List.getElem_cons_zero, List.getElem_cons_succ, List.setIfInBounds_toArray, List.set_cons_zero, List.set_cons_succ]
      clear hap1
      refine J_one 15 rfl (by kernel_rfl) (fun K hK => ?_)
      obtain ⟨B15x, n15, e15x, Ydx, hap1, hn15, hs15, owdx, hxdx, -⟩ := appIx hxax.out hn7 owax.out (hp2.out.ext hxax.out) (by have := hs7.out; omega) 29
      replace hn15 := hid hn15.out
      replace hs15 := hid hs15
      replace owdx := hid owdx
      replace hxdx := hid hxdx
      have Id : (fun w' : World => w'.cell? ⟨r, 1, none⟩ = some (.slice A2 L.length c2)) Ydx := hxdx.out.cell I0
      replace hap1 := hid hap1
      refine step_run rfl _ (ex_append _ _ _ _ rfl _ _ (by simp [Act.eval, Act.put]) (by simp [Act.eval, Act.put]) _ hap1.out) ?_
      refine hK _ _ ⟨fun _ => Id, ?_⟩
      clear hK K
      try simp only [Act.put, List.getElem_toArray, List.getElem_cons_zero, List.getElem_cons_succ, List.setIfInBounds_toArray, List.set_cons_zero, List.set_cons_succ]
      clear hap1
      have hrn := (hxdx.out.block (Nat.lt_of_lt_of_le lrWx.out hxWx.out.size)).trans ((hxWx.out.block lrWx.out).trans hrW.out)
      have hfr := Lib.frozen_of_heap hrn 1
      refine J_one 16 rfl (by kernel_rfl) (fun K hK => ?_)
      go_simp
      refine hK _ _ ⟨fun _ => Id, ?_⟩
      clear hK K
      try simp only [Act.put, List.getElem_toArray, List.getElem_cons_zero, List.getElem_cons_succ, List.setIfInBounds_toArray, List.set_cons_zero, List.set_cons_succ]
      refine J_one 17 rfl (by kernel_rfl) (fun K hK => ?_)
      go_simp
      refine hK _ _ ⟨fun _ => Id, ?_⟩
      clear hK K
      try simp only [Act.put, List.getElem_toArray, List.getElem_cons_zero, List.getElem_cons_succ, List.setIfInBounds_toArray, List.set_cons_zero, List.set_cons_succ]
      refine J_one 18 rfl (by kernel_rfl) (fun K hK => ?_)
      go_simp
      refine hK _ _ ⟨fun h => absurd rfl h, ?_⟩
      clear hK K
      refine J_done (by kernel_rfl) (OnlyOn.normal ?_)
      clear I0 Id hfr hp1 hp2 hx0 hownN hnN
      have hk7 := owdx.out
      obtain rfl : n15 = L'.length := by have := hn15.out; rw [← hN'.out, hN'l.out] at this; exact this
      rw [← hN'.out] at hk7
      have hfin : Hid (RTurned w (Ydx.setCell ⟨r, 1, none⟩ (.slice B15x L'.length e15x)) r G L') :=
        RTurned.mk2 hlr.out hGr.out hx3.out hr3.out hx4.out hk4.out hw5.out (hxWx.out.trans hxdx.out) (own_baseK hk7 hxWx.out.size)
      clear hk7 hrn
      go_wp2
      all_goals
        go_ret
        exact ⟨by rw [hE1.out]; rfl, hfin.out⟩
end Go.Proofs.YtpijfiaecicpfaaGreat

