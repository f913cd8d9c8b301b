/-
  Acts of scripts in memory; An index and the reference's tree side by side; found; The reference's Put and Take; its tree beside others; slices.Equal of entries; whether two indexes are the same.
-/
import Derived.Test.YtpijfiaecicpfaaGreatQ10
import Derived.Test.YtpijfiaecicpfaaGreatQ7
import Derived.Test.YtpijfiaecicpfaaGreatQ15
import Derived.Laws.StructEq
import Derived.Test.YtpijfiaecicpfaaGreatQ1
import Derived.Test.YtpijfiaecicpfaaGreatQ13
import Derived.Test.YtpijfiaecicpfaaGreatQ9
set_option maxRecDepth 100000
set_option maxHeartbeats 40000000
set_option linter.unusedVariables false
set_option linter.unusedSimpArgs false
namespace Go.Proofs.YtpijfiaecicpfaaGreat
open Go.RowKit Go.Shelf
def RTo (w : World) (r : Nat) (L : List Te) (G : Nat → Nat) : Prop := ∃ A1 c1 A2 c2, w.heap[r]? = some (.cells #[.slice A1 L.length c1, .slice A2 L.length c2] 31 (0, 0)) ∧ Rd w 1 A1 L.length c1 (strv (L.map Te.key)) ∧ RdI w A2 L.length c2 (L.map Te.no) ∧ G r ≠ 0 ∧
  (0 < L.length → ∀ ad, A1 = some ad → G ad.block ≠ 0 ∧ ad.block ≠ r) ∧ (0 < L.length → ∀ ad, A2 = some ad → G ad.block ≠ 0 ∧ ad.block ≠ r) ∧ ∀ a, w.heap.size ≤ a → G a = 0
section
variable {w w' : World} {r : Nat} {L : List Te} {G : Nat → Nat}
theorem RTo.rt (h : RTo w r L G) : RTr w r L := by
  obtain ⟨A1, c1, A2, c2, h1, h2, h3, -⟩ := h
  exact ⟨A1, c1, A2, c2, h1, h2, h3⟩
theorem rd_frame {k n c : Nat} {A : Option Addr} {xs : List Value} {f : Nat → Nat} (h : Rd w k A n c xs) (hF : FR f w w') (h0 : 0 < n → ∀ ad, A = some ad → f ad.block = 0) : Rd w' k A n c xs := by
  refine ⟨h.1, h.2.1, h.2.2.1, fun hn => ?_⟩
  obtain ⟨ad, e, hc⟩ := h.2.2.2 hn
  refine ⟨ad, e, fun j u hu => ?_⟩
  have h6 := hc j u hu
  have h7 := World.block_lt_of_cell? _ _ h6
  rw [block_add] at h7
  exact (World.cell?_of_block (by rw [block_add]; exact hF.2.2.2.2 ad.block h7 (h0 hn ad e))).trans h6
theorem RTo.frame {f : Nat → Nat} (h : RTo w r L G) (hF : FR f w w') (hd : ∀ a, G a ≠ 0 → f a = 0) : RTo w' r L G := by
  obtain ⟨A1, c1, A2, c2, h1, h2, h3, h4, h5, h6, h7⟩ := h
  exact ⟨A1, c1, A2, c2, (hF.2.2.2.2 r (Array.getElem?_eq_some_iff.1 h1).1 (hd r h4)).trans h1, rd_frame h2 hF (fun hn ad e => hd _ (h5 hn ad e).1), rd_frame h3 hF (fun hn ad e => hd _ (h6 hn ad e).1), h4, h5, h6, fun a ha => h7 a (Nat.le_trans hF.2.2.2.1 ha)⟩
theorem RTo.ext (h : RTo w r L G) (hx : Ext w w') : RTo w' r L G := h.frame (f := fun _ => 0) (FR.of_ext hx) (fun _ _ => rfl)
theorem RTo.lt (h : RTo w r L G) : r < w.heap.size := by
  obtain ⟨A1, c1, A2, c2, h1, -⟩ := h
  exact (Array.getElem?_eq_some_iff.1 h1).1
def RTurned (w w' : World) (r : Nat) (G : Nat → Nat) (L : List Te) : Prop := ∃ G', RTo w' r L G' ∧ (∀ a, a < w.heap.size → G' a ≠ 0 → G a ≠ 0) ∧ FR (one1 r) w w'
theorem RTo.same (h : RTo w r L G) (hx : Ext w w') : RTurned w w' r G L := ⟨G, h.ext hx, fun _ _ h => h, FR.of_ext hx⟩
end
theorem strv_take (l : List ByteArray) (k : Nat) : (strv l).take k = strv (l.take k) := by unfold strv; rw [List.map_take]
theorem strv_drop (l : List ByteArray) (k : Nat) : (strv l).drop k = strv (l.drop k) := by unfold strv; rw [List.map_drop]
theorem appSx {W0 W : World} (hx : Ext W0 W) {v : Value} {n : Nat} {xs es : List ByteArray} (hn : Hid (n = xs.length)) (own : W.ownsRow W0.heap.size 9 1 v n (strv xs)) {A : Option Addr} {m c : Nat} (hr : Rd W 1 A m c (strv es)) (hb : n + m ≤ 1000000) (ty : TypeId) :
    ∃ A' n' c' W', (Builtin.append_ #[28, 28] ty #[v, .slice A m c]).run Tryz.prog W = .ok (.slice A' n' c') W' ∧ Hid (n' = (xs ++ es).length) ∧ n' = n + m ∧ W'.ownsRow W0.heap.size 9 1 (.slice A' n' c') n' (strv (xs ++ es)) ∧ Ext W0 W' ∧ W.grownBy W' v.ownBlock := by
  obtain ⟨i0, hi0, hz0, hz1, hz2⟩ := info_parts infoS
  have hm : es.length = m := by have := hr.1; simp [strv] at this; exact this
  obtain ⟨v', w', h1, h2, h3, h4⟩ := app_at W W0.heap.size 28 ty 9 i0 _ 1 16 Tryz.underlying28 hi0 hz0 hz1 hz2 rfl (by decide) _ _ _ own A m c _ hr (strv_one es) (by unfold maxLen; omega) (by omega) hx.size
  have he : strv xs ++ strv es = strv (xs ++ es) := by simp [strv]
  rw [he] at h2
  obtain ⟨A', c', rfl, -⟩ := own_form h2
  exact ⟨A', n + m, c', w', h1, by unfold Hid; rw [List.length_append, hm, ← hn.out], rfl, h2, ext_push hx own h3, h3⟩
theorem appIx {W0 W : World} (hx : Ext W0 W) {v : Value} {n : Nat} {xs es : List Int} (hn : Hid (n = xs.length)) (own : W.ownsRow W0.heap.size 3 1 v n (ints xs)) {A : Option Addr} {m c : Nat} (hr : Rd W 1 A m c (ints es)) (hb : n + m ≤ 1000000) (ty : TypeId) :
    ∃ A' n' c' W', (Builtin.append_ #[29, 29] ty #[v, .slice A m c]).run Tryz.prog W = .ok (.slice A' n' c') W' ∧ Hid (n' = (xs ++ es).length) ∧ n' = n + m ∧ W'.ownsRow W0.heap.size 3 1 (.slice A' n' c') n' (ints (xs ++ es)) ∧ Ext W0 W' ∧ W.grownBy W' v.ownBlock := by
  obtain ⟨i0, hi0, hz0, hz1, hz2⟩ := info_parts infoI
  have hm : es.length = m := by have := hr.1; simp [ints] at this; exact this
  obtain ⟨v', w', h1, h2, h3, h4⟩ := app_at W W0.heap.size 29 ty 3 i0 _ 1 8 Tryz.underlying29 hi0 hz0 hz1 hz2 rfl (by decide) _ _ _ own A m c _ hr (ints_one es) (by unfold maxLen; omega) (by omega) hx.size
  have he : ints xs ++ ints es = ints (xs ++ es) := by simp [ints]
  rw [he] at h2
  obtain ⟨A', c', rfl, -⟩ := own_form h2
  exact ⟨A', n + m, c', w', h1, by unfold Hid; rw [List.length_append, hm, ← hn.out], rfl, h2, ext_push hx own h3, h3⟩
theorem tree2_set0 {w : World} {p : Nat} {a b : Value} {t : TypeId} (h : w.heap[p]? = some (.cells #[a, b] t (0, 0))) (u : Value) : (w.setCell ⟨p, 0, none⟩ u).heap[p]? = some (.cells #[u, b] t (0, 0)) := by
  simp [World.setCell, Array.getElem?_modify, h]
theorem tree2_set1 {w : World} {p : Nat} {a b : Value} {t : TypeId} (h : w.heap[p]? = some (.cells #[a, b] t (0, 0))) (u : Value) : (w.setCell ⟨p, 1, none⟩ u).heap[p]? = some (.cells #[a, u] t (0, 0)) := by
  simp [World.setCell, Array.getElem?_modify, h]
theorem fr_one {w : World} {b j : Nat} {u : Value} : FR (one1 b) w (w.setCell ⟨b, j, none⟩ u) := ⟨rfl, rfl, rfl, by simp, fun k hk h0 => by
  have hne : b ≠ k := fun e => by rw [e, one_self] at h0; cases h0
  simp [World.setCell, Array.getElem?_modify, hne]⟩
theorem RTurned.mk2 {w w3 w4 w5 w7 : World} {r : Nat} {G : Nat → Nat} {L : List Te} {B1 B2 : Option Addr} {d1 d2 : Nat} {o1 o2 : Value} (h0 : r < w.heap.size) (hG : G r ≠ 0) (hx3 : Ext w w3) (hr : w3.heap[r]? = some (.cells #[o1, o2] 31 (0, 0))) (hx4 : Ext w3 w4) (k4 : w4.ownsRow w3.heap.size 9 1 (.slice B1 L.length d1) L.length (strv (L.map Te.key)))
    (h5 : w5 = w4.setCell ⟨r, 0, none⟩ (.slice B1 L.length d1)) (hx7 : Ext w5 w7) (k7 : w7.ownsRow w5.heap.size 3 1 (.slice B2 L.length d2) L.length (ints (L.map Te.no))) : RTurned w (w7.setCell ⟨r, 1, none⟩ (.slice B2 L.length d2)) r G L := by
  have s3 := hx3.size
  have s4 := hx4.size
  have s7 := hx7.size
  have s5 : w5.heap.size = w4.heap.size := by rw [h5]; simp
  have hr4 := (hx4.block (by omega)).trans hr
  have hr5 : w5.heap[r]? = some (.cells #[.slice B1 L.length d1, o2] 31 (0, 0)) := by rw [h5]; exact tree2_set0 hr4 _
  have hr7 := (hx7.block (by omega)).trans hr5
  have hF : FR (one1 r) w (w7.setCell ⟨r, 1, none⟩ (.slice B2 L.length d2)) := by
    have f1 : FR (one1 r) w w5 := by
      rw [h5]
      exact (FR.of_ext (f := one1 r) (hx3.trans hx4)).trans fr_one (fun _ _ h => h)
    exact (f1.trans (FR.of_ext (f := one1 r) hx7) (fun _ _ h => h)).trans fr_one (fun _ _ h => h)
  have b1 : ∀ g, (Value.slice B1 L.length d1).ownBlock = some g → w3.heap.size ≤ g ∧ g < w4.heap.size := fun g e => k4.lt g e
  have b2 : ∀ g, (Value.slice B2 L.length d2).ownBlock = some g → w5.heap.size ≤ g ∧ g < w7.heap.size := fun g e => k7.lt g e
  have n1 : (Value.slice B1 L.length d1).ownBlock ≠ some r := fun e => by have := (b1 r e).1; omega
  have n2 : (Value.slice B2 L.length d2).ownBlock ≠ some r := fun e => by have := (b2 r e).1; omega
  have k5 : w5.ownsRow w3.heap.size 9 1 (.slice B1 L.length d1) L.length (strv (L.map Te.key)) := by rw [h5]; exact own_set k4 n1 0 _
  have k8 := own_set (hx7.own k5) n1 1 (.slice B2 L.length d2)
  have k9 := own_set k7 n2 1 (.slice B2 L.length d2)
  refine ⟨fun a => if a = r ∨ (w.heap.size ≤ a ∧ a < w7.heap.size) then 1 else 0, ⟨B1, d1, B2, d2, tree2_set1 hr7 _, Rd.of_own k8, Rd.of_own k9, ?_, fun _ ad e => ?_, fun _ ad e => ?_, fun a ha => ?_⟩, fun a ha h1 => ?_, hF⟩
  · show (if r = r ∨ _ then 1 else 0) ≠ 0
    rw [if_pos (.inl rfl)]; decide
  · have e1 := b1 ad.block (by rw [e]; rfl)
    refine ⟨?_, by omega⟩
    show (if ad.block = r ∨ _ then 1 else 0) ≠ 0
    rw [if_pos (.inr ⟨by omega, by omega⟩)]; decide
  · have e1 := b2 ad.block (by rw [e]; rfl)
    refine ⟨?_, by omega⟩
    show (if ad.block = r ∨ _ then 1 else 0) ≠ 0
    rw [if_pos (.inr ⟨by omega, by omega⟩)]; decide
  · simp at ha
    show (if a = r ∨ _ then 1 else 0) = 0
    rw [if_neg (by omega)]
  · have e : a = r := Classical.byContradiction fun e => h1 (by show (if a = r ∨ _ then 1 else 0) = 0; rw [if_neg (by omega)])
    rw [e]; exact hG
theorem ext_none {w w' : World} (h : w.grownBy w' (Value.slice none 0 0).ownBlock) : Ext w w' := ⟨h.os, h.tape, h.output, h.size, fun k hk => h.block k hk (fun e => by cases e)⟩
theorem rPut_any (r : Nat) (L : List Te) (G : Nat → Nat) (s : ByteArray) (i : Int) (w : World) (h : RTo w r L G) (hS : Srt L) (hl : L.length ≤ 1200) (er : Int) (L' : List Te) (hE : Hid (er = putEr L ⟨s, i⟩)) (hL' : Hid (L' = putLs L ⟨s, i⟩)) :
    Calls Tryz.prog 19 #[.pointer (some ⟨r, 0, none⟩), .string s, .int .i64 i] w fun e w' => e = .returned (.int .i64 er) ∧ RTurned w w' r G L' := by
  have hh := hid h
  have hb := hid (fun w' (hx : Ext w w') b hb => rhas_any r L s i w' (hh.out.ext hx).rt hS (by omega) b hb)
  have hRk := hid (fun w' (hx : Ext w w') k hk => rRank_any r L s i w' (hh.out.ext hx).rt hS (by omega) k hk)
  have hsame := hid (fun w' (hx : Ext w w') (h1 : L' = L) => (show RTurned w w' r G L' by rw [h1]; exact hh.out.same hx))
  have hrk := hid (rank_cut hS ⟨s, i⟩).1
  have hins := hid (ins_cut hS ⟨s, i⟩)
  cases hok : okT ⟨s, i⟩ with
  | false =>
    have hE1 : Hid (er = 1) := by unfold Hid; rw [hE.out]; unfold putEr; rw [hok]; rfl
    have hL1 : Hid (L' = L) := by unfold Hid; rw [hL'.out]; unfold putLs; rw [← hE.out, hE1.out]; rfl
    clear h hS
    have hI := hid (risEntry_any s i w)
    rw [hok] at hI
    go_enter Tryz.func19, Tryz.ntmps19
    go_wp2_with fail
    refine hI.out.mono ?_
    rintro e w1 ⟨rfl, rfl⟩
    go_wp2
    go_ret
    exact ⟨by rw [hE1.out]; rfl, hsame.out _ (Ext.refl _) hL1.out⟩
  | true =>
    have hI := hid (fun w => risEntry_any s i w)
    rw [hok] at hI
    cases hmm : memT L ⟨s, i⟩ with
    | true =>
      have hE1 : Hid (er = 5) := by unfold Hid; rw [hE.out]; unfold putEr; rw [hok, hmm]; rfl
      have hL1 : Hid (L' = L) := by unfold Hid; rw [hL'.out]; unfold putLs; rw [← hE.out, hE1.out]; rfl
      replace hb := hid (hb.out w (Ext.refl w) true hmm.symm)
      clear h hS hmm hok
      go_enter Tryz.func19, Tryz.ntmps19
      go_wp2_with fail
      refine (hI.out _).mono ?_
      rintro e w1 ⟨rfl, rfl⟩
      go_wp2_with fail
      refine hb.out.mono ?_
      rintro e w2 ⟨rfl, hx2⟩
      go_wp2
      go_ret
      exact ⟨by rw [hE1.out]; rfl, hsame.out _ hx2 hL1.out⟩
    | false =>
      replace hb := hid (hb.out w (Ext.refl w) false hmm.symm)
      obtain ⟨A1, c1, A2, c2, h1, h2, h3, h4, h5, h6, h7⟩ := h
      have m1 := Rd.max h2
      have m2 := RdI.max h3
      have z0 : w.cell? ⟨r, 0, none⟩ = some (.slice A1 L.length c1) := by rw [Lib.cell_of_heap h1]; rfl
      have lr := (Array.getElem?_eq_some_iff.1 h1).1
      by_cases hfull : 1200 ≤ L.length
      · have hE1 : Hid (er = 3) := by unfold Hid; rw [hE.out]; unfold putEr; rw [hok, hmm, if_pos rfl, if_neg (by decide), if_pos hfull]
        have hL1 : Hid (L' = L) := by unfold Hid; rw [hL'.out]; unfold putLs; rw [← hE.out, hE1.out]; rfl
        have d9 : (1200 : Int) ≤ (L.length : Int) := by omega
        clear hS hmm hok hfull h1 h2 h3 h5 h6 h7
        go_enter Tryz.func19, Tryz.ntmps19
        go_wp2_with fail
        refine (hI.out _).mono ?_
        rintro e w1 ⟨rfl, rfl⟩
        go_wp2_with fail
        refine hb.out.mono ?_
        rintro e w2 ⟨rfl, hx2⟩
        replace z0 := hx2.cell z0
        have lr2 := Nat.lt_of_lt_of_le lr hx2.size
        replace hx2 := hid hx2
        go_wp2
        go_ret
        exact ⟨by rw [hE1.out]; rfl, hsame.out _ hx2.out hL1.out⟩
      · have hE1 : Hid (er = 0) := by unfold Hid; rw [hE.out]; unfold putEr; rw [hok, hmm, if_pos rfl, if_neg (by decide), if_neg hfull]
        have hL1 : Hid (L' = insT L ⟨s, i⟩) := by unfold Hid; rw [hL'.out]; unfold putLs; rw [← hE.out, hE1.out]; rfl
        have d9 : ¬ (1200 : Int) ≤ (L.length : Int) := by omega
        obtain ⟨k, hk⟩ : ∃ k, Hid (k = rankT L ⟨s, i⟩) := ⟨_, rfl⟩
        have hkl : k ≤ L.length := by have := hrk.out; have := hk.out; omega
        rw [hins.out, ← hk.out] at hL1
        have hK' : Hid (L'.map Te.key = [] ++ (L.map Te.key).take k ++ [s] ++ (L.map Te.key).drop k) := by unfold Hid; rw [hL1.out, List.map_append, List.map_cons, List.map_take, List.map_drop]; simp
        have hN' : Hid (L'.map Te.no = [] ++ (L.map Te.no).take k ++ [i] ++ (L.map Te.no).drop k) := by unfold Hid; rw [hL1.out, List.map_append, List.map_cons, List.map_take, List.map_drop]; simp
        have hK'l : Hid ((L'.map Te.key).length = L'.length) := List.length_map _
        have hN'l : Hid ((L'.map Te.no).length = L'.length) := List.length_map _
        have hlr := hid lr
        have hGr := hid h4
        have hh1 := hid h1
        replace h2 := hid h2
        replace h3 := hid h3
        replace h5 := hid h5
        replace h6 := hid h6
        have hki : (k : Int) ≤ (L.length : Int) := by omega
        have hki1 : (k : Int) ≤ (c1 : Int) := by omega
        have hki2 : (k : Int) ≤ (c2 : Int) := by omega
        clear hS hmm hok hfull h1 h7 h4 hsame hE hL' hins hL1 hrk hh
        go_enter Tryz.func19, Tryz.ntmps19
        go_wp2_with fail
        refine (hI.out _).mono ?_
        rintro e w1 ⟨rfl, rfl⟩
        go_wp2_with fail
        refine hb.out.mono ?_
        rintro e w2 ⟨rfl, hx2⟩
        replace z0 := hx2.cell z0
        have lr2 := Nat.lt_of_lt_of_le lr hx2.size
        replace hx2 := hid hx2
        go_wp2_with fail
        refine (hRk.out _ hx2.out k hk.out).mono ?_
        rintro e w3 ⟨rfl, hx3⟩
        have zW := hx3.cell z0
        replace hx3 := hid (hx2.out.trans hx3)
        have hr3 := hid ((hx3.out.block lr).trans hh1.out)
        have hrW := hid hr3.out
        have lrW := Nat.lt_of_lt_of_le lr hx3.out.size
        have hpre : Hid (∀ W', Ext w3 W' → Rd W' 1 A1 k c1 (strv ((L.map Te.key).take k))) := fun W' hx => by
          have := (h2.out.ext (hx3.out.trans hx)).takeK hkl
          rw [Nat.mul_one, strv_take] at this
          exact this
        have hsuf : Hid (∀ W', Ext w3 W' → Rd W' 1 (if c1 = k then A1 else A1.map (·.add k)) (L.length - k) (c1 - k) (strv ((L.map Te.key).drop k))) := fun W' hx => by
          have := (h2.out.ext (hx3.out.trans hx)).cut hkl
          rw [Nat.mul_one, strv_drop] at this
          exact this
        clear z0 lr2 hb hRk hI
        go_upto_region 8 with fail
        have I0 : (fun w' : World => w'.cell? ⟨r, 0, none⟩ = some (.slice A1 L.length c1)) w3.drew := zW
        refine region_J (fun w' : World => w'.cell? ⟨r, 0, none⟩ = some (.slice A1 L.length c1)) 20 (by kernel_rfl) ?_
        have hxWu := hid ((Ext.refl w3).drew_right)
        have lrWu := hid lrW
        clear zW lrW
        generalize w3.drew = Xu at *
        have hp1 := hid (hpre.out Xu hxWu.out)
        have hp2 := hid (hsuf.out Xu hxWu.out)
        have hx0 := hid (Ext.refl Xu)
        have hownN := hid (show Xu.ownsRow Xu.heap.size 9 1 (.slice none 0 0) 0 (strv []) from World.ownsRow_nil _ _ _ _)
        have hnN : Hid (0 = ([] : List ByteArray).length) := rfl
        refine JT 0 (v := ?vu0) I0 ?yu0 ?ru0
        case yu0 => (intro w h; have := h; go_simp; with_reducible rfl)
        simp only [Act.put, lyA, lyB, lyC, lyD, lyE, lyF]
        refine JT 1 (v := ?vu1) I0 ?yu1 ?ru1
        case yu1 => (intro w h; have := h; go_simp; with_reducible rfl)
        simp only [Act.put, lyA, lyB, lyC, lyD, lyE, lyF]
        refine JT 2 (v := ?vu2) I0 ?yu2 ?ru2
        case yu2 => (intro w h; have := h; go_simp; with_reducible rfl)
        simp only [Act.put, lyA, lyB, lyC, lyD, lyE, lyF]
        refine JT 3 (v := ?vu3) I0 ?yu3 ?ru3
        case yu3 => (intro w h; have := h; go_simp; with_reducible rfl)
        simp only [Act.put, lyA, lyB, lyC, lyD, lyE, lyF]
        refine JT 4 (v := ?vu4) I0 ?yu4 ?ru4
        case yu4 => (intro w h; have := h; go_simp; with_reducible rfl)
        simp only [Act.put, lyA, lyB, lyC, lyD, lyE, lyF]
        refine JT 5 (v := ?vu5) I0 ?yu5 ?ru5
        case yu5 => (intro w h; have := h; go_simp; with_reducible rfl)
        simp only [Act.put, lyA, lyB, lyC, lyD, lyE, lyF]
        refine JT 6 (v := ?vu6) I0 ?yu6 ?ru6
        case yu6 => (intro w h; have := h; go_simp; with_reducible rfl)
        simp only [Act.put, lyA, lyB, lyC, lyD, lyE, lyF]
        refine JT 8 (v := ?vu8) I0 ?yu8 ?ru8
        case yu8 => (intro w h; have := h; go_simp; with_reducible rfl)
        simp only [Act.put, lyA, lyB, lyC, lyD, lyE, lyF]
        refine JT 11 (v := ?vu11) I0 ?yu11 ?ru11
        case yu11 => (intro w h; have := h; go_simp; with_reducible rfl)
        simp only [Act.put, lyA, lyB, lyC, lyD, lyE, lyF]
        refine JT 12 (v := ?vu12) I0 ?yu12 ?ru12
        case yu12 => (intro w h; have := h; go_simp; with_reducible rfl)
        simp only [Act.put, lyA, lyB, lyC, lyD, lyE, lyF]
        refine JT 13 (v := ?vu13) I0 ?yu13 ?ru13
        case yu13 => (intro w h; have := h; go_simp; with_reducible rfl)
        simp only [Act.put, lyA, lyB, lyC, lyD, lyE, lyF]
        refine JT 14 (v := ?vu14) I0 ?yu14 ?ru14
        case yu14 => (intro w h; have := h; go_simp; with_reducible rfl)
        simp only [Act.put, lyA, lyB, lyC, lyD, lyE, lyF]
        refine JT 15 (v := ?vu15) I0 ?yu15 ?ru15
        case yu15 => (intro w h; have := h; go_simp; with_reducible rfl)
        simp only [Act.put, lyA, lyB, lyC, lyD, lyE, lyF]
        refine JT 16 (v := ?vu16) I0 ?yu16 ?ru16
        case yu16 => (intro w h; have := h; go_simp; with_reducible rfl)
        simp only [Act.put, lyA, lyB, lyC, lyD, lyE, lyF]
        refine J_two 7 9 rfl rfl (by kernel_rfl) (fun K hK => ?_) (fun K hK => ?_)
        · obtain ⟨B7u, n7, e7u, Yau, hap1, hn7, hs7, owau, hxau, -⟩ := appSx hx0.out hnN hownN.out hp1.out (by omega) 28
          replace hn7 := hid hn7.out
          replace hs7 := hid hs7
          replace owau := hid owau
          replace hxau := hid hxau
          have Ia : (fun w' : World => w'.cell? ⟨r, 0, none⟩ = some (.slice A1 L.length c1)) Yau := hxau.out.cell I0
          replace hap1 := hid hap1
          refine step_run rfl _ (ex_append _ _ _ _ rfl _ _ (by simp [Act.eval, Act.put]) (by simp [Act.eval, Act.put]) _ hap1.out) ?_
          refine hK _ _ ⟨fun _ => Ia, ?_⟩
          clear hK K
          try simp only [Act.put, lyA, lyB, lyC, lyD, lyE, lyF]
          clear hap1
          refine J_one 9 rfl (by kernel_rfl) (fun K hK => ?_)
          go_simp
          have hxbu := hid (hxau.out.alloc_right (.cells #[.string s] 9))
          have hnw := hid (rd_new1 Yau (.string s) 9)
          have owbu := hid (owau.out.alloc (.cells #[.string s] 9))
          have Ib : (fun w' : World => w'.cell? ⟨r, 0, none⟩ = some (.slice A1 L.length c1)) (Yau.alloc (.cells #[.string s] 9)) := hxbu.out.cell I0
          refine hK _ _ ⟨fun _ => Ib, ?_⟩
          clear hK K
          try simp only [Act.put, lyA, lyB, lyC, lyD, lyE, lyF]
          obtain ⟨nb, hnb⟩ : ∃ nb, nb = Yau.heap.size := ⟨_, rfl⟩
          rw [← hnb] at hnw
          simp only [← hnb]
          replace hnb := hid hnb
          generalize (Yau.alloc (.cells #[.string s] 9)) = Ybu at *
          refine J_one 10 rfl (by kernel_rfl) (fun K hK => ?_)
          obtain ⟨B10u, n10, e10u, Ycu, hap1, hn10, hs10, owcu, hxcu, -⟩ := appSx (es := [s]) hxbu.out hn7 owbu.out hnw.out (by have := hs7.out; omega) 28
          replace hn10 := hid hn10.out
          replace hs10 := hid hs10
          replace owcu := hid owcu
          replace hxcu := hid hxcu
          have Ic : (fun w' : World => w'.cell? ⟨r, 0, none⟩ = some (.slice A1 L.length c1)) Ycu := hxcu.out.cell I0
          replace hap1 := hid hap1
          refine step_run rfl _ (ex_append _ _ _ _ rfl _ _ (by simp [Act.eval, Act.put]) (by simp [Act.eval, Act.put]) _ hap1.out) ?_
          refine hK _ _ ⟨fun _ => Ic, ?_⟩
          clear hK K
          try simp only [Act.put, lyA, lyB, lyC, lyD, lyE, lyF]
          clear hap1
          refine J_one 17 rfl (by kernel_rfl) (fun K hK => ?_)
          obtain ⟨B17u, n17, e17u, Ydu, hap1, hn17, hs17, owdu, hxdu, -⟩ := appSx hxcu.out hn10 owcu.out (hp2.out.ext hxcu.out) (by have := hs7.out; have := hs10.out; omega) 28
          replace hn17 := hid hn17.out
          replace hs17 := hid hs17
          replace owdu := hid owdu
          replace hxdu := hid hxdu
          have Id : (fun w' : World => w'.cell? ⟨r, 0, none⟩ = some (.slice A1 L.length c1)) Ydu := hxdu.out.cell I0
          replace hap1 := hid hap1
          refine step_run rfl _ (ex_append _ _ _ _ rfl _ _ (by simp [Act.eval, Act.put]) (by simp [Act.eval, Act.put]) _ hap1.out) ?_
          refine hK _ _ ⟨fun _ => Id, ?_⟩
          clear hK K
          try simp only [Act.put, lyA, lyB, lyC, lyD, lyE, lyF]
          clear hap1
          have hrn := (hxdu.out.block (Nat.lt_of_lt_of_le lrWu.out hxWu.out.size)).trans ((hxWu.out.block lrWu.out).trans hrW.out)
          have hfr := Lib.frozen_of_heap hrn 0
          refine J_one 18 rfl (by kernel_rfl) (fun K hK => ?_)
          go_simp
          refine hK _ _ ⟨fun _ => Id, ?_⟩
          clear hK K
          try simp only [Act.put, lyA, lyB, lyC, lyD, lyE, lyF]
          refine J_one 19 rfl (by kernel_rfl) (fun K hK => ?_)
          go_simp
          refine hK _ _ ⟨fun _ => Id, ?_⟩
          clear hK K
          try simp only [Act.put, lyA, lyB, lyC, lyD, lyE, lyF]
          refine J_one 20 rfl (by kernel_rfl) (fun K hK => ?_)
          go_simp
          refine hK _ _ ⟨fun h => absurd rfl h, ?_⟩
          clear hK K
          refine J_done (by kernel_rfl) (OnlyOn.normal ?_)
          clear I0 Id hfr hp1 hp2 hx0 hownN hnN
          have hk4 := owdu.out
          obtain rfl : n17 = L'.length := by have := hn17.out; rw [← hK'.out, hK'l.out] at this; exact this
          rw [← hK'.out] at hk4
          replace hk4 := hid (own_baseK hk4 hxWu.out.size)
          have hx4 := hid (hxWu.out.trans hxdu.out)
          have hr5 := tree2_set0 hrn (.slice B17u L'.length e17u)
          have hF5 : FR (one1 r) w (Ydu.setCell ⟨r, 0, none⟩ (.slice B17u L'.length e17u)) := (FR.of_ext (f := one1 r) (hx3.out.trans hx4.out)).trans fr_one (fun _ _ h => h)
          have hr5n := hid (rd_frame (show Rd w 1 A2 L.length c2 (ints (L.map Te.no)) from h3.out) hF5 (fun hn ad e => if_neg (h6.out hn ad e).2))
          clear hpre hsuf hrn hF5 hrW
          generalize hw5 : Ydu.setCell ⟨r, 0, none⟩ (.slice B17u L'.length e17u) = W5 at *
          replace hw5 := hid hw5.symm
          have zW : W5.cell? ⟨r, 1, none⟩ = some (.slice A2 L.length c2) := by rw [Lib.cell_of_heap hr5]; rfl
          have lrW := (Array.getElem?_eq_some_iff.1 hr5).1
          have hrW := hid hr5
          clear hr5
          have hpre : Hid (∀ W', Ext W5 W' → Rd W' 1 A2 k c2 (ints ((L.map Te.no).take k))) := fun W' hx => by
            have := (hr5n.out.ext hx).takeK hkl
            rw [Nat.mul_one, ints_take] at this
            exact this
          have hsuf : Hid (∀ W', Ext W5 W' → Rd W' 1 (if c2 = k then A2 else A2.map (·.add k)) (L.length - k) (c2 - k) (ints ((L.map Te.no).drop k))) := fun W' hx => by
            have := (hr5n.out.ext hx).cut hkl
            rw [Nat.mul_one, ints_drop] at this
            exact this
          go_upto_region 9 with fail
          have I0 : (fun w' : World => w'.cell? ⟨r, 1, none⟩ = some (.slice A2 L.length c2)) W5.drew := zW
          refine region_J (fun w' : World => w'.cell? ⟨r, 1, none⟩ = some (.slice A2 L.length c2)) 20 (by kernel_rfl) ?_
          have hxWp := hid ((Ext.refl W5).drew_right)
          have lrWp := hid lrW
          clear zW lrW
          generalize W5.drew = Xp at *
          have hp1 := hid (hpre.out Xp hxWp.out)
          have hp2 := hid (hsuf.out Xp hxWp.out)
          have hx0 := hid (Ext.refl Xp)
          have hownN := hid (show Xp.ownsRow Xp.heap.size 3 1 (.slice none 0 0) 0 (ints []) from World.ownsRow_nil _ _ _ _)
          have hnN : Hid (0 = ([] : List Int).length) := rfl
          refine JT 0 (v := ?vp0) I0 ?yp0 ?rp0
          case yp0 => (intro w h; have := h; go_simp; with_reducible rfl)
          simp only [Act.put, lyA, lyB, lyC, lyD, lyE, lyF]
          refine JT 1 (v := ?vp1) I0 ?yp1 ?rp1
          case yp1 => (intro w h; have := h; go_simp; with_reducible rfl)
          simp only [Act.put, lyA, lyB, lyC, lyD, lyE, lyF]
          refine JT 2 (v := ?vp2) I0 ?yp2 ?rp2
          case yp2 => (intro w h; have := h; go_simp; with_reducible rfl)
          simp only [Act.put, lyA, lyB, lyC, lyD, lyE, lyF]
          refine JT 3 (v := ?vp3) I0 ?yp3 ?rp3
          case yp3 => (intro w h; have := h; go_simp; with_reducible rfl)
          simp only [Act.put, lyA, lyB, lyC, lyD, lyE, lyF]
          refine JT 4 (v := ?vp4) I0 ?yp4 ?rp4
          case yp4 => (intro w h; have := h; go_simp; with_reducible rfl)
          simp only [Act.put, lyA, lyB, lyC, lyD, lyE, lyF]
          refine JT 5 (v := ?vp5) I0 ?yp5 ?rp5
          case yp5 => (intro w h; have := h; go_simp; with_reducible rfl)
          simp only [Act.put, lyA, lyB, lyC, lyD, lyE, lyF]
          refine JT 6 (v := ?vp6) I0 ?yp6 ?rp6
          case yp6 => (intro w h; have := h; go_simp; with_reducible rfl)
          simp only [Act.put, lyA, lyB, lyC, lyD, lyE, lyF]
          refine JT 8 (v := ?vp8) I0 ?yp8 ?rp8
          case yp8 => (intro w h; have := h; go_simp; with_reducible rfl)
          simp only [Act.put, lyA, lyB, lyC, lyD, lyE, lyF]
          refine JT 11 (v := ?vp11) I0 ?yp11 ?rp11
          case yp11 => (intro w h; have := h; go_simp; with_reducible rfl)
          simp only [Act.put, lyA, lyB, lyC, lyD, lyE, lyF]
          refine JT 12 (v := ?vp12) I0 ?yp12 ?rp12
          case yp12 => (intro w h; have := h; go_simp; with_reducible rfl)
          simp only [Act.put, lyA, lyB, lyC, lyD, lyE, lyF]
          refine JT 13 (v := ?vp13) I0 ?yp13 ?rp13
          case yp13 => (intro w h; have := h; go_simp; with_reducible rfl)
          simp only [Act.put, lyA, lyB, lyC, lyD, lyE, lyF]
          refine JT 14 (v := ?vp14) I0 ?yp14 ?rp14
          case yp14 => (intro w h; have := h; go_simp; with_reducible rfl)
          simp only [Act.put, lyA, lyB, lyC, lyD, lyE, lyF]
          refine JT 15 (v := ?vp15) I0 ?yp15 ?rp15
          case yp15 => (intro w h; have := h; go_simp; with_reducible rfl)
          simp only [Act.put, lyA, lyB, lyC, lyD, lyE, lyF]
          refine JT 16 (v := ?vp16) I0 ?yp16 ?rp16
          case yp16 => (intro w h; have := h; go_simp; with_reducible rfl)
          simp only [Act.put, lyA, lyB, lyC, lyD, lyE, lyF]
          refine J_two 7 9 rfl rfl (by kernel_rfl) (fun K hK => ?_) (fun K hK => ?_)
          · obtain ⟨B7p, n7, e7p, Yap, hap1, hn7, hs7, owap, hxap, -⟩ := appIx hx0.out hnN hownN.out hp1.out (by omega) 29
            replace hn7 := hid hn7.out
            replace hs7 := hid hs7
            replace owap := hid owap
            replace hxap := hid hxap
            have Ia : (fun w' : World => w'.cell? ⟨r, 1, none⟩ = some (.slice A2 L.length c2)) Yap := hxap.out.cell I0
            replace hap1 := hid hap1
            refine step_run rfl _ (ex_append _ _ _ _ rfl _ _ (by simp [Act.eval, Act.put]) (by simp [Act.eval, Act.put]) _ hap1.out) ?_
            refine hK _ _ ⟨fun _ => Ia, ?_⟩
            clear hK K
            try simp only [Act.put, lyA, lyB, lyC, lyD, lyE, lyF]
            clear hap1
            refine J_one 9 rfl (by kernel_rfl) (fun K hK => ?_)
            go_simp
            have hxbp := hid (hxap.out.alloc_right (.cells #[.int .i64 i] 3))
            have hnw := hid (rd_new1 Yap (.int .i64 i) 3)
            have owbp := hid (owap.out.alloc (.cells #[.int .i64 i] 3))
            have Ib : (fun w' : World => w'.cell? ⟨r, 1, none⟩ = some (.slice A2 L.length c2)) (Yap.alloc (.cells #[.int .i64 i] 3)) := hxbp.out.cell I0
            refine hK _ _ ⟨fun _ => Ib, ?_⟩
            clear hK K
            try simp only [Act.put, lyA, lyB, lyC, lyD, lyE, lyF]
            obtain ⟨nb, hnb⟩ : ∃ nb, nb = Yap.heap.size := ⟨_, rfl⟩
            rw [← hnb] at hnw
            simp only [← hnb]
            replace hnb := hid hnb
            generalize (Yap.alloc (.cells #[.int .i64 i] 3)) = Ybp at *
            refine J_one 10 rfl (by kernel_rfl) (fun K hK => ?_)
            obtain ⟨B10p, n10, e10p, Ycp, hap1, hn10, hs10, owcp, hxcp, -⟩ := appIx (es := [i]) hxbp.out hn7 owbp.out hnw.out (by have := hs7.out; omega) 29
            replace hn10 := hid hn10.out
            replace hs10 := hid hs10
            replace owcp := hid owcp
            replace hxcp := hid hxcp
            have Ic : (fun w' : World => w'.cell? ⟨r, 1, none⟩ = some (.slice A2 L.length c2)) Ycp := hxcp.out.cell I0
            replace hap1 := hid hap1
            refine step_run rfl _ (ex_append _ _ _ _ rfl _ _ (by simp [Act.eval, Act.put]) (by simp [Act.eval, Act.put]) _ hap1.out) ?_
            refine hK _ _ ⟨fun _ => Ic, ?_⟩
            clear hK K
            try simp only [Act.put, lyA, lyB, lyC, lyD, lyE, lyF]
            clear hap1
            refine J_one 17 rfl (by kernel_rfl) (fun K hK => ?_)
            obtain ⟨B17p, n17, e17p, Ydp, hap1, hn17, hs17, owdp, hxdp, -⟩ := appIx hxcp.out hn10 owcp.out (hp2.out.ext hxcp.out) (by have := hs7.out; have := hs10.out; omega) 29
            replace hn17 := hid hn17.out
            replace hs17 := hid hs17
            replace owdp := hid owdp
            replace hxdp := hid hxdp
            have Id : (fun w' : World => w'.cell? ⟨r, 1, none⟩ = some (.slice A2 L.length c2)) Ydp := hxdp.out.cell I0
            replace hap1 := hid hap1
            refine step_run rfl _ (ex_append _ _ _ _ rfl _ _ (by simp [Act.eval, Act.put]) (by simp [Act.eval, Act.put]) _ hap1.out) ?_
            refine hK _ _ ⟨fun _ => Id, ?_⟩
            clear hK K
            try simp only [Act.put, lyA, lyB, lyC, lyD, lyE, lyF]
            clear hap1
            have hrn := (hxdp.out.block (Nat.lt_of_lt_of_le lrWp.out hxWp.out.size)).trans ((hxWp.out.block lrWp.out).trans hrW.out)
            have hfr := Lib.frozen_of_heap hrn 1
            refine J_one 18 rfl (by kernel_rfl) (fun K hK => ?_)
            go_simp
            refine hK _ _ ⟨fun _ => Id, ?_⟩
            clear hK K
            try simp only [Act.put, lyA, lyB, lyC, lyD, lyE, lyF]
            refine J_one 19 rfl (by kernel_rfl) (fun K hK => ?_)
            go_simp
            refine hK _ _ ⟨fun _ => Id, ?_⟩
            clear hK K
            try simp only [Act.put, lyA, lyB, lyC, lyD, lyE, lyF]
            refine J_one 20 rfl (by kernel_rfl) (fun K hK => ?_)
            go_simp
            refine hK _ _ ⟨fun h => absurd rfl h, ?_⟩
            clear hK K
            refine J_done (by kernel_rfl) (OnlyOn.normal ?_)
            clear I0 Id hfr hp1 hp2 hx0 hownN hnN
            have hk7 := owdp.out
            obtain rfl : n17 = L'.length := by have := hn17.out; rw [← hN'.out, hN'l.out] at this; exact this
            rw [← hN'.out] at hk7
            have hfin : Hid (RTurned w (Ydp.setCell ⟨r, 1, none⟩ (.slice B17p L'.length e17p)) r G L') :=
              RTurned.mk2 hlr.out hGr.out hx3.out hr3.out hx4.out hk4.out hw5.out (hxWp.out.trans hxdp.out) (own_baseK hk7 hxWp.out.size)
            clear hk7 hrn
            go_wp2
            all_goals
              go_ret
              exact ⟨by rw [hE1.out]; rfl, hfin.out⟩
          · go_simp
            have hxap := hid (hx0.out.alloc_right (.cells #[.int .i64 i] 3))
            have hnw := hid (rd_new1 Xp (.int .i64 i) 3)
            have owap := hid (hownN.out.alloc (.cells #[.int .i64 i] 3))
            have Ia : (fun w' : World => w'.cell? ⟨r, 1, none⟩ = some (.slice A2 L.length c2)) (Xp.alloc (.cells #[.int .i64 i] 3)) := hxap.out.cell I0
            refine hK _ _ ⟨fun _ => Ia, ?_⟩
            clear hK K
            try simp only [Act.put, lyA, lyB, lyC, lyD, lyE, lyF]
            obtain ⟨nb, hnb⟩ : ∃ nb, nb = Xp.heap.size := ⟨_, rfl⟩
            rw [← hnb] at hnw
            simp only [← hnb]
            replace hnb := hid hnb
            generalize (Xp.alloc (.cells #[.int .i64 i] 3)) = Yap at *
            refine J_one 7 rfl (by kernel_rfl) (fun K hK => ?_)
            obtain ⟨B7p, n7, e7p, Ybp, hap1, hn7, hs7, owbp, hxbp, hgw⟩ := appIx hxap.out hnN owap.out (hp1.out.ext hxap.out) (by omega) 29
            replace hn7 := hid hn7.out
            replace hs7 := hid hs7
            replace owbp := hid owbp
            replace hxbp := hid hxbp
            have Ib : (fun w' : World => w'.cell? ⟨r, 1, none⟩ = some (.slice A2 L.length c2)) Ybp := hxbp.out.cell I0
            replace hnw := hid (hnw.out.ext (ext_none hgw))
            clear hgw
            replace hap1 := hid hap1
            refine step_run rfl _ (ex_append _ _ _ _ rfl _ _ (by simp [Act.eval, Act.put]) (by simp [Act.eval, Act.put]) _ hap1.out) ?_
            refine hK _ _ ⟨fun _ => Ib, ?_⟩
            clear hK K
            try simp only [Act.put, lyA, lyB, lyC, lyD, lyE, lyF]
            clear hap1
            refine J_one 10 rfl (by kernel_rfl) (fun K hK => ?_)
            obtain ⟨B10p, n10, e10p, Ycp, hap1, hn10, hs10, owcp, hxcp, -⟩ := appIx (es := [i]) hxbp.out hn7 owbp.out hnw.out (by have := hs7.out; omega) 29
            replace hn10 := hid hn10.out
            replace hs10 := hid hs10
            replace owcp := hid owcp
            replace hxcp := hid hxcp
            have Ic : (fun w' : World => w'.cell? ⟨r, 1, none⟩ = some (.slice A2 L.length c2)) Ycp := hxcp.out.cell I0
            replace hap1 := hid hap1
            refine step_run rfl _ (ex_append _ _ _ _ rfl _ _ (by simp [Act.eval, Act.put]) (by simp [Act.eval, Act.put]) _ hap1.out) ?_
            refine hK _ _ ⟨fun _ => Ic, ?_⟩
            clear hK K
            try simp only [Act.put, lyA, lyB, lyC, lyD, lyE, lyF]
            clear hap1
            refine J_one 17 rfl (by kernel_rfl) (fun K hK => ?_)
            obtain ⟨B17p, n17, e17p, Ydp, hap1, hn17, hs17, owdp, hxdp, -⟩ := appIx hxcp.out hn10 owcp.out (hp2.out.ext hxcp.out) (by have := hs7.out; have := hs10.out; omega) 29
            replace hn17 := hid hn17.out
            replace hs17 := hid hs17
            replace owdp := hid owdp
            replace hxdp := hid hxdp
            have Id : (fun w' : World => w'.cell? ⟨r, 1, none⟩ = some (.slice A2 L.length c2)) Ydp := hxdp.out.cell I0
            replace hap1 := hid hap1
            refine step_run rfl _ (ex_append _ _ _ _ rfl _ _ (by simp [Act.eval, Act.put]) (by simp [Act.eval, Act.put]) _ hap1.out) ?_
            refine hK _ _ ⟨fun _ => Id, ?_⟩
            clear hK K
            try simp only [Act.put, lyA, lyB, lyC, lyD, lyE, lyF]
            clear hap1
            have hrn := (hxdp.out.block (Nat.lt_of_lt_of_le lrWp.out hxWp.out.size)).trans ((hxWp.out.block lrWp.out).trans hrW.out)
            have hfr := Lib.frozen_of_heap hrn 1
            refine J_one 18 rfl (by kernel_rfl) (fun K hK => ?_)
            go_simp
            refine hK _ _ ⟨fun _ => Id, ?_⟩
            clear hK K
            try simp only [Act.put, lyA, lyB, lyC, lyD, lyE, lyF]
            refine J_one 19 rfl (by kernel_rfl) (fun K hK => ?_)
            go_simp
            refine hK _ _ ⟨fun _ => Id, ?_⟩
            clear hK K
            try simp only [Act.put, lyA, lyB, lyC, lyD, lyE, lyF]
            refine J_one 20 rfl (by kernel_rfl) (fun K hK => ?_)
            go_simp
            refine hK _ _ ⟨fun h => absurd rfl h, ?_⟩
            clear hK K
            refine J_done (by kernel_rfl) (OnlyOn.normal ?_)
            clear I0 Id hfr hp1 hp2 hx0 hownN hnN
            have hk7 := owdp.out
            obtain rfl : n17 = L'.length := by have := hn17.out; rw [← hN'.out, hN'l.out] at this; exact this
            rw [← hN'.out] at hk7
            have hfin : Hid (RTurned w (Ydp.setCell ⟨r, 1, none⟩ (.slice B17p L'.length e17p)) r G L') :=
              RTurned.mk2 hlr.out hGr.out hx3.out hr3.out hx4.out hk4.out hw5.out (hxWp.out.trans hxdp.out) (own_baseK hk7 hxWp.out.size)
            clear hk7 hrn
            go_wp2
            all_goals
              go_ret
              exact ⟨by rw [hE1.out]; rfl, hfin.out⟩
        · go_simp
          have hxau := hid (hx0.out.alloc_right (.cells #[.string s] 9))
          have hnw := hid (rd_new1 Xu (.string s) 9)
          have owau := hid (hownN.out.alloc (.cells #[.string s] 9))
          have Ia : (fun w' : World => w'.cell? ⟨r, 0, none⟩ = some (.slice A1 L.length c1)) (Xu.alloc (.cells #[.string s] 9)) := hxau.out.cell I0
          refine hK _ _ ⟨fun _ => Ia, ?_⟩
          clear hK K
          try simp only [Act.put, lyA, lyB, lyC, lyD, lyE, lyF]
          obtain ⟨nb, hnb⟩ : ∃ nb, nb = Xu.heap.size := ⟨_, rfl⟩
          rw [← hnb] at hnw
          simp only [← hnb]
          replace hnb := hid hnb
          generalize (Xu.alloc (.cells #[.string s] 9)) = Yau at *
          refine J_one 7 rfl (by kernel_rfl) (fun K hK => ?_)
          obtain ⟨B7u, n7, e7u, Ybu, hap1, hn7, hs7, owbu, hxbu, hgw⟩ := appSx hxau.out hnN owau.out (hp1.out.ext hxau.out) (by omega) 28
          replace hn7 := hid hn7.out
          replace hs7 := hid hs7
          replace owbu := hid owbu
          replace hxbu := hid hxbu
          have Ib : (fun w' : World => w'.cell? ⟨r, 0, none⟩ = some (.slice A1 L.length c1)) Ybu := hxbu.out.cell I0
          replace hnw := hid (hnw.out.ext (ext_none hgw))
          clear hgw
          replace hap1 := hid hap1
          refine step_run rfl _ (ex_append _ _ _ _ rfl _ _ (by simp [Act.eval, Act.put]) (by simp [Act.eval, Act.put]) _ hap1.out) ?_
          refine hK _ _ ⟨fun _ => Ib, ?_⟩
          clear hK K
          try simp only [Act.put, lyA, lyB, lyC, lyD, lyE, lyF]
          clear hap1
          refine J_one 10 rfl (by kernel_rfl) (fun K hK => ?_)
          obtain ⟨B10u, n10, e10u, Ycu, hap1, hn10, hs10, owcu, hxcu, -⟩ := appSx (es := [s]) hxbu.out hn7 owbu.out hnw.out (by have := hs7.out; omega) 28
          replace hn10 := hid hn10.out
          replace hs10 := hid hs10
          replace owcu := hid owcu
          replace hxcu := hid hxcu
          have Ic : (fun w' : World => w'.cell? ⟨r, 0, none⟩ = some (.slice A1 L.length c1)) Ycu := hxcu.out.cell I0
          replace hap1 := hid hap1
          refine step_run rfl _ (ex_append _ _ _ _ rfl _ _ (by simp [Act.eval, Act.put]) (by simp [Act.eval, Act.put]) _ hap1.out) ?_
          refine hK _ _ ⟨fun _ => Ic, ?_⟩
          clear hK K
          try simp only [Act.put, lyA, lyB, lyC, lyD, lyE, lyF]
          clear hap1
          refine J_one 17 rfl (by kernel_rfl) (fun K hK => ?_)
          obtain ⟨B17u, n17, e17u, Ydu, hap1, hn17, hs17, owdu, hxdu, -⟩ := appSx hxcu.out hn10 owcu.out (hp2.out.ext hxcu.out) (by have := hs7.out; have := hs10.out; omega) 28
          replace hn17 := hid hn17.out
          replace hs17 := hid hs17
          replace owdu := hid owdu
          replace hxdu := hid hxdu
          have Id : (fun w' : World => w'.cell? ⟨r, 0, none⟩ = some (.slice A1 L.length c1)) Ydu := hxdu.out.cell I0
          replace hap1 := hid hap1
          refine step_run rfl _ (ex_append _ _ _ _ rfl _ _ (by simp [Act.eval, Act.put]) (by simp [Act.eval, Act.put]) _ hap1.out) ?_
          refine hK _ _ ⟨fun _ => Id, ?_⟩
          clear hK K
          try simp only [Act.put, lyA, lyB, lyC, lyD, lyE, lyF]
          clear hap1
          have hrn := (hxdu.out.block (Nat.lt_of_lt_of_le lrWu.out hxWu.out.size)).trans ((hxWu.out.block lrWu.out).trans hrW.out)
          have hfr := Lib.frozen_of_heap hrn 0
          refine J_one 18 rfl (by kernel_rfl) (fun K hK => ?_)
          go_simp
          refine hK _ _ ⟨fun _ => Id, ?_⟩
          clear hK K
          try simp only [Act.put, lyA, lyB, lyC, lyD, lyE, lyF]
          refine J_one 19 rfl (by kernel_rfl) (fun K hK => ?_)
          go_simp
          refine hK _ _ ⟨fun _ => Id, ?_⟩
          clear hK K
          try simp only [Act.put, lyA, lyB, lyC, lyD, lyE, lyF]
          refine J_one 20 rfl (by kernel_rfl) (fun K hK => ?_)
          go_simp
          refine hK _ _ ⟨fun h => absurd rfl h, ?_⟩
          clear hK K
          refine J_done (by kernel_rfl) (OnlyOn.normal ?_)
          clear I0 Id hfr hp1 hp2 hx0 hownN hnN
          have hk4 := owdu.out
          obtain rfl : n17 = L'.length := by have := hn17.out; rw [← hK'.out, hK'l.out] at this; exact this
          rw [← hK'.out] at hk4
          replace hk4 := hid (own_baseK hk4 hxWu.out.size)
          have hx4 := hid (hxWu.out.trans hxdu.out)
          have hr5 := tree2_set0 hrn (.slice B17u L'.length e17u)
          have hF5 : FR (one1 r) w (Ydu.setCell ⟨r, 0, none⟩ (.slice B17u L'.length e17u)) := (FR.of_ext (f := one1 r) (hx3.out.trans hx4.out)).trans fr_one (fun _ _ h => h)
          have hr5n := hid (rd_frame (show Rd w 1 A2 L.length c2 (ints (L.map Te.no)) from h3.out) hF5 (fun hn ad e => if_neg (h6.out hn ad e).2))
          clear hpre hsuf hrn hF5 hrW
          generalize hw5 : Ydu.setCell ⟨r, 0, none⟩ (.slice B17u L'.length e17u) = W5 at *
          replace hw5 := hid hw5.symm
          have zW : W5.cell? ⟨r, 1, none⟩ = some (.slice A2 L.length c2) := by rw [Lib.cell_of_heap hr5]; rfl
          have lrW := (Array.getElem?_eq_some_iff.1 hr5).1
          have hrW := hid hr5
          clear hr5
          have hpre : Hid (∀ W', Ext W5 W' → Rd W' 1 A2 k c2 (ints ((L.map Te.no).take k))) := fun W' hx => by
            have := (hr5n.out.ext hx).takeK hkl
            rw [Nat.mul_one, ints_take] at this
            exact this
          have hsuf : Hid (∀ W', Ext W5 W' → Rd W' 1 (if c2 = k then A2 else A2.map (·.add k)) (L.length - k) (c2 - k) (ints ((L.map Te.no).drop k))) := fun W' hx => by
            have := (hr5n.out.ext hx).cut hkl
            rw [Nat.mul_one, ints_drop] at this
            exact this
          go_upto_region 9 with fail
          have I0 : (fun w' : World => w'.cell? ⟨r, 1, none⟩ = some (.slice A2 L.length c2)) W5.drew := zW
          refine region_J (fun w' : World => w'.cell? ⟨r, 1, none⟩ = some (.slice A2 L.length c2)) 20 (by kernel_rfl) ?_
          have hxWq := hid ((Ext.refl W5).drew_right)
          have lrWq := hid lrW
          clear zW lrW
          generalize W5.drew = Xq at *
          have hp1 := hid (hpre.out Xq hxWq.out)
          have hp2 := hid (hsuf.out Xq hxWq.out)
          have hx0 := hid (Ext.refl Xq)
          have hownN := hid (show Xq.ownsRow Xq.heap.size 3 1 (.slice none 0 0) 0 (ints []) from World.ownsRow_nil _ _ _ _)
          have hnN : Hid (0 = ([] : List Int).length) := rfl
          refine JT 0 (v := ?vq0) I0 ?yq0 ?rq0
          case yq0 => (intro w h; have := h; go_simp; with_reducible rfl)
          simp only [Act.put, lyA, lyB, lyC, lyD, lyE, lyF]
          refine JT 1 (v := ?vq1) I0 ?yq1 ?rq1
          case yq1 => (intro w h; have := h; go_simp; with_reducible rfl)
          simp only [Act.put, lyA, lyB, lyC, lyD, lyE, lyF]
          refine JT 2 (v := ?vq2) I0 ?yq2 ?rq2
          case yq2 => (intro w h; have := h; go_simp; with_reducible rfl)
          simp only [Act.put, lyA, lyB, lyC, lyD, lyE, lyF]
          refine JT 3 (v := ?vq3) I0 ?yq3 ?rq3
          case yq3 => (intro w h; have := h; go_simp; with_reducible rfl)
          simp only [Act.put, lyA, lyB, lyC, lyD, lyE, lyF]
          refine JT 4 (v := ?vq4) I0 ?yq4 ?rq4
          case yq4 => (intro w h; have := h; go_simp; with_reducible rfl)
          simp only [Act.put, lyA, lyB, lyC, lyD, lyE, lyF]
          refine JT 5 (v := ?vq5) I0 ?yq5 ?rq5
          case yq5 => (intro w h; have := h; go_simp; with_reducible rfl)
          simp only [Act.put, lyA, lyB, lyC, lyD, lyE, lyF]
          refine JT 6 (v := ?vq6) I0 ?yq6 ?rq6
          case yq6 => (intro w h; have := h; go_simp; with_reducible rfl)
          simp only [Act.put, lyA, lyB, lyC, lyD, lyE, lyF]
          refine JT 8 (v := ?vq8) I0 ?yq8 ?rq8
          case yq8 => (intro w h; have := h; go_simp; with_reducible rfl)
          simp only [Act.put, lyA, lyB, lyC, lyD, lyE, lyF]
          refine JT 11 (v := ?vq11) I0 ?yq11 ?rq11
          case yq11 => (intro w h; have := h; go_simp; with_reducible rfl)
          simp only [Act.put, lyA, lyB, lyC, lyD, lyE, lyF]
          refine JT 12 (v := ?vq12) I0 ?yq12 ?rq12
          case yq12 => (intro w h; have := h; go_simp; with_reducible rfl)
          simp only [Act.put, lyA, lyB, lyC, lyD, lyE, lyF]
          refine JT 13 (v := ?vq13) I0 ?yq13 ?rq13
          case yq13 => (intro w h; have := h; go_simp; with_reducible rfl)
          simp only [Act.put, lyA, lyB, lyC, lyD, lyE, lyF]
          refine JT 14 (v := ?vq14) I0 ?yq14 ?rq14
          case yq14 => (intro w h; have := h; go_simp; with_reducible rfl)
          simp only [Act.put, lyA, lyB, lyC, lyD, lyE, lyF]
          refine JT 15 (v := ?vq15) I0 ?yq15 ?rq15
          case yq15 => (intro w h; have := h; go_simp; with_reducible rfl)
          simp only [Act.put, lyA, lyB, lyC, lyD, lyE, lyF]
          refine JT 16 (v := ?vq16) I0 ?yq16 ?rq16
          case yq16 => (intro w h; have := h; go_simp; with_reducible rfl)
          simp only [Act.put, lyA, lyB, lyC, lyD, lyE, lyF]
          refine J_two 7 9 rfl rfl (by kernel_rfl) (fun K hK => ?_) (fun K hK => ?_)
          · obtain ⟨B7q, n7, e7q, Yaq, hap1, hn7, hs7, owaq, hxaq, -⟩ := appIx hx0.out hnN hownN.out hp1.out (by omega) 29
            replace hn7 := hid hn7.out
            replace hs7 := hid hs7
            replace owaq := hid owaq
            replace hxaq := hid hxaq
            have Ia : (fun w' : World => w'.cell? ⟨r, 1, none⟩ = some (.slice A2 L.length c2)) Yaq := hxaq.out.cell I0
            replace hap1 := hid hap1
            refine step_run rfl _ (ex_append _ _ _ _ rfl _ _ (by simp [Act.eval, Act.put]) (by simp [Act.eval, Act.put]) _ hap1.out) ?_
            refine hK _ _ ⟨fun _ => Ia, ?_⟩
            clear hK K
            try simp only [Act.put, lyA, lyB, lyC, lyD, lyE, lyF]
            clear hap1
            refine J_one 9 rfl (by kernel_rfl) (fun K hK => ?_)
            go_simp
            have hxbq := hid (hxaq.out.alloc_right (.cells #[.int .i64 i] 3))
            have hnw := hid (rd_new1 Yaq (.int .i64 i) 3)
            have owbq := hid (owaq.out.alloc (.cells #[.int .i64 i] 3))
            have Ib : (fun w' : World => w'.cell? ⟨r, 1, none⟩ = some (.slice A2 L.length c2)) (Yaq.alloc (.cells #[.int .i64 i] 3)) := hxbq.out.cell I0
            refine hK _ _ ⟨fun _ => Ib, ?_⟩
            clear hK K
            try simp only [Act.put, lyA, lyB, lyC, lyD, lyE, lyF]
            obtain ⟨nb, hnb⟩ : ∃ nb, nb = Yaq.heap.size := ⟨_, rfl⟩
            rw [← hnb] at hnw
            simp only [← hnb]
            replace hnb := hid hnb
            generalize (Yaq.alloc (.cells #[.int .i64 i] 3)) = Ybq at *
            refine J_one 10 rfl (by kernel_rfl) (fun K hK => ?_)
            obtain ⟨B10q, n10, e10q, Ycq, hap1, hn10, hs10, owcq, hxcq, -⟩ := appIx (es := [i]) hxbq.out hn7 owbq.out hnw.out (by have := hs7.out; omega) 29
            replace hn10 := hid hn10.out
            replace hs10 := hid hs10
            replace owcq := hid owcq
            replace hxcq := hid hxcq
            have Ic : (fun w' : World => w'.cell? ⟨r, 1, none⟩ = some (.slice A2 L.length c2)) Ycq := hxcq.out.cell I0
            replace hap1 := hid hap1
            refine step_run rfl _ (ex_append _ _ _ _ rfl _ _ (by simp [Act.eval, Act.put]) (by simp [Act.eval, Act.put]) _ hap1.out) ?_
            refine hK _ _ ⟨fun _ => Ic, ?_⟩
            clear hK K
            try simp only [Act.put, lyA, lyB, lyC, lyD, lyE, lyF]
            clear hap1
            refine J_one 17 rfl (by kernel_rfl) (fun K hK => ?_)
            obtain ⟨B17q, n17, e17q, Ydq, hap1, hn17, hs17, owdq, hxdq, -⟩ := appIx hxcq.out hn10 owcq.out (hp2.out.ext hxcq.out) (by have := hs7.out; have := hs10.out; omega) 29
            replace hn17 := hid hn17.out
            replace hs17 := hid hs17
            replace owdq := hid owdq
            replace hxdq := hid hxdq
            have Id : (fun w' : World => w'.cell? ⟨r, 1, none⟩ = some (.slice A2 L.length c2)) Ydq := hxdq.out.cell I0
            replace hap1 := hid hap1
            refine step_run rfl _ (ex_append _ _ _ _ rfl _ _ (by simp [Act.eval, Act.put]) (by simp [Act.eval, Act.put]) _ hap1.out) ?_
            refine hK _ _ ⟨fun _ => Id, ?_⟩
            clear hK K
            try simp only [Act.put, lyA, lyB, lyC, lyD, lyE, lyF]
            clear hap1
            have hrn := (hxdq.out.block (Nat.lt_of_lt_of_le lrWq.out hxWq.out.size)).trans ((hxWq.out.block lrWq.out).trans hrW.out)
            have hfr := Lib.frozen_of_heap hrn 1
            refine J_one 18 rfl (by kernel_rfl) (fun K hK => ?_)
            go_simp
            refine hK _ _ ⟨fun _ => Id, ?_⟩
            clear hK K
            try simp only [Act.put, lyA, lyB, lyC, lyD, lyE, lyF]
            refine J_one 19 rfl (by kernel_rfl) (fun K hK => ?_)
            go_simp
            refine hK _ _ ⟨fun _ => Id, ?_⟩
            clear hK K
            try simp only [Act.put, lyA, lyB, lyC, lyD, lyE, lyF]
            refine J_one 20 rfl (by kernel_rfl) (fun K hK => ?_)
            go_simp
            refine hK _ _ ⟨fun h => absurd rfl h, ?_⟩
            clear hK K
            refine J_done (by kernel_rfl) (OnlyOn.normal ?_)
            clear I0 Id hfr hp1 hp2 hx0 hownN hnN
            have hk7 := owdq.out
            obtain rfl : n17 = L'.length := by have := hn17.out; rw [← hN'.out, hN'l.out] at this; exact this
            rw [← hN'.out] at hk7
            have hfin : Hid (RTurned w (Ydq.setCell ⟨r, 1, none⟩ (.slice B17q L'.length e17q)) r G L') :=
              RTurned.mk2 hlr.out hGr.out hx3.out hr3.out hx4.out hk4.out hw5.out (hxWq.out.trans hxdq.out) (own_baseK hk7 hxWq.out.size)
            clear hk7 hrn
            go_wp2
            all_goals
              go_ret
              exact ⟨by rw [hE1.out]; rfl, hfin.out⟩
          · go_simp
            have hxaq := hid (hx0.out.alloc_right (.cells #[.int .i64 i] 3))
            have hnw := hid (rd_new1 Xq (.int .i64 i) 3)
            have owaq := hid (hownN.out.alloc (.cells #[.int .i64 i] 3))
            have Ia : (fun w' : World => w'.cell? ⟨r, 1, none⟩ = some (.slice A2 L.length c2)) (Xq.alloc (.cells #[.int .i64 i] 3)) := hxaq.out.cell I0
            refine hK _ _ ⟨fun _ => Ia, ?_⟩
            clear hK K
            try simp only [Act.put, lyA, lyB, lyC, lyD, lyE, lyF]
            obtain ⟨nb, hnb⟩ : ∃ nb, nb = Xq.heap.size := ⟨_, rfl⟩
            rw [← hnb] at hnw
            simp only [← hnb]
            replace hnb := hid hnb
            generalize (Xq.alloc (.cells #[.int .i64 i] 3)) = Yaq at *
            refine J_one 7 rfl (by kernel_rfl) (fun K hK => ?_)
            obtain ⟨B7q, n7, e7q, Ybq, hap1, hn7, hs7, owbq, hxbq, hgw⟩ := appIx hxaq.out hnN owaq.out (hp1.out.ext hxaq.out) (by omega) 29
            replace hn7 := hid hn7.out
            replace hs7 := hid hs7
            replace owbq := hid owbq
            replace hxbq := hid hxbq
            have Ib : (fun w' : World => w'.cell? ⟨r, 1, none⟩ = some (.slice A2 L.length c2)) Ybq := hxbq.out.cell I0
            replace hnw := hid (hnw.out.ext (ext_none hgw))
            clear hgw
            replace hap1 := hid hap1
            refine step_run rfl _ (ex_append _ _ _ _ rfl _ _ (by simp [Act.eval, Act.put]) (by simp [Act.eval, Act.put]) _ hap1.out) ?_
            refine hK _ _ ⟨fun _ => Ib, ?_⟩
            clear hK K
            try simp only [Act.put, lyA, lyB, lyC, lyD, lyE, lyF]
            clear hap1
            refine J_one 10 rfl (by kernel_rfl) (fun K hK => ?_)
            obtain ⟨B10q, n10, e10q, Ycq, hap1, hn10, hs10, owcq, hxcq, -⟩ := appIx (es := [i]) hxbq.out hn7 owbq.out hnw.out (by have := hs7.out; omega) 29
            replace hn10 := hid hn10.out
            replace hs10 := hid hs10
            replace owcq := hid owcq
            replace hxcq := hid hxcq
            have Ic : (fun w' : World => w'.cell? ⟨r, 1, none⟩ = some (.slice A2 L.length c2)) Ycq := hxcq.out.cell I0
            replace hap1 := hid hap1
            refine step_run rfl _ (ex_append _ _ _ _ rfl _ _ (by simp [Act.eval, Act.put]) (by simp [Act.eval, Act.put]) _ hap1.out) ?_
            refine hK _ _ ⟨fun _ => Ic, ?_⟩
            clear hK K
            try simp only [Act.put, lyA, lyB, lyC, lyD, lyE, lyF]
            clear hap1
            refine J_one 17 rfl (by kernel_rfl) (fun K hK => ?_)
            obtain ⟨B17q, n17, e17q, Ydq, hap1, hn17, hs17, owdq, hxdq, -⟩ := appIx hxcq.out hn10 owcq.out (hp2.out.ext hxcq.out) (by have := hs7.out; have := hs10.out; omega) 29
            replace hn17 := hid hn17.out
            replace hs17 := hid hs17
            replace owdq := hid owdq
            replace hxdq := hid hxdq
            have Id : (fun w' : World => w'.cell? ⟨r, 1, none⟩ = some (.slice A2 L.length c2)) Ydq := hxdq.out.cell I0
            replace hap1 := hid hap1
            refine step_run rfl _ (ex_append _ _ _ _ rfl _ _ (by simp [Act.eval, Act.put]) (by simp [Act.eval, Act.put]) _ hap1.out) ?_
            refine hK _ _ ⟨fun _ => Id, ?_⟩
            clear hK K
            try simp only [Act.put, lyA, lyB, lyC, lyD, lyE, lyF]
            clear hap1
            have hrn := (hxdq.out.block (Nat.lt_of_lt_of_le lrWq.out hxWq.out.size)).trans ((hxWq.out.block lrWq.out).trans hrW.out)
            have hfr := Lib.frozen_of_heap hrn 1
            refine J_one 18 rfl (by kernel_rfl) (fun K hK => ?_)
            go_simp
            refine hK _ _ ⟨fun _ => Id, ?_⟩
            clear hK K
            try simp only [Act.put, lyA, lyB, lyC, lyD, lyE, lyF]
            refine J_one 19 rfl (by kernel_rfl) (fun K hK => ?_)
            go_simp
            refine hK _ _ ⟨fun _ => Id, ?_⟩
            clear hK K
            try simp only [Act.put, lyA, lyB, lyC, lyD, lyE, lyF]
            refine J_one 20 rfl (by kernel_rfl) (fun K hK => ?_)
            go_simp
            refine hK _ _ ⟨fun h => absurd rfl h, ?_⟩
            clear hK K
            refine J_done (by kernel_rfl) (OnlyOn.normal ?_)
            clear I0 Id hfr hp1 hp2 hx0 hownN hnN
            have hk7 := owdq.out
            obtain rfl : n17 = L'.length := by have := hn17.out; rw [← hN'.out, hN'l.out] at this; exact this
            rw [← hN'.out] at hk7
            have hfin : Hid (RTurned w (Ydq.setCell ⟨r, 1, none⟩ (.slice B17q L'.length e17q)) r G L') :=
              RTurned.mk2 hlr.out hGr.out hx3.out hr3.out hx4.out hk4.out hw5.out (hxWq.out.trans hxdq.out) (own_baseK hk7 hxWq.out.size)
            clear hk7 hrn
            go_wp2
            all_goals
              go_ret
              exact ⟨by rw [hE1.out]; rfl, hfin.out⟩
theorem rTake_any (r : Nat) (L : List Te) (G : Nat → Nat) (s : ByteArray) (i : Int) (w : World) (h : RTo w r L G) (hS : Srt L) (hl : L.length ≤ 1200) (er : Int) (L' : List Te) (hE : Hid (er = takeEr L ⟨s, i⟩)) (hL' : Hid (L' = takeLs L ⟨s, i⟩)) :
    Calls Tryz.prog 21 #[.pointer (some ⟨r, 0, none⟩), .string s, .int .i64 i] w fun e w' => e = .returned (.int .i64 er) ∧ RTurned w w' r G L' := by
  have hh := hid h
  have hb := hid (fun w' (hx : Ext w w') b hb => rhas_any r L s i w' (hh.out.ext hx).rt hS (by omega) b hb)
  have hRk := hid (fun w' (hx : Ext w w') k hk => rRank_any r L s i w' (hh.out.ext hx).rt hS (by omega) k hk)
  have hsame := hid (fun w' (hx : Ext w w') (h1 : L' = L) => (show RTurned w w' r G L' by rw [h1]; exact hh.out.same hx))
  have hins := hid (fun hm => del_cut hS (e := ⟨s, i⟩) hm)
  have hatr := hid (fun hm => (at_rank hS (e := ⟨s, i⟩) hm).1)
  cases hok : okT ⟨s, i⟩ with
  | false =>
    have hE1 : Hid (er = 1) := by unfold Hid; rw [hE.out]; unfold takeEr; rw [hok]; rfl
    have hL1 : Hid (L' = L) := by unfold Hid; rw [hL'.out]; unfold takeLs; rw [← hE.out, hE1.out]; rfl
    clear h hS hatr hins
    have hI := hid (risEntry_any s i w)
    rw [hok] at hI
    go_enter Tryz.func21, Tryz.ntmps21
    go_wp2_with fail
    refine hI.out.mono ?_
    rintro e w1 ⟨rfl, rfl⟩
    go_wp2
    go_ret
    exact ⟨by rw [hE1.out]; rfl, hsame.out _ (Ext.refl _) hL1.out⟩
  | true =>
    have hI := hid (fun w => risEntry_any s i w)
    rw [hok] at hI
    cases hmm : memT L ⟨s, i⟩ with
    | false =>
      have hE1 : Hid (er = 4) := by unfold Hid; rw [hE.out]; unfold takeEr; rw [hok, hmm]; rfl
      have hL1 : Hid (L' = L) := by unfold Hid; rw [hL'.out]; unfold takeLs; rw [← hE.out, hE1.out]; rfl
      replace hb := hid (hb.out w (Ext.refl w) false hmm.symm)
      clear h hS hmm hok hatr hins
      go_enter Tryz.func21, Tryz.ntmps21
      go_wp2_with fail
      refine (hI.out _).mono ?_
      rintro e w1 ⟨rfl, rfl⟩
      go_wp2_with fail
      refine hb.out.mono ?_
      rintro e w2 ⟨rfl, hx2⟩
      go_wp2
      go_ret
      exact ⟨by rw [hE1.out]; rfl, hsame.out _ hx2 hL1.out⟩
    | true =>
      replace hb := hid (hb.out w (Ext.refl w) true hmm.symm)
      obtain ⟨A1, c1, A2, c2, h1, h2, h3, h4, h5, h6, h7⟩ := h
      have m1 := Rd.max h2
      have m2 := RdI.max h3
      have z0 : w.cell? ⟨r, 0, none⟩ = some (.slice A1 L.length c1) := by rw [Lib.cell_of_heap h1]; rfl
      have lr := (Array.getElem?_eq_some_iff.1 h1).1
      have hE1 : Hid (er = 0) := by unfold Hid; rw [hE.out]; unfold takeEr; rw [hok, hmm]; rfl
      have hL1 : Hid (L' = delT L ⟨s, i⟩) := by unfold Hid; rw [hL'.out]; unfold takeLs; rw [← hE.out, hE1.out]; rfl
      obtain ⟨k, hk⟩ : ∃ k, Hid (k = rankT L ⟨s, i⟩) := ⟨_, rfl⟩
      have hkl2 : k < L.length := by have := hatr.out (memT_iff.1 hmm); have := hk.out; omega
      rw [hins.out (memT_iff.1 hmm), ← hk.out] at hL1
      obtain ⟨k1, hk1⟩ : ∃ k1, k1 = k + 1 := ⟨_, rfl⟩
      rw [← hk1] at hL1
      have hkl : k ≤ L.length := by omega
      have hkl1 : k1 ≤ L.length := by omega
      have hw1 : IntKind.i64.wrap ((k : Int) + 1) = (k1 : Int) := by rw [IntWalk.i64_in _ (by omega)]; omega
      have hw2 : ((k : Int) + 1) = (k1 : Int) := by omega
      have hw3 : IntKind.i64.wrap (k1 : Int) = (k1 : Int) := IntWalk.i64_in _ (by omega)
      replace hk1 := hid hk1
      have hK' : Hid (L'.map Te.key = [] ++ (L.map Te.key).take k ++ (L.map Te.key).drop k1) := by unfold Hid; rw [hL1.out, List.map_append, List.map_take, List.map_drop]; simp
      have hN' : Hid (L'.map Te.no = [] ++ (L.map Te.no).take k ++ (L.map Te.no).drop k1) := by unfold Hid; rw [hL1.out, List.map_append, List.map_take, List.map_drop]; simp
      have hK'l : Hid ((L'.map Te.key).length = L'.length) := List.length_map _
      have hN'l : Hid ((L'.map Te.no).length = L'.length) := List.length_map _
      have hlr := hid lr
      have hGr := hid h4
      have hh1 := hid h1
      replace h2 := hid h2
      replace h3 := hid h3
      replace h5 := hid h5
      replace h6 := hid h6
      have hki : (k : Int) ≤ (L.length : Int) := by omega
      have hki1 : (k : Int) ≤ (c1 : Int) := by omega
      have hki2 : (k : Int) ≤ (c2 : Int) := by omega
      have hkj : (k1 : Int) ≤ (L.length : Int) := by omega
      clear hS hmm hok h1 h7 h4 hsame hE hL' hins hL1 hatr hh
      go_enter Tryz.func21, Tryz.ntmps21
      go_wp2_with fail
      refine (hI.out _).mono ?_
      rintro e w1 ⟨rfl, rfl⟩
      go_wp2_with fail
      refine hb.out.mono ?_
      rintro e w2 ⟨rfl, hx2⟩
      replace z0 := hx2.cell z0
      have lr2 := Nat.lt_of_lt_of_le lr hx2.size
      replace hx2 := hid hx2
      go_wp2_with fail
      refine (hRk.out _ hx2.out k hk.out).mono ?_
      rintro e w3 ⟨rfl, hx3⟩
      have zW := hx3.cell z0
      replace hx3 := hid (hx2.out.trans hx3)
      have hr3 := hid ((hx3.out.block lr).trans hh1.out)
      have hrW := hid hr3.out
      have lrW := Nat.lt_of_lt_of_le lr hx3.out.size
      have hpre : Hid (∀ W', Ext w3 W' → Rd W' 1 A1 k c1 (strv ((L.map Te.key).take k))) := fun W' hx => by
        have := (h2.out.ext (hx3.out.trans hx)).takeK hkl
        rw [Nat.mul_one, strv_take] at this
        exact this
      have hsuf : Hid (∀ W', Ext w3 W' → Rd W' 1 (if c1 = k1 then A1 else A1.map (·.add k1)) (L.length - k1) (c1 - k1) (strv ((L.map Te.key).drop k1))) := fun W' hx => by
        have := (h2.out.ext (hx3.out.trans hx)).cut hkl1
        rw [Nat.mul_one, strv_drop] at this
        exact this
      clear z0 lr2 hb hRk hI
      go_upto_region 6 with fail
      have I0 : (fun w' : World => w'.cell? ⟨r, 0, none⟩ = some (.slice A1 L.length c1)) w3.drew := zW
      refine region_J (fun w' : World => w'.cell? ⟨r, 0, none⟩ = some (.slice A1 L.length c1)) 18 (by kernel_rfl) ?_
      have hxWv := hid ((Ext.refl w3).drew_right)
      have lrWv := hid lrW
      clear zW lrW
      generalize w3.drew = Xv at *
      have hp1 := hid (hpre.out Xv hxWv.out)
      have hp2 := hid (hsuf.out Xv hxWv.out)
      have hx0 := hid (Ext.refl Xv)
      have hownN := hid (show Xv.ownsRow Xv.heap.size 9 1 (.slice none 0 0) 0 (strv []) from World.ownsRow_nil _ _ _ _)
      have hnN : Hid (0 = ([] : List ByteArray).length) := rfl
      refine JT 0 (v := ?vv0) I0 ?yv0 ?rv0
      case yv0 => (intro w h; have := h; go_simp; with_reducible rfl)
      simp only [Act.put, lyA, lyB, lyC, lyD, lyE, lyF]
      refine JT 1 (v := ?vv1) I0 ?yv1 ?rv1
      case yv1 => (intro w h; have := h; go_simp; with_reducible rfl)
      simp only [Act.put, lyA, lyB, lyC, lyD, lyE, lyF]
      refine JT 2 (v := ?vv2) I0 ?yv2 ?rv2
      case yv2 => (intro w h; have := h; go_simp; with_reducible rfl)
      simp only [Act.put, lyA, lyB, lyC, lyD, lyE, lyF]
      refine JT 3 (v := ?vv3) I0 ?yv3 ?rv3
      case yv3 => (intro w h; have := h; go_simp; with_reducible rfl)
      simp only [Act.put, lyA, lyB, lyC, lyD, lyE, lyF]
      refine JT 4 (v := ?vv4) I0 ?yv4 ?rv4
      case yv4 => (intro w h; have := h; go_simp; with_reducible rfl)
      simp only [Act.put, lyA, lyB, lyC, lyD, lyE, lyF]
      refine JT 5 (v := ?vv5) I0 ?yv5 ?rv5
      case yv5 => (intro w h; have := h; go_simp; with_reducible rfl)
      simp only [Act.put, lyA, lyB, lyC, lyD, lyE, lyF]
      refine JT 6 (v := ?vv6) I0 ?yv6 ?rv6
      case yv6 => (intro w h; have := h; go_simp; with_reducible rfl)
      simp only [Act.put, lyA, lyB, lyC, lyD, lyE, lyF]
      refine JT 8 (v := ?vv8) I0 ?yv8 ?rv8
      case yv8 => (intro w h; have := h; go_simp; with_reducible rfl)
      simp only [Act.put, lyA, lyB, lyC, lyD, lyE, lyF]
      refine JT 9 (v := ?vv9) I0 ?yv9 ?rv9
      case yv9 => (intro w h; have := h; go_simp; with_reducible rfl)
      simp only [Act.put, lyA, lyB, lyC, lyD, lyE, lyF]
      refine JT 10 (v := ?vv10) I0 ?yv10 ?rv10
      case yv10 => (intro w h; have := h; go_simp; with_reducible rfl)
      simp only [Act.put, lyA, lyB, lyC, lyD, lyE, lyF]
      refine JT 11 (v := ?vv11) I0 ?yv11 ?rv11
      case yv11 => (intro w h; have := h; go_simp; with_reducible rfl)
      simp only [Act.put, lyA, lyB, lyC, lyD, lyE, lyF]
      refine JT 12 (v := ?vv12) I0 ?yv12 ?rv12
      case yv12 => (intro w h; have := h; go_simp; with_reducible rfl)
      simp only [Act.put, lyA, lyB, lyC, lyD, lyE, lyF]
      refine JT 13 (v := ?vv13) I0 ?yv13 ?rv13
      case yv13 => (intro w h; have := h; go_simp; with_reducible rfl)
      simp only [Act.put, lyA, lyB, lyC, lyD, lyE, lyF]
      refine JT 14 (v := ?vv14) I0 ?yv14 ?rv14
      case yv14 => (intro w h; have := h; go_simp; with_reducible rfl)
      simp only [Act.put, lyA, lyB, lyC, lyD, lyE, lyF]
      refine J_one 7 rfl (by kernel_rfl) (fun K hK => ?_)
      obtain ⟨B7v, n7, e7v, Yav, hap1, hn7, hs7, owav, hxav, -⟩ := appSx hx0.out hnN hownN.out hp1.out (by omega) 28
      replace hn7 := hid hn7.out
      replace hs7 := hid hs7
      replace owav := hid owav
      replace hxav := hid hxav
      have Ia : (fun w' : World => w'.cell? ⟨r, 0, none⟩ = some (.slice A1 L.length c1)) Yav := hxav.out.cell I0
      replace hap1 := hid hap1
      refine step_run rfl _ (ex_append _ _ _ _ rfl _ _ (by simp [Act.eval, Act.put]) (by simp [Act.eval, Act.put]) _ hap1.out) ?_
      refine hK _ _ ⟨fun _ => Ia, ?_⟩
      clear hK K
      try simp only [Act.put, lyA, lyB, lyC, lyD, lyE, lyF]
      clear hap1
      refine J_one 15 rfl (by kernel_rfl) (fun K hK => ?_)
      obtain ⟨B15v, n15, e15v, Ydv, hap1, hn15, hs15, owdv, hxdv, -⟩ := appSx hxav.out hn7 owav.out (hp2.out.ext hxav.out) (by have := hs7.out; omega) 28
      replace hn15 := hid hn15.out
      replace hs15 := hid hs15
      replace owdv := hid owdv
      replace hxdv := hid hxdv
      have Id : (fun w' : World => w'.cell? ⟨r, 0, none⟩ = some (.slice A1 L.length c1)) Ydv := hxdv.out.cell I0
      replace hap1 := hid hap1
      refine step_run rfl _ (ex_append _ _ _ _ rfl _ _ (by simp [Act.eval, Act.put]) (by simp [Act.eval, Act.put]) _ hap1.out) ?_
      refine hK _ _ ⟨fun _ => Id, ?_⟩
      clear hK K
      try simp only [Act.put, lyA, lyB, lyC, lyD, lyE, lyF]
      clear hap1
      have hrn := (hxdv.out.block (Nat.lt_of_lt_of_le lrWv.out hxWv.out.size)).trans ((hxWv.out.block lrWv.out).trans hrW.out)
      have hfr := Lib.frozen_of_heap hrn 0
      refine J_one 16 rfl (by kernel_rfl) (fun K hK => ?_)
      go_simp
      refine hK _ _ ⟨fun _ => Id, ?_⟩
      clear hK K
      try simp only [Act.put, lyA, lyB, lyC, lyD, lyE, lyF]
      refine J_one 17 rfl (by kernel_rfl) (fun K hK => ?_)
      go_simp
      refine hK _ _ ⟨fun _ => Id, ?_⟩
      clear hK K
      try simp only [Act.put, lyA, lyB, lyC, lyD, lyE, lyF]
      refine J_one 18 rfl (by kernel_rfl) (fun K hK => ?_)
      go_simp
      refine hK _ _ ⟨fun h => absurd rfl h, ?_⟩
      clear hK K
      refine J_done (by kernel_rfl) (OnlyOn.normal ?_)
      clear I0 Id hfr hp1 hp2 hx0 hownN hnN
      have hk4 := owdv.out
      obtain rfl : n15 = L'.length := by have := hn15.out; rw [← hK'.out, hK'l.out] at this; exact this
      rw [← hK'.out] at hk4
      replace hk4 := hid (own_baseK hk4 hxWv.out.size)
      have hx4 := hid (hxWv.out.trans hxdv.out)
      have hr5 := tree2_set0 hrn (.slice B15v L'.length e15v)
      have hF5 : FR (one1 r) w (Ydv.setCell ⟨r, 0, none⟩ (.slice B15v L'.length e15v)) := (FR.of_ext (f := one1 r) (hx3.out.trans hx4.out)).trans fr_one (fun _ _ h => h)
      have hr5n := hid (rd_frame (show Rd w 1 A2 L.length c2 (ints (L.map Te.no)) from h3.out) hF5 (fun hn ad e => if_neg (h6.out hn ad e).2))
      clear hpre hsuf hrn hF5 hrW
      generalize hw5 : Ydv.setCell ⟨r, 0, none⟩ (.slice B15v L'.length e15v) = W5 at *
      replace hw5 := hid hw5.symm
      have zW : W5.cell? ⟨r, 1, none⟩ = some (.slice A2 L.length c2) := by rw [Lib.cell_of_heap hr5]; rfl
      have lrW := (Array.getElem?_eq_some_iff.1 hr5).1
      have hrW := hid hr5
      clear hr5
      have hpre : Hid (∀ W', Ext W5 W' → Rd W' 1 A2 k c2 (ints ((L.map Te.no).take k))) := fun W' hx => by
        have := (hr5n.out.ext hx).takeK hkl
        rw [Nat.mul_one, ints_take] at this
        exact this
      have hsuf : Hid (∀ W', Ext W5 W' → Rd W' 1 (if c2 = k1 then A2 else A2.map (·.add k1)) (L.length - k1) (c2 - k1) (ints ((L.map Te.no).drop k1))) := fun W' hx => by
        have := (hr5n.out.ext hx).cut hkl1
        rw [Nat.mul_one, ints_drop] at this
        exact this
      go_upto_region 7 with fail
      have I0 : (fun w' : World => w'.cell? ⟨r, 1, none⟩ = some (.slice A2 L.length c2)) W5.drew := zW
      refine region_J (fun w' : World => w'.cell? ⟨r, 1, none⟩ = some (.slice A2 L.length c2)) 18 (by kernel_rfl) ?_
      have hxWx := hid ((Ext.refl W5).drew_right)
      have lrWx := hid lrW
      clear zW lrW
      generalize W5.drew = Xx at *
      have hp1 := hid (hpre.out Xx hxWx.out)
      have hp2 := hid (hsuf.out Xx hxWx.out)
      have hx0 := hid (Ext.refl Xx)
      have hownN := hid (show Xx.ownsRow Xx.heap.size 3 1 (.slice none 0 0) 0 (ints []) from World.ownsRow_nil _ _ _ _)
      have hnN : Hid (0 = ([] : List Int).length) := rfl
      refine JT 0 (v := ?vx0) I0 ?yx0 ?rx0
      case yx0 => (intro w h; have := h; go_simp; with_reducible rfl)
      simp only [Act.put, lyA, lyB, lyC, lyD, lyE, lyF]
      refine JT 1 (v := ?vx1) I0 ?yx1 ?rx1
      case yx1 => (intro w h; have := h; go_simp; with_reducible rfl)
      simp only [Act.put, lyA, lyB, lyC, lyD, lyE, lyF]
      refine JT 2 (v := ?vx2) I0 ?yx2 ?rx2
      case yx2 => (intro w h; have := h; go_simp; with_reducible rfl)
      simp only [Act.put, lyA, lyB, lyC, lyD, lyE, lyF]
      refine JT 3 (v := ?vx3) I0 ?yx3 ?rx3
      case yx3 => (intro w h; have := h; go_simp; with_reducible rfl)
      simp only [Act.put, lyA, lyB, lyC, lyD, lyE, lyF]
      refine JT 4 (v := ?vx4) I0 ?yx4 ?rx4
      case yx4 => (intro w h; have := h; go_simp; with_reducible rfl)
      simp only [Act.put, lyA, lyB, lyC, lyD, lyE, lyF]
      refine JT 5 (v := ?vx5) I0 ?yx5 ?rx5
      case yx5 => (intro w h; have := h; go_simp; with_reducible rfl)
      simp only [Act.put, lyA, lyB, lyC, lyD, lyE, lyF]
      refine JT 6 (v := ?vx6) I0 ?yx6 ?rx6
      case yx6 => (intro w h; have := h; go_simp; with_reducible rfl)
      simp only [Act.put, lyA, lyB, lyC, lyD, lyE, lyF]
      refine JT 8 (v := ?vx8) I0 ?yx8 ?rx8
      case yx8 => (intro w h; have := h; go_simp; with_reducible rfl)
      simp only [Act.put, lyA, lyB, lyC, lyD, lyE, lyF]
      refine JT 9 (v := ?vx9) I0 ?yx9 ?rx9
      case yx9 => (intro w h; have := h; go_simp; with_reducible rfl)
      simp only [Act.put, lyA, lyB, lyC, lyD, lyE, lyF]
      refine JT 10 (v := ?vx10) I0 ?yx10 ?rx10
      case yx10 => (intro w h; have := h; go_simp; with_reducible rfl)
      simp only [Act.put, lyA, lyB, lyC, lyD, lyE, lyF]
      refine JT 11 (v := ?vx11) I0 ?yx11 ?rx11
      case yx11 => (intro w h; have := h; go_simp; with_reducible rfl)
      simp only [Act.put, lyA, lyB, lyC, lyD, lyE, lyF]
      refine JT 12 (v := ?vx12) I0 ?yx12 ?rx12
      case yx12 => (intro w h; have := h; go_simp; with_reducible rfl)
      simp only [Act.put, lyA, lyB, lyC, lyD, lyE, lyF]
      refine JT 13 (v := ?vx13) I0 ?yx13 ?rx13
      case yx13 => (intro w h; have := h; go_simp; with_reducible rfl)
      simp only [Act.put, lyA, lyB, lyC, lyD, lyE, lyF]
      refine JT 14 (v := ?vx14) I0 ?yx14 ?rx14
      case yx14 => (intro w h; have := h; go_simp; with_reducible rfl)
      simp only [Act.put, lyA, lyB, lyC, lyD, lyE, lyF]
      refine J_one 7 rfl (by kernel_rfl) (fun K hK => ?_)
      obtain ⟨B7x, n7, e7x, Yax, hap1, hn7, hs7, owax, hxax, -⟩ := appIx hx0.out hnN hownN.out hp1.out (by omega) 29
      replace hn7 := hid hn7.out
      replace hs7 := hid hs7
      replace owax := hid owax
      replace hxax := hid hxax
      have Ia : (fun w' : World => w'.cell? ⟨r, 1, none⟩ = some (.slice A2 L.length c2)) Yax := hxax.out.cell I0
      replace hap1 := hid hap1
      refine step_run rfl _ (ex_append _ _ _ _ rfl _ _ (by simp [Act.eval, Act.put]) (by simp [Act.eval, Act.put]) _ hap1.out) ?_
      refine hK _ _ ⟨fun _ => Ia, ?_⟩
      clear hK K
      try simp only [Act.put, lyA, lyB, lyC, lyD, lyE, lyF]
      clear hap1
      refine J_one 15 rfl (by kernel_rfl) (fun K hK => ?_)
      obtain ⟨B15x, n15, e15x, Ydx, hap1, hn15, hs15, owdx, hxdx, -⟩ := appIx hxax.out hn7 owax.out (hp2.out.ext hxax.out) (by have := hs7.out; omega) 29
      replace hn15 := hid hn15.out
      replace hs15 := hid hs15
      replace owdx := hid owdx
      replace hxdx := hid hxdx
      have Id : (fun w' : World => w'.cell? ⟨r, 1, none⟩ = some (.slice A2 L.length c2)) Ydx := hxdx.out.cell I0
      replace hap1 := hid hap1
      refine step_run rfl _ (ex_append _ _ _ _ rfl _ _ (by simp [Act.eval, Act.put]) (by simp [Act.eval, Act.put]) _ hap1.out) ?_
      refine hK _ _ ⟨fun _ => Id, ?_⟩
      clear hK K
      try simp only [Act.put, lyA, lyB, lyC, lyD, lyE, lyF]
      clear hap1
      have hrn := (hxdx.out.block (Nat.lt_of_lt_of_le lrWx.out hxWx.out.size)).trans ((hxWx.out.block lrWx.out).trans hrW.out)
      have hfr := Lib.frozen_of_heap hrn 1
      refine J_one 16 rfl (by kernel_rfl) (fun K hK => ?_)
      go_simp
      refine hK _ _ ⟨fun _ => Id, ?_⟩
      clear hK K
      try simp only [Act.put, lyA, lyB, lyC, lyD, lyE, lyF]
      refine J_one 17 rfl (by kernel_rfl) (fun K hK => ?_)
      go_simp
      refine hK _ _ ⟨fun _ => Id, ?_⟩
      clear hK K
      try simp only [Act.put, lyA, lyB, lyC, lyD, lyE, lyF]
      refine J_one 18 rfl (by kernel_rfl) (fun K hK => ?_)
      go_simp
      refine hK _ _ ⟨fun h => absurd rfl h, ?_⟩
      clear hK K
      refine J_done (by kernel_rfl) (OnlyOn.normal ?_)
      clear I0 Id hfr hp1 hp2 hx0 hownN hnN
      have hk7 := owdx.out
      obtain rfl : n15 = L'.length := by have := hn15.out; rw [← hN'.out, hN'l.out] at this; exact this
      rw [← hN'.out] at hk7
      have hfin : Hid (RTurned w (Ydx.setCell ⟨r, 1, none⟩ (.slice B15x L'.length e15x)) r G L') :=
        RTurned.mk2 hlr.out hGr.out hx3.out hr3.out hx4.out hk4.out hw5.out (hxWx.out.trans hxdx.out) (own_baseK hk7 hxWx.out.size)
      clear hk7 hrn
      go_wp2
      all_goals
        go_ret
        exact ⟨by rw [hE1.out]; rfl, hfin.out⟩
open Go.RowKit Go.Shelf
theorem all_tth {l l' : List Te} (hl : l.length = l'.length) (h : ∀ t, t < l.length → tth l t = tth l' t) : l = l' := by
  refine List.ext_getElem hl (fun i h1 h2 => ?_)
  have := h i h1
  rwa [tth_get h1, tth_get h2] at this
theorem eqE_any (A B : Option Addr) (n c m d : Nat) (l l' : List Te) (w : World) (hl : RdN w A n c l) (hl' : RdN w B m d l') (R : Bool) (hR : Hid (R = true ↔ l = l')) : Calls Tryz.prog 45 #[.slice A n c, .slice B m d] w (Give (.bool R) w) := by
  have hmx := Rd.max hl
  have hmy := Rd.max hl'
  have hn := hl.len
  have hm := hl'.len
  by_cases hnm : n = m
  · subst hnm
    replace hn := hid hn
    replace hm := hid hm
    go_enter Tryz.func45, Tryz.ntmps45
    go_wp2_with fail
    go_loopw [13] (fun i wr => ∃ k : Nat, k ≤ n ∧ i = .int .i64 k ∧ Hid (Ext w wr) ∧ Hid (∀ t, t < k → tth l t = tth l' t)) (fun i _ => n - (intOf i).toNat)
    case atStart => exact ⟨0, by omega, rfl, Ext.refl w, fun t h => absurd h (Nat.not_lt_zero _)⟩
    case round =>
      obtain ⟨k, hk, rfl, hx, hall⟩ := hrel
      by_cases hlt : k < n
      · obtain ⟨ad, rfl, x0, x1⟩ := (hl.ext hx.out).at_ hlt
        obtain ⟨bd, rfl, y0, y1⟩ := (hl'.ext hx.out).at_ hlt
        have hki : (k : Int) < (n : Int) := by omega
        by_cases hxy : tth l k = tth l' k
        · have hall2 : Hid (∀ t, t < k + 1 → tth l t = tth l' t) := fun t ht => by
            rcases Nat.lt_or_eq_of_le (Nat.lt_succ_iff.1 ht) with h | h
            · exact hall.out t h
            · rw [h]; exact hxy
          rw [← hxy] at y0 y1
          generalize tth l k = x at *
          clear hall hxy
          go_upto_region 6 with fail
          go_quiet (fail)
          go_wp2
          go_roundw
          case rel => exact ⟨k + 1, by omega, by go_num, hx.out.drewN_right _, hall2⟩
          case measure => simp [intOf]; omega
        · have hne : Hid (R = false) := by
            cases R with
            | false => rfl
            | true => exact absurd (by rw [hR.out.1 rfl]) hxy
          clear hR hall
          by_cases hkk : (tth l k).key = (tth l' k).key
          · have hno : ((tth l k).no == (tth l' k).no) = false := by
              rw [beq_eq_false_iff_ne]
              intro e
              apply hxy
              cases h1 : tth l k
              cases h2 : tth l' k
              rw [h1, h2] at hkk e
              simp only at hkk e
              rw [hkk, e]
            rw [← hkk] at y0
            generalize tth l k = x at *
            generalize tth l' k = y at *
            clear hkk hxy
            go_upto_region 6 with fail
            go_quiet (fail)
            go_wp2
            go_ret
            exact ⟨by rw [hne.out]; rfl, hx.out.drewN_right _⟩
          · have hkf : ((tth l k).key.toList == (tth l' k).key.toList) = false := by
              rw [beq_eq_false_iff_ne]
              intro e
              apply hkk
              rw [ByteArray.toList_eq, ByteArray.toList_eq] at e
              exact str_ext e
            generalize tth l k = x at *
            generalize tth l' k = y at *
            clear hkk hxy
            go_upto_region 6 with fail
            go_quiet (fail)
            go_wp2
            go_ret
            exact ⟨by rw [hne.out]; rfl, hx.out.drewN_right _⟩
      · obtain rfl : k = n := by omega
        have hR1 : Hid (R = true) := hR.out.2 (all_tth (hm.out.trans hn.out.symm |>.symm) (fun t ht => hall.out t (by have := hn.out; omega)))
        clear hR hall
        go_wp2
        go_ret
        exact ⟨by rw [hR1.out]; rfl, hx.out⟩
  · have hne : Hid (R = false) := by
      cases R with
      | false => rfl
      | true => exact absurd (by rw [← hn, ← hm, hR.out.1 rfl]) hnm
    have hnm2 : ((n : Int) != (m : Int)) = true := by
      rw [bne_iff_ne]
      omega
    clear hR hl hl' hn hm
    go_enter Tryz.func45, Tryz.ntmps45
    go_wp2
    go_ret
    exact ⟨by rw [hne.out]; rfl, Ext.refl _⟩
theorem Same_any (t u : Nat) (L M : List Te) (h p h2 p2 : Nat) (T T2 : BT) (fT fU : Nat → Nat) (w : World) (H : TreeAt 0 w t L h p T fT) (H2 : TreeAt 0 w u M h2 p2 T2 fU) (R : Bool) (hR : Hid (R = true ↔ L = M)) : Calls Tryz.prog 14 #[.pointer (some ⟨t, 0, none⟩), .pointer (some ⟨u, 0, none⟩)] w (Give (.bool R) w) := by
  have hE := hid (entries_any t L h p T fT w H)
  have hE2 := hid (fun w' (hx : Ext w w') => entries_any u M h2 p2 T2 fU w' (H2.ext hx))
  clear H H2
  go_enter Tryz.func14, Tryz.ntmps14
  go_wp2_with fail
  refine hE.out.mono ?_
  rintro e w2 ⟨v, rfl, own2, hx⟩
  obtain ⟨A, c, rfl, -⟩ := own_form own2
  have hrd := hid (show RdN w2 A L.length c L from Rd.of_own own2)
  replace hx := hid hx
  clear own2 hE
  go_wp2_with fail
  refine (hE2.out w2 hx.out).mono ?_
  rintro e w3 ⟨v, rfl, own3, hx3⟩
  obtain ⟨B, d, rfl, -⟩ := own_form own3
  have hQ := hid (eqE_any A B L.length c M.length d L M w3 (hrd.out.ext hx3) (Rd.of_own own3) R hR.out)
  replace hx := hid (hx.out.trans hx3)
  clear own3 hE2 hx3 hR hrd
  go_wp2_with fail
  refine hQ.out.mono ?_
  rintro e w4 ⟨rfl, hx4⟩
  go_wp2
  go_ret
  exact ⟨rfl, hx.out.trans hx4⟩
open Go.RowKit Go.Shelf
structure Ac where
  op : Int
  a : Int
  b : Int
  c : Int
  s : ByteArray
  t : ByteArray
def acells (x : Ac) : List Value := [.int .i64 x.op, .int .i64 x.a, .int .i64 x.b, .int .i64 x.c, .string x.s, .string x.t]
def acs : List Ac → List Value
  | [] => []
  | x :: l => acells x ++ acs l
theorem acs_len : ∀ l : List Ac, (acs l).length = l.length * 6
  | [] => rfl
  | x :: l => by rw [acs, List.length_append, acs_len l, List.length_cons]; simp [acells]; omega
theorem acs_at : ∀ (l : List Ac) (k : Nat) (h : k < l.length) (j : Nat), j < 6 → (acs l)[k * 6 + j]? = (acells l[k])[j]?
  | x :: l, 0, h, j, hj => by
    rw [acs, List.getElem?_append_left (by simp [acells]; omega)]
    simp
  | x :: l, k + 1, h, j, hj => by
    have := acs_at l k (by simpa using h) j hj
    rw [acs, List.getElem?_append_right (by simp [acells]; omega), List.getElem_cons_succ, ← this]
    congr 1
    simp [acells]
    omega
def okA (x : Ac) : Prop := x.s.size ≤ maxLen ∧ x.t.size ≤ maxLen
def RdA (w : World) (A : Option Addr) (n c : Nat) (l : List Ac) : Prop := Rd w 6 A n c (acs l) ∧ ∀ x ∈ l, okA x
theorem RdA.len {w : World} {A : Option Addr} {n c : Nat} {l : List Ac} (h : RdA w A n c l) : l.length = n := by have := h.1.1; rw [acs_len] at this; omega
theorem RdA.ext {w w' : World} {A : Option Addr} {n c : Nat} {l : List Ac} (h : RdA w A n c l) (hb : Ext w w') : RdA w' A n c l := ⟨Rd.ext h.1 hb, h.2⟩
def ath (l : List Ac) (k : Nat) : Ac := l.getD k ⟨0, 0, 0, 0, ⟨#[]⟩, ⟨#[]⟩⟩
theorem ath_get {l : List Ac} {k : Nat} (h : k < l.length) : ath l k = l[k] := by simp [ath, List.getD, h]
theorem RdA.at_ {w : World} {A : Option Addr} {n c : Nat} {l : List Ac} (h : RdA w A n c l) {k : Nat} (hk : k < n) : ∃ ad, A = some ad ∧ w.cell? (ad.add (k * 6)) = some (.int .i64 (ath l k).op) ∧ w.cell? ⟨(ad.add (k * 6)).block, (ad.add (k * 6)).off + 1, none⟩ = some (.int .i64 (ath l k).a) ∧ w.cell? ⟨(ad.add (k * 6)).block, (ad.add (k * 6)).off + 2, none⟩ = some (.int .i64 (ath l k).b) ∧
    w.cell? ⟨(ad.add (k * 6)).block, (ad.add (k * 6)).off + 4, none⟩ = some (.string (ath l k).s) ∧ w.cell? ⟨(ad.add (k * 6)).block, (ad.add (k * 6)).off + 5, none⟩ = some (.string (ath l k).t) ∧ okA (ath l k) := by
  have hl := h.len
  have hlt : k < l.length := by omega
  obtain ⟨ad, rfl, hc⟩ := h.1.2.2.2 (by omega)
  have hj : ∀ j v, j < 6 → (acells (ath l k))[j]? = some v → w.cell? (ad.add (k * 6 + j)) = some v := fun j v h6 hv => hc _ _ (by rw [acs_at l k hlt j h6, ← ath_get hlt]; exact hv)
  have hf : ∀ j v, j < 6 → 0 < j → (acells (ath l k))[j]? = some v → w.cell? ⟨(ad.add (k * 6)).block, (ad.add (k * 6)).off + j, none⟩ = some v := fun j v h6 h0 hv => cell_fk (hj j v h6 hv) h0
  refine ⟨ad, rfl, ?_, hf 1 _ (by decide) (by decide) rfl, hf 2 _ (by decide) (by decide) rfl, hf 4 _ (by decide) (by decide) rfl, hf 5 _ (by decide) (by decide) rfl, h.2 _ (by rw [ath_get hlt]; exact List.getElem_mem hlt)⟩
  exact hj 0 _ (by decide) rfl
open Go.RowKit Go.Shelf
def PTo (w : World) (t : Nat) (L : List Te) (X : Nat × BT) (F : Nat → Nat) : Prop := ∃ p fT, TreeAt 0 w t L X.1 p X.2 fT ∧ ∀ a, F a = one1 t a + fT a
def Dj (F G : Nat → Nat) : Prop := ∀ a, F a = 0 ∨ G a = 0
section
variable {w w' : World} {t r : Nat} {L : List Te} {X : Nat × BT} {F G : Nat → Nat}
theorem PTo.bound (h : PTo w t L X F) : ∀ a, w.heap.size ≤ a → F a = 0 := fun a ha => by
  obtain ⟨p, fT, h1, h2⟩ := h
  rw [h2 a, h1.tn.bound a ha, show one1 t a = 0 from if_neg (by have := h1.lt; omega)]
theorem PTo.frame {f : Nat → Nat} (h : PTo w t L X F) (hF : FR f w w') (hd : ∀ a, F a ≠ 0 → f a = 0) : PTo w' t L X F := by
  obtain ⟨p, fT, h1, h2⟩ := h
  obtain ⟨q, hq⟩ := h1.ht
  have ht : f t = 0 := hd t (by rw [h2 t, one_self]; omega)
  exact ⟨p, fT, ⟨⟨q, (hF.2.2.2.2 t (Array.getElem?_eq_some_iff.1 hq).1 ht).trans hq⟩, h1.tn.frame hF (fun a ha => hd a (by rw [h2 a]; omega)), h1.nd, h1.sh, h1.l4, h1.l1, h1.fl, h1.sr, h1.ok, h1.le⟩, h2⟩
theorem PTo.ext (h : PTo w t L X F) (hx : Ext w w') : PTo w' t L X F := h.frame (f := fun _ => 0) (FR.of_ext hx) (fun _ _ => rfl)
theorem PTo.lt (h : PTo w t L X F) : t < w.heap.size := by
  obtain ⟨p, fT, h1, h2⟩ := h
  exact h1.lt
theorem PTo.sr (h : PTo w t L X F) : Srt L := by
  obtain ⟨p, fT, h1, h2⟩ := h
  exact h1.sr
theorem PTo.turn {fT : Nat → Nat} {L' : List Te} {X' : Nat × BT} (h2 : ∀ a, F a = one1 t a + fT a) (ht0 : t < w.heap.size) (ht : TreeTurnedX X' 0 w w' t fT L') : ∃ F', PTo w' t L' X' F' ∧ (∀ a, a < w.heap.size → F' a ≠ 0 → F a ≠ 0) ∧ FR F w w' := by
  obtain ⟨p, f', h3, h4, h5⟩ := ht
  refine ⟨fun a => one1 t a + f' a, ⟨p, f', h3, fun _ => rfl⟩, fun a ha h6 h7 => h6 ?_, h5.mono (fun k _ h0 => by rw [h2 k] at h0; exact h0)⟩
  have h8 := h4 a ha
  rw [h2 a] at h7
  show one1 t a + f' a = 0
  omega
theorem RTo.bound (h : RTo w r L G) : ∀ a, w.heap.size ≤ a → G a = 0 := by
  obtain ⟨A1, c1, A2, c2, h1, h2, h3, h4, h5, h6, h7⟩ := h
  exact h7
theorem RTo.own (h : RTo w r L G) : G r ≠ 0 := by
  obtain ⟨A1, c1, A2, c2, h1, h2, h3, h4, h5, h6, h7⟩ := h
  exact h4
theorem Dj.symm (h : Dj F G) : Dj G F := fun a => (h a).symm
theorem Dj.left {F' : Nat → Nat} {n : Nat} (h : Dj F G) (h1 : ∀ a, a < n → F' a ≠ 0 → F a ≠ 0) (h2 : ∀ a, n ≤ a → G a = 0) : Dj F' G := fun a => by
  by_cases ha : a < n
  · rcases h a with h3 | h3
    · exact .inl (Classical.byContradiction fun h4 => h1 a ha h4 h3)
    · exact .inr h3
  · exact .inr (h2 a (by omega))
end
def actL (x : Ac) (L : List Te) : List Te := if x.op = 0 then putLs L ⟨x.s, x.a⟩ else if x.op = 1 then takeLs L ⟨x.s, x.a⟩ else L
def actX (x : Ac) (L : List Te) (X : Nat × BT) : Nat × BT := if x.op = 0 then putX X.1 X.2 L ⟨x.s, x.a⟩ else if x.op = 1 then takeX X.1 X.2 L ⟨x.s, x.a⟩ else X
theorem putLs_le {L : List Te} {x : Te} (h : L.length ≤ 1200) : (putLs L x).length ≤ 1200 := by
  unfold putLs
  split
  · rename_i h0
    unfold putEr at h0
    split at h0
    · split at h0
      · cases h0
      · split at h0
        · cases h0
        · rw [len_ins]; omega
    · cases h0
  · exact h
theorem takeLs_le {L : List Te} {x : Te} (h : L.length ≤ 1200) : (takeLs L x).length ≤ 1200 := by
  unfold takeLs
  split
  · rename_i h0
    by_cases hx : x ∈ L
    · have := len_del hx; omega
    · unfold takeEr at h0
      split at h0
      · rw [if_neg (fun hm => hx (memT_iff.1 hm))] at h0
        cases h0
      · cases h0
  · exact h
theorem actL_le {x : Ac} {L : List Te} (h : L.length ≤ 1200) : (actL x L).length ≤ 1200 := by
  unfold actL
  split
  · exact putLs_le h
  · split
    · exact takeLs_le h
    · exact h
def Pair2 (x : Ac) (L : List Te) (X : Nat × BT) (F G : Nat → Nat) (t r : Nat) (w w' : World) : Prop := ∃ F' G', PTo w' t (actL x L) (actX x L X) F' ∧ RTo w' r (actL x L) G' ∧ Dj F' G' ∧ (∀ a, a < w.heap.size → F' a ≠ 0 → F a ≠ 0) ∧ (∀ a, a < w.heap.size → G' a ≠ 0 → G a ≠ 0) ∧ FR (fun a => F a + G a) w w'
def GivePl (x : Ac) (L : List Te) (X : Nat × BT) (F G : Nat → Nat) (t r : Nat) (w : World) (e : Ending) (w' : World) : Prop := e = .returned (.bool true) ∧ Pair2 x L X F G t r w w'
theorem Pair2.stay {x : Ac} {L : List Te} {X : Nat × BT} {F G : Nat → Nat} {t r : Nat} {w w' : World} (h0 : x.op ≠ 0) (h1 : x.op ≠ 1) (hP : PTo w t L X F) (hR : RTo w r L G) (hD : Dj F G) (hx : Ext w w') : Pair2 x L X F G t r w w' := by
  unfold Pair2 actL actX
  rw [if_neg h0, if_neg h1, if_neg h0, if_neg h1]
  exact ⟨F, G, hP.ext hx, hR.ext hx, hD, fun _ _ h => h, fun _ _ h => h, FR.of_ext hx⟩
theorem Pair2.turn {x : Ac} {L L' : List Te} {X X' : Nat × BT} {F F' G : Nat → Nat} {t r : Nat} {w w1 w2 w3 : World} (eL : actL x L = L') (eX : actX x L X = X') (hP : PTo w t L X F) (hR : RTo w r L G) (hD : Dj F G) (hx1 : Ext w w1) (hP2 : PTo w2 t L' X' F') (k2 : ∀ a, a < w1.heap.size → F' a ≠ 0 → F a ≠ 0) (hF2 : FR F w1 w2) (hR3 : RTurned w2 w3 r G L') : Pair2 x L X F G t r w w3 := by
  unfold Pair2
  rw [eL, eX]
  obtain ⟨G', h1, h2, h3⟩ := hR3
  have s1 := hx1.size
  have s2 := hF2.2.2.2.1
  have d1 : Dj F' G := hD.left (n := w1.heap.size) k2 (fun a ha => hR.bound a (by omega))
  have hGr := hR.own
  have hfr : ∀ a, F' a ≠ 0 → one1 r a = 0 := fun a ha => if_neg (fun e => by rcases d1 a with h | h; exact ha h; exact hGr (e ▸ h))
  refine ⟨F', G', hP2.frame h3 hfr, h1, (d1.symm.left (n := w2.heap.size) h2 (fun a ha => hP2.bound a ha)).symm, fun a ha h => k2 a (by omega) h, fun a ha h => h2 a (by omega) h, ?_⟩
  refine ((FR.of_ext (f := fun a => F a + G a) hx1).trans hF2 (fun k _ h0 => by have : F k + G k = 0 := h0; omega)).trans h3 (fun k _ h0 => if_neg (fun e => ?_))
  have : F k + G k = 0 := h0
  rw [e] at this
  omega
theorem found_any (k : ByteArray) (i : Int) (b : Bool) (w : World) : Calls Tryz.prog 25 #[.string k, .int .i64 i, .bool b, .string k, .int .i64 i, .bool b] w fun e w' => e = .returned (.bool true) ∧ w = w' := by
  go_enter Tryz.func25, Tryz.ntmps25
  go_wp2
  go_ret
  exact ⟨rfl, rfl⟩
end Go.Proofs.YtpijfiaecicpfaaGreat
