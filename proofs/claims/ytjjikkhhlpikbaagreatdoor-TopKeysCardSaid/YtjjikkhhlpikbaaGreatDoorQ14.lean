/-
  The bytes of an index, plainly; read back; bytes that are appended; The nodes that are made of an index; The program's Read; The program's wrong and Check.
-/
import Derived.Test.YtjjikkhhlpikbaaGreatDoorQ13
import Derived.Lib.AppendStr
set_option maxRecDepth 100000
set_option maxHeartbeats 40000000
set_option linter.unusedVariables false
set_option linter.unusedSimpArgs false
namespace Go.Proofs.YtjjikkhhlpikbaaGreatDoor
open Go.RowKit Go.Shelf
structure MK (w wr : World) (h p : Nat) (lv kv : Value) (l : List Te) (ps : List Nat) (ks : List BT) (g : Nat → Nat) : Prop where
  hp : wr.heap[p]? = some (.cells #[lv, kv] 48 (0, 0))
  ol : wr.ownsRow 0 65 2 lv l.length (tents l)
  ok : wr.ownsRow 0 44 1 kv ps.length (ptrs ps)
  kk : Ks (TN wr h) ps ks g
  nd : ∀ a, one1 p a + ob lv a + ob kv a + g a ≤ 1
  lo : ∀ a, a < w.heap.size → one1 p a + ob lv a + ob kv a + g a = 0
  ex : Ext w wr
section
variable {w wr w' : World} {h p : Nat} {lv kv : Value} {l : List Te} {ps : List Nat} {ks : List BT} {g : Nat → Nat}
theorem MK.up (H : MK w wr h p lv kv l ps ks g) (hx : Ext wr w') : MK w w' h p lv kv l ps ks g :=
  ⟨(hx.block (Array.getElem?_eq_some_iff.1 H.hp).1).trans H.hp, hx.own H.ol, hx.own H.ok, H.kk.frame (f := fun _ => 0) (fun p T g hT h0 => hT.ext hx) (fun _ _ => rfl), H.nd, H.lo, H.ex.trans hx⟩
theorem MK.step (H : MK w wr h p lv kv l ps ks g) {w1 w3 : World} {q : Nat} {K : BT} {f1 : Nat → Nat} {kv' : Value} (hx : Ext wr w1) (hT : TN w1 h q K f1) (h1 : ∀ a, f1 a ≤ 1) (h0 : ∀ a, a < wr.heap.size → f1 a = 0)
    {w2 : World} (hx2 : Ext w1 w2) (hg : w2.grownBy w3 kv.ownBlock) (ho : w3.ownsRow 0 44 1 kv' (ps ++ [q]).length (ptrs (ps ++ [q]))) (hl : kv'.ownBlock = kv.ownBlock ∨ ∀ k, kv'.ownBlock = some k → w2.heap.size ≤ k) : MK w (w3.setCell ⟨p, 1, none⟩ kv') h p lv kv' l (ps ++ [q]) (ks ++ [K]) (fun a => g a + f1 a) := by
  have H2 := (H.up hx).up hx2
  have hT2 := hT.ext hx2
  have hsz1 := hx.size
  have hsz2 := hx2.size
  have hpl := (Array.getElem?_eq_some_iff.1 H.hp).1
  have hb1 := TN.bound hT
  have hbp : ∀ a, wr.heap.size ≤ a → one1 p a = 0 ∧ ob lv a = 0 ∧ ob kv a = 0 ∧ g a = 0 := fun a ha =>
    ⟨if_neg (by omega), own_bound H.ol ha, own_bound H.ok ha, Ks.bound (fun p T g hT => TN.bound hT) H.kk a ha⟩
  have hF1 : FR (ob kv) w2 w3 := FR.of_grown hg (fun k e => by rw [ob_some (by first | exact e | exact e.symm)]; exact Nat.one_pos)
  have hF : FR (fun a => ob kv a + one1 p a) w2 (w3.setCell ⟨p, 1, none⟩ kv') := (hF1.mono (fun k _ h0 => by show ob kv k = 0; omega)).trans (fr_set (b := p)) (fun k _ h0 => by show one1 p k = 0; omega)
  have hk'p : ob kv' p = 0 := by
    have hnp := H.nd p
    rw [one_self] at hnp
    rcases hl with e | e
    · rw [ob_same e]; omega
    · exact if_neg (fun e2 => by have := e p e2; omega)
  have hp3 : w3.heap[p]? = some (.cells #[lv, kv] 48 (0, 0)) := by
    have hnp := H.nd p
    rw [one_self] at hnp
    exact (hg.block p (Array.getElem?_eq_some_iff.1 H2.hp).1 (fun e => by rw [ob_some e.symm] at hnp; omega)).trans H2.hp
  refine ⟨node_set1 hp3 kv', hF.own H2.ol (fun k e => ?_), own_set ho (ob_zero hk'p) 1 kv', ?_, fun a => ?_, fun a ha => ?_, ?_⟩
  · have := H.nd k
    rw [ob_some e] at this
    show ob kv k + one1 p k = 0
    omega
  · refine Ks.app (H2.kk.frame (f := fun a => ob kv a + one1 p a) (fun p T g hT h9 => hT.frame hF h9) (fun a ha => ?_)) ?_
    · have := H.nd a
      show ob kv a + one1 p a = 0
      omega
    · refine ⟨f1, fun _ => 0, hT2.frame hF (fun a ha => ?_), fun _ => rfl, fun a => rfl⟩
      have h9 : wr.heap.size ≤ a := by
        rcases Nat.lt_or_ge a wr.heap.size with h9 | h9
        · rw [h0 a h9] at ha; omega
        · exact h9
      have := hbp a h9
      show ob kv a + one1 p a = 0
      omega
  · show one1 p a + ob lv a + ob kv' a + (g a + f1 a) ≤ 1
    have hn := H.nd a
    have hf := h1 a
    rcases Nat.lt_or_ge a wr.heap.size with h9 | h9
    · have := h0 a h9
      rcases hl with e | e
      · rw [ob_same e]; omega
      · rw [show ob kv' a = 0 from if_neg (fun e2 => by have := e a e2; omega)]; omega
    · have := hbp a h9
      rcases hl with e | e
      · rw [ob_same e]; omega
      · by_cases h8 : w1.heap.size ≤ a
        · have := hb1 a h8
          have : ob kv' a ≤ 1 := by unfold ob; split <;> omega
          omega
        · rw [show ob kv' a = 0 from if_neg (fun e2 => by have := e a e2; omega)]; omega
  · show one1 p a + ob lv a + ob kv' a + (g a + f1 a) = 0
    have h9 := H.ex.size
    have := H.lo a ha
    have := h0 a (by omega)
    rcases hl with e | e
    · rw [ob_same e]; omega
    · rw [show ob kv' a = 0 from if_neg (fun e2 => by have := e a e2; omega)]; omega
  · refine H2.ex.trans' hF (fun a ha => ?_)
    have := H.lo a ha
    show ob kv a + one1 p a = 0
    omega
end
def GiveTN (h : Nat) (T : BT) (w : World) (e : Ending) (w' : World) : Prop := ∃ p f, e = .returned (.pointer (some ⟨p, 0, none⟩)) ∧ TN w' h p T f ∧ (∀ a, f a ≤ 1) ∧ (∀ a, a < w.heap.size → f a = 0) ∧ Ext w w'
theorem MK.give {w w1 wr : World} {h p : Nat} {lv kv : Value} {l : List Te} {ps : List Nat} {ks : List BT} {g : Nat → Nat} (H : MK w1 wr h p lv kv l ps ks g) (hx : Ext w w1) : GiveTN (h + 1) (.nd l ks) w (.returned (.pointer (some ⟨p, 0, none⟩))) wr :=
  ⟨p, _, rfl, ⟨lv, kv, ps, g, H.hp, H.ol, H.ok, H.kk, fun a => rfl⟩, H.nd, fun a ha => H.lo a (Nat.lt_of_lt_of_le ha hx.size), hx.trans H.ex⟩
theorem MK.give0 {w w1 wr : World} {h p : Nat} {lv kv : Value} {l : List Te} {ps : List Nat} {ks : List BT} {g : Nat → Nat} (H : MK w1 wr h p lv kv l ps ks g) (h0 : ks = []) (hx : Ext w w1) : GiveTN 0 (.nd l []) w (.returned (.pointer (some ⟨p, 0, none⟩))) wr := by
  subst h0
  have hps : ps = [] := List.eq_nil_of_length_eq_zero (by have := H.kk.len; simpa using this)
  subst hps
  have hg : ∀ a, g a = 0 := H.kk
  exact ⟨p, fun a => one1 p a + ob lv a + ob kv a, rfl, ⟨rfl, lv, kv, H.hp, H.ol, H.ok, fun a => rfl⟩, fun a => by have := H.nd a; have := hg a; show one1 p a + ob lv a + ob kv a ≤ 1; omega, fun a ha => by have := H.lo a (Nat.lt_of_lt_of_le ha hx.size); have := hg a; show one1 p a + ob lv a + ob kv a = 0; omega, hx.trans H.ex⟩
theorem MK.start {w w1 : World} {lv : Value} {l : List Te} (h : Nat) (ho : w1.ownsRow w.heap.size 65 2 lv l.length (tents l)) (hx : Ext w w1) : MK w (w1.alloc (.cells #[lv, .slice none 0 0] 48)) h w1.heap.size lv (.slice none 0 0) l [] [] (fun _ => 0) := by
  have hnil : ∀ a, ob (.slice none 0 0) a = 0 := fun a => if_neg (by intro e; cases e)
  have hsz := hx.size
  refine ⟨heap_alloc_new w1 _, own_baseK (ho.alloc _) (Nat.zero_le _), World.ownsRow_nil _ _ _ _, fun a => rfl, fun a => ?_, fun a ha => ?_, hx.alloc_right _⟩
  · rw [hnil a]
    by_cases e : a = w1.heap.size
    · rw [e, one_self, own_bound ho (Nat.le_refl _)]; exact Nat.le_refl _
    · rw [show one1 w1.heap.size a = 0 from if_neg e]
      have : ob lv a ≤ 1 := by unfold ob; split <;> omega
      omega
  · rw [hnil a, show one1 w1.heap.size a = 0 from if_neg (by omega), show ob lv a = 0 from if_neg (fun e => by have := own_freshB ho _ e; omega)]
theorem made_step (A : Option Addr) (n c : Nat) (xs : List Nx) (k h : Nat) (w : World) (hr : RX w A n c xs) (hk : k < n) (hs : shapeB (xth xs k) = true) (okA : okP xs.length (allK xs)) (Q : World → Ending → World → Prop)
    (hC : Hid (∀ q, q < (xth xs k).kids.length → ∀ w', Ext w w' → Calls Tryz.prog 68 #[.agg #[.slice A n c], .int .i64 (kdn xs k q : Int)] w' (GiveTN h (btx xs h (kdn xs k q)) w')))
    (hend : Hid (∀ (w1 wr : World) (p : Nat) (lv kv : Value) (ps : List Nat) (g : Nat → Nat), Ext w w1 → MK w1 wr h p lv kv (ents (xth xs k)) ps ((kd xs k).map (btx xs h)) g → Q w (.returned (.pointer (some ⟨p, 0, none⟩))) wr)) : Calls Tryz.prog 68 #[.agg #[.slice A n c], .int .i64 k] w (Q w) := by
  obtain ⟨i0, hi0, hz0, hz1, hz2⟩ := info_parts infoK
  have hm := RX.max hr
  obtain ⟨ad0, A1, c1, A2, c2, A3, c3, rfl, y0, y1, y2, r1, r2, r3⟩ := hr.at_ hk
  have hx1 := (Ext.refl w).alloc_right (.cells #[.slice (some ad0) n c] 82)
  have hb0 := heap_alloc_new w (.cells #[.slice (some ad0) n c] 82)
  have zb : (w.alloc (.cells #[.slice (some ad0) n c] 82)).cell? ⟨w.heap.size, 0, none⟩ = some (.slice (some ad0) n c) := by rw [Lib.cell_of_heap hb0]; rfl
  have lb := World.block_lt_of_cell? _ _ zb
  dsimp only at lb
  obtain ⟨s1, s4, s3⟩ := shape_is hs
  have hl := ents_len s1
  rw [s1] at y1 r2
  have hks : Hid (∀ q, q < (xth xs k).kids.length → ith (xth xs k).kids q = (kdn xs k q : Int) ∧ ((kd xs k).map (btx xs h)).take (q + 1) = ((kd xs k).map (btx xs h)).take q ++ [btx xs h (kdn xs k q)]) := fun q hq => by
    obtain ⟨e1, e2, e3⟩ := kdn_is okA hq
    refine ⟨e1, ?_⟩
    have hql : q < ((kd xs k).map (btx xs h)).length := by rw [List.length_map, kd_len]; exact hq
    rw [List.take_succ_eq_append_getElem hql, List.getElem_map, (List.getElem?_eq_some_iff.1 e3).2]
  have hkl : Hid (((kd xs k).map (btx xs h)).length = (xth xs k).kids.length) := by unfold Hid; rw [List.length_map, kd_len]
  have hEn := hid (fun w' (hx : Ext w w') => entsN_any A1 A2 A3 (xth xs k).keys.length c1 c2 (xth xs k).kids.length c3 (ents (xth xs k)) w' (by omega) hl (by rw [ents_keys s1]; exact r1.ext hx) (by rw [ents_recs s1]; exact RdI.ext r2 hx))
  have hkl5 : (xth xs k).kids.length ≤ 5 := by omega
  have hki : (k : Int) < (n : Int) := by omega
  replace y0 := hx1.cell y0
  replace y1 := hx1.cell y1
  replace y2 := hx1.cell y2
  replace r3 := hid r3
  replace hx1 := hid hx1
  clear hb0 hr hs s1 s4 s3 hl r1 r2 okA
  generalize ents (xth xs k) = l at *
  generalize (xth xs k).keys.length = a at *
  generalize (kd xs k).map (btx xs h) = ks at *
  generalize hkn : (xth xs k).kids.length = d at *
  replace hkn := hid hkn
  go_enter Tryz.func68, Tryz.ntmps68
  go_upto_region 1 with fail
  obtain ⟨b, hb⟩ : ∃ b, b = w.heap.size := ⟨_, rfl⟩
  rw [← hb] at zb lb
  simp only [← hb]
  replace hb := hid hb
  generalize w.alloc (.cells #[.slice (some ad0) n c] 82) = w1 at *
  go_wp2_with fail
  refine (hEn.out w1 hx1.out).mono ?_
  rintro e w2 ⟨lv, rfl, own2, hx2⟩
  have hM0 := hid (MK.start h own2 hx2)
  have hxa := hx2.trans ((Ext.refl w2).alloc_right (.cells #[lv, .slice none 0 0] 48))
  have zb1 := zb
  have y21 := y2
  replace zb := hxa.cell zb
  replace y2 := hxa.cell y2
  have lb2 := Nat.lt_of_lt_of_le lb hxa.size
  obtain ⟨Al, cl, rfl, -⟩ := own_form own2
  go_upto_region 3 with fail
  obtain ⟨p, hp⟩ : ∃ p, p = w2.heap.size := ⟨_, rfl⟩
  rw [← hp] at hM0
  simp only [← hp]
  replace hp := hid hp
  clear own2 hx2 hxa zb y2 hEn lb2 y0 y1
  generalize w2.alloc (.cells #[.slice Al l.length cl, .slice none 0 0] 48) = w3 at *
  go_loopw [23] (fun i wr => ∃ (q : Nat) (kv : Value) (ps : List Nat) (g : Nat → Nat), q ≤ d ∧ i = .int .i64 q ∧ Hid (MK w1 wr h p (.slice Al l.length cl) kv l ps (ks.take q) g)) (fun i _ => d - (intOf i).toNat)
  case atStart => exact ⟨0, _, _, _, by omega, rfl, by rw [List.take_zero]; exact hM0⟩
  case round =>
    clear hM0
    obtain ⟨q, kv, ps, g, hq, rfl, hM⟩ := hrel
    by_cases hlt : q < d
    · obtain ⟨Ak, ck, rfl, -⟩ := own_form hM.out.ok
      obtain ⟨kad, rfl, zk⟩ := rdi_at (r3.out.ext (hx1.out.trans hM.out.ex)) hlt
      obtain ⟨e1, e2⟩ := hks.out q hlt
      rw [e1] at zk
      have hst := hid e2
      have hC1 := hid (fun w' (hx : Ext w w') => hC.out q hlt w' hx)
      have hqi : (q : Int) < (d : Int) := by omega
      have hpsl : ps.length ≤ 5 := by have := hM.out.kk.len; rw [this, List.length_take]; omega
      have zbr := hM.out.ex.cell zb1
      have zpr := node_c1 hM.out.hp
      have lp := (Array.getElem?_eq_some_iff.1 hM.out.hp).1
      have lbr := Nat.lt_of_lt_of_le lb hM.out.ex.size
      clear e1 e2
      generalize btx xs h (kdn xs k q) = K at *
      generalize kdn xs k q = u at *
      go_upto_region 5 with fail
      have I0 : (fun w' : World => w'.cell? ⟨b, 0, none⟩ = some (.slice (some ad0) n c) ∧ w'.cell? ⟨p, 1, none⟩ = some (.slice Ak ps.length ck)) wr.drew := ⟨zbr, zpr⟩
      refine region_J (fun w' : World => w'.cell? ⟨b, 0, none⟩ = some (.slice (some ad0) n c) ∧ w'.cell? ⟨p, 1, none⟩ = some (.slice Ak ps.length ck)) 12 (by kernel_rfl) ?_
      replace hM := hid (hM.out.up ((Ext.refl wr).drew_right))
      clear zk zbr zpr lp lbr
      generalize wr.drew = w9 at *
      refine JT 0 (v := ?vt0) I0 ?yt0 ?rt0
      case yt0 => (intro w h; obtain ⟨_, _⟩ := h; go_simp; with_reducible rfl)
      simp only [Act.put, lyA, lyB, lyC, lyD, lyE, lyF]
      refine JT 1 (v := ?vt1) I0 ?yt1 ?rt1
      case yt1 => (intro w h; obtain ⟨_, _⟩ := h; go_simp; with_reducible rfl)
      simp only [Act.put, lyA, lyB, lyC, lyD, lyE, lyF]
      refine JT 2 (v := ?vt2) I0 ?yt2 ?rt2
      case yt2 => (intro w h; obtain ⟨_, _⟩ := h; go_simp; with_reducible rfl)
      simp only [Act.put, lyA, lyB, lyC, lyD, lyE, lyF]
      refine JT 3 (v := ?vt3) I0 ?yt3 ?rt3
      case yt3 => (intro w h; obtain ⟨_, _⟩ := h; go_simp; with_reducible rfl)
      simp only [Act.put, lyA, lyB, lyC, lyD, lyE, lyF]
      refine JT 4 (v := ?vt4) I0 ?yt4 ?rt4
      case yt4 => (intro w h; obtain ⟨_, _⟩ := h; go_simp; with_reducible rfl)
      simp only [Act.put, lyA, lyB, lyC, lyD, lyE, lyF]
      refine JT 5 (v := ?vt5) I0 ?yt5 ?rt5
      case yt5 => (intro w h; obtain ⟨_, _⟩ := h; go_simp; with_reducible rfl)
      simp only [Act.put, lyA, lyB, lyC, lyD, lyE, lyF]
      refine JT 6 (v := ?vt6) I0 ?yt6 ?rt6
      case yt6 => (intro w h; obtain ⟨_, _⟩ := h; go_simp; with_reducible rfl)
      simp only [Act.put, lyA, lyB, lyC, lyD, lyE, lyF]
      refine J_one 7 rfl (by kernel_rfl) (fun K hK => ?_)
      go_simp
      refine (hC1.out w9 (hx1.out.trans hM.out.ex)).mono ?_
      rintro e' w10 ⟨pk, f1, rfl, hT1, hf1, hf0, hx10⟩
      have I1 : (fun w' : World => w'.cell? ⟨b, 0, none⟩ = some (.slice (some ad0) n c) ∧ w'.cell? ⟨p, 1, none⟩ = some (.slice Ak ps.length ck)) w10 := ⟨hx10.cell I0.1, hx10.cell I0.2⟩
      have hxb := (Ext.refl w10).alloc_right (.cells #[.pointer (some ⟨pk, 0, none⟩)] 44)
      have hRn : Rd (w10.alloc (.cells #[.pointer (some ⟨pk, 0, none⟩)] 44)) 1 (some ⟨w10.heap.size, 0, none⟩) 1 1 (ptrs [pk]) := rd_new1 w10 _ _
      obtain ⟨kv', w12, happ, own3, hgr, hloc⟩ := app_at _ 0 46 46 44 i0 _ 1 8 Tryz.underlying46 hi0 hz0 hz1 hz2 rfl (by decide) _ _ _ ((hM.out.up hx10).up hxb).ok _ 1 1 _ hRn (ptrs_one [pk]) (by unfold maxLen; omega) (by omega) (Nat.zero_le _)
      rw [← ptrs_append] at own3
      have hlp : (ps ++ [pk]).length = ps.length + 1 := by simp
      have hMs := hid (hM.out.step hx10 hT1 hf1 hf0 hxb hgr (by rw [hlp]; exact own3) hloc)
      have hp12 : w12.heap[p]? = some (.cells #[.slice Al l.length cl, .slice Ak ps.length ck] 48 (0, 0)) := by
        have hnp := hM.out.nd p
        rw [one_self] at hnp
        exact (hgr.block p (Array.getElem?_eq_some_iff.1 ((hM.out.up hx10).up hxb).hp).1 (fun e => by rw [ob_some e.symm] at hnp; omega)).trans ((hM.out.up hx10).up hxb).hp
      obtain ⟨Ak', ck', rfl, -⟩ := own_form own3
      have zp12 := node_c1 hp12
      have zf12 := Lib.frozen_of_heap hp12 1
      have lp12 := (Array.getElem?_eq_some_iff.1 hp12).1
      have zb12 : w12.cell? ⟨b, 0, none⟩ = some (.slice (some ad0) n c) := by
        have hnb := hM.out.lo b lb
        exact (World.cell?_of_block (a := ⟨b, 0, none⟩) (hgr.block b (Nat.lt_of_lt_of_le lb (Nat.le_trans hM.out.ex.size (hx10.trans hxb).size)) (fun e => by rw [ob_some e.symm] at hnb; omega))).trans (hxb.cell I1.1)
      have I2 : (fun w' : World => w'.cell? ⟨b, 0, none⟩ = some (.slice (some ad0) n c) ∧ w'.cell? ⟨p, 1, none⟩ = some (.slice Ak ps.length ck)) w12 := ⟨zb12, zp12⟩
      have I1' : (fun w' : World => w'.cell? ⟨b, 0, none⟩ = some (.slice (some ad0) n c) ∧ w'.cell? ⟨p, 1, none⟩ = some (.slice Ak ps.length ck)) (w10.alloc (.cells #[.pointer (some ⟨pk, 0, none⟩)] 44)) := ⟨hxb.cell I1.1, hxb.cell I1.2⟩
      replace happ := hid happ
      clear hT1 hf1 hf0 own3 hgr hloc hRn hp12 hM zb12 hlp hx10 hxb I0
      refine hK _ _ ⟨fun _ => I1, ?_⟩
      clear hK K
      try simp only [Act.put, lyA, lyB, lyC, lyD, lyE, lyF]
      refine J_one 8 rfl (by kernel_rfl) (fun K hK => ?_)
      go_simp
      refine hK _ _ ⟨fun _ => I1', ?_⟩
      clear hK K
      try simp only [Act.put, lyA, lyB, lyC, lyD, lyE, lyF]
      generalize w10.heap.size = qb at *
      generalize w10.alloc (.cells #[.pointer (some ⟨pk, 0, none⟩)] 44) = w11 at *
      refine J_one 9 rfl (by kernel_rfl) (fun K hK => ?_)
      refine step_run rfl _ (ex_append _ _ _ _ rfl _ _ (by simp [Act.eval, Act.put]) (by simp [Act.eval, Act.put]) _ happ.out) ?_
      refine hK _ _ ⟨fun _ => I2, ?_⟩
      clear hK K happ I1 I1'
      try simp only [Act.put, lyA, lyB, lyC, lyD, lyE, lyF]
      refine J_one 10 rfl (by kernel_rfl) (fun K hK => ?_)
      go_simp
      refine hK _ _ ⟨fun _ => I2, ?_⟩
      clear hK K
      try simp only [Act.put, lyA, lyB, lyC, lyD, lyE, lyF]
      refine J_one 11 rfl (by kernel_rfl) (fun K hK => ?_)
      go_simp
      refine hK _ _ ⟨fun _ => I2, ?_⟩
      clear hK K
      try simp only [Act.put, lyA, lyB, lyC, lyD, lyE, lyF]
      refine J_one 12 rfl (by kernel_rfl) (fun K hK => ?_)
      go_simp
      refine hK _ _ ⟨fun h => absurd rfl h, ?_⟩
      clear hK K
      refine J_done (by kernel_rfl) (OnlyOn.normal ?_)
      clear I2 zp12 zf12 lp12
      go_wp2_with fail
      go_roundw
      case rel => exact ⟨q + 1, _, _, _, by omega, by go_num, by rw [hst.out]; exact hMs⟩
      case measure => simp [intOf]; omega
    · obtain rfl : q = d := by omega
      have hfin := hid (hend.out w1 wr p _ kv ps g hx1.out (by have h9 := hM.out; rw [List.take_of_length_le (by rw [hkl.out]; exact Nat.le_refl _)] at h9; exact h9))
      go_wp2
      exact hfin.out
theorem made_any (n : Nat) (xs : List Nx) (hok : okP n (allK xs)) (hs : shpX xs) : ∀ (h k : Nat) (A : Option Addr) (c : Nat) (w : World), RX w A n c xs → UD xs h k → Calls Tryz.prog 68 #[.agg #[.slice A n c], .int .i64 k] w (GiveTN h (btx xs h k) w) := by
  intro h
  induction h with
  | zero =>
    intro k A c w hr hU
    have hl := hr.len
    have hk0 : (xth xs k).kids.length = 0 := by rw [← kd_len, hU.2]; rfl
    refine made_step A n c xs k 0 w hr (by have := hU.1; omega) (hs k hU.1) (by rw [hl]; exact hok) (fun w => GiveTN 0 (btx xs 0 k) w) (fun q hq => by omega) (fun w1 wr p lv kv ps g hx hM => ?_)
    exact hM.give0 (by rw [hU.2]; rfl) hx
  | succ h ih =>
    intro k A c w hr hU
    have hl := hr.len
    have okA : okP xs.length (allK xs) := by rw [hl]; exact hok
    refine made_step A n c xs k h w hr (by have := hU.1; omega) (hs k hU.1) okA (fun w => GiveTN (h + 1) (btx xs (h + 1) k) w) (fun q hq w' hx => ?_) (fun w1 wr p lv kv ps g hx hM => hM.give hx)
    exact ih _ A c w' (hr.ext hx) (hU.2.2 _ (kdn_is okA hq).2.1)
open Go.RowKit Go.Shelf
theorem pwrong_any (A : Option Addr) (n c : Nat) (xs : List Nx) (w : World) (hr : RX w A n c xs) : Calls Tryz.prog 67 #[.agg #[.slice A n c]] w (Give (.int .i64 (wrongX xs)) w) := by
  have hl := hid hr.len
  have hm := RX.max hr
  have hx1 := (Ext.refl w).alloc_right (.cells #[.slice A n c] 82)
  have hb0 := heap_alloc_new w (.cells #[.slice A n c] 82)
  have zb : (w.alloc (.cells #[.slice A n c] 82)).cell? ⟨w.heap.size, 0, none⟩ = some (.slice A n c) := by rw [Lib.cell_of_heap hb0]; rfl
  have lb := World.block_lt_of_cell? _ _ zb
  dsimp only at lb
  replace hr := hid hr
  replace hx1 := hid hx1
  have hW : Hid (∃ W, wrongX xs = W) := ⟨_, rfl⟩
  obtain ⟨W, hW⟩ := hW.out
  rw [hW]
  replace hW := hid hW
  clear hb0
  by_cases h1 : n < 1 ∨ 2400 < n
  · have hw1 : W = 1 := by rw [← hW.out]; exact wX1 (by rw [hl.out]; exact h1)
    subst hw1
    rcases h1 with h1 | h1
    · obtain rfl : n = 0 := by omega
      go_enter Tryz.func67, Tryz.ntmps67
      go_wp2
      go_ret
      exact ⟨rfl, hx1.out⟩
    · have h2 : ((n : Int) == 0) = false := by rw [beq_eq_false_iff_ne]; omega
      have h4 : ¬ n = 0 := by omega
      have h3 : (2400 : Int) < (n : Int) := by omega
      go_enter Tryz.func67, Tryz.ntmps67
      go_wp2
      go_ret
      exact ⟨rfl, hx1.out⟩
  have c1 : Hid (1 ≤ xs.length ∧ xs.length ≤ 2400) := by have := hl.out; unfold Hid; omega
  have hn0 : ((n : Int) == 0) = false := by rw [beq_eq_false_iff_ne]; omega
  have hn1 : ¬ n = 0 := by omega
  have hn2 : ¬ (2400 : Int) < (n : Int) := by omega
  have hn3 : n ≤ 2400 := by omega
  have hn4 : 0 < n := by omega
  have hH := hid (fun w' (hx : Ext w w') => hasN_any A n c xs w' (hr.out.ext hx) hm.1)
  clear h1
  go_enter Tryz.func67, Tryz.ntmps67
  go_upto_region 1 with fail
  obtain ⟨b, hb⟩ : ∃ b, b = w.heap.size := ⟨_, rfl⟩
  rw [← hb] at zb lb
  simp only [← hb]
  replace hb := hid hb
  generalize w.alloc (.cells #[.slice A n c] 82) = w1 at *
  cases hs : cdec (∀ k, k < n → shapeB (xth xs k) = true) with
  | false =>
    have hw1 : W = 2 := by rw [← hW.out]; exact wX2 c1.out (fun h => cdec_not.1 hs (fun k hk => h k (by rw [hl.out]; exact hk)))
    subst hw1
    rw [hs] at hH
    clear hs
    go_wp2_with fail
    refine (hH.out _ hx1.out).mono ?_
    rintro e w2 ⟨rfl, hx2⟩
    go_wp2
    go_ret
    exact ⟨rfl, hx1.out.trans hx2⟩
  | true =>
    have c2 : Hid (shpX xs) := fun j hj => cdec_iff.1 hs j (by rw [← hl.out]; exact hj)
    rw [hs] at hH
    clear hs
    go_wp2_with fail
    refine (hH.out _ hx1.out).mono ?_
    rintro e w2 ⟨rfl, hx2⟩
    have hx := hid (hx1.out.trans hx2)
    replace zb := hx2.cell zb
    replace lb := Nat.lt_of_lt_of_le lb hx2.size
    have h5 : Hid (∀ k, k < n → (xth xs k).kids.length ≤ 5) := fun k hk => by
      have := shape_is (c2.out k (by rw [hl.out]; exact hk))
      omega
    have hC := hid (fun w' (hx' : Ext w w') => pTree_any A n c xs w' (hr.out.ext hx') (by omega) hn3 h5)
    clear hH hx2
    cases ht : treeB xs with
    | false =>
      have hw1 : W = 3 := by rw [← hW.out]; exact wX3 c1.out c2.out ht
      subst hw1
      rw [ht] at hC
      clear ht
      go_wp2_with fail
      refine (hC.out _ hx.out).mono ?_
      rintro e w3 ⟨rfl, hx3⟩
      go_wp2
      go_ret
      exact ⟨rfl, hx.out.trans hx3⟩
    | true =>
      have c3 := hid ht
      rw [ht] at hC
      clear ht
      go_wp2_with fail
      refine (hC.out _ hx.out).mono ?_
      rintro e w3 ⟨rfl, hx3⟩
      replace hx := hid (hx.out.trans hx3)
      replace zb := hx3.cell zb
      replace lb := Nat.lt_of_lt_of_le lb hx3.size
      have hcell : Hid (∀ w', Ext w3 w' → w'.cell? ⟨b, 0, none⟩ = some (.slice A n c) ∧ b < w'.heap.size) := fun w' hx => ⟨hx.cell zb, Nat.lt_of_lt_of_le lb hx.size⟩
      clear hC hx3 zb lb
      go_wp2_with fail
      go_loopw [24] (fun i wr => ∃ k : Nat, k ≤ n ∧ i = .int .i64 k ∧ Hid (∀ j, j < k → leastN xs j ≤ (xth xs j).keys.length) ∧ Hid (Ext w3 wr)) (fun i _ => n - (intOf i).toNat)
      case atStart => exact ⟨0, by omega, rfl, fun j hj => by omega, Ext.refl _⟩
      case round =>
        obtain ⟨k, hk, rfl, hfu, hx4⟩ := hrel
        by_cases hlt : k < n
        · obtain ⟨ad0, A1, c1', A2, c2', A3, c3', rfl, y0, y1, y2, r1, -, r3⟩ := (hr.out.ext (hx.out.trans hx4.out)).at_ hlt
          have m1 := (Rd.max r1).1
          have m3 := (Rd.max r3).1
          have hki : (k : Int) < (n : Int) := by omega
          have hxe := hid (hx4.out.alloc_right (.cells #[.slice A1 (xth xs k).keys.length c1', .slice A2 (xth xs k).recs.length c2', .slice A3 (xth xs k).kids.length c3'] 113))
          have hFl := hid (fun w' => isFull_any A1 A2 A3 _ (xth xs k).recs.length _ c1' c2' c3' k w' m1 m3)
          have hle : Hid ((if k = 0 then min 1 (xth xs k).kids.length else 2) = leastN xs k) := by
            unfold Hid leastN
            by_cases e : k = 0
            · rw [if_pos e, if_pos e, e]
            · rw [if_neg e, if_neg e]
          rw [hle.out] at hFl
          by_cases hfk : leastN xs k ≤ (xth xs k).keys.length
          · rw [decide_eq_true hfk] at hFl
            have hfu2 : Hid (∀ j, j < k + 1 → leastN xs j ≤ (xth xs j).keys.length) := fun j hj => by
              by_cases e : j = k
              · rw [e]; exact hfk
              · exact hfu.out j (by omega)
            clear hle hfk hfu r1 r3
            go_wp2_with fail
            refine (hFl.out _).mono ?_
            rintro e w5 ⟨rfl, hx5⟩
            have hx6 := hid (hxe.out.trans hx5)
            clear hFl hx5 hxe
            go_wp2_with fail
            go_roundw
            case rel => exact ⟨k + 1, by omega, by go_num, hfu2, hx6⟩
            case measure => simp [intOf]; omega
          · rw [decide_eq_false hfk] at hFl
            have hw1 : W = 4 := by rw [← hW.out]; exact wX4 c1.out c2.out c3.out (fun hf => hfk (hf k (by rw [hl.out]; exact hlt)))
            subst hw1
            clear hle hfk hfu r1 r3
            go_wp2_with fail
            refine (hFl.out _).mono ?_
            rintro e w5 ⟨rfl, hx5⟩
            have hx6 := hid (hxe.out.trans hx5)
            clear hFl hx5 hxe
            go_wp2
            go_ret
            exact ⟨rfl, hx.out.trans hx6.out⟩
        · obtain rfl : n = k := by omega
          have c4 : Hid (fullP xs) := fun j hj => hfu.out j (by rw [← hl.out]; exact hj)
          have tp := treeB_iff.1 c3.out
          have hUT := hid (tree_ut tp (by rw [hl.out]; exact hn4))
          have okN : Hid (okP n (allK xs)) := by have := tp.1; rw [hl.out] at this; exact this
          have hsl := hid (sub_le tp (by rw [hl.out]; exact hn4) hUT.out)
          have hxr := hid (hx.out.trans hx4.out)
          have hD := hid (pDepth_any A n c xs okN.out xs.length 0 wr (hr.out.ext hxr.out) hUT.out (by have := hl.out; omega))
          obtain ⟨zb, lb⟩ := hcell.out wr hx4.out
          clear hfu hlt hk tp
          go_wp2_with fail
          refine hD.out.mono ?_
          rintro e w5 ⟨r, rfl, hDP, rfl⟩
          rcases hDP with ⟨hh, rfl, hUD⟩ | ⟨rfl, hnu⟩
          · have c5 : Hid (∃ h, UD xs h 0) := ⟨hh, hUD⟩
            have hr0 : ¬ (hh : Int) < 0 := by omega
            have hLX : Hid (flat hh (btx xs hh 0) = entX xs) := by unfold Hid entX; rw [hX_is hUD]
            have hLb := btx_len c2.out hUD hUT.out
            have hLb2 : (flat hh (btx xs hh 0)).length ≤ 100000 := by have := hsl.out; have := hl.out; omega
            have hMd := hid (made_any n xs okN.out c2.out hh 0 A c wr (hr.out.ext hxr.out) hUD)
            have hSw := hid (btx_shw c2.out hUD)
            have cw6 := hid (wX6 c1.out c2.out c3.out c4.out c5.out)
            have cw7 := hid (wX7 c1.out c2.out c3.out c4.out c5.out)
            have cw0 : Hid ((∀ x ∈ entX xs, okT x = true) → Srt (entX xs) → wrongX xs = 0) := fun h6 h7 => wrong_none.2 ⟨c1.out.1, c1.out.2, c2.out, treeB_iff.1 c3.out, c4.out, c5.out, h6, h7⟩
            rw [hW.out] at cw6 cw7 cw0
            clear hUD hLb hD c5
            go_wp2_with fail
            refine hMd.out.mono ?_
            rintro e w6 ⟨pp, ff, rfl, hTN, hf1, hf0, hx6⟩
            have hAl := hid (all_any hh pp (btx xs hh 0) ff 0 (.slice none 0 0) [] w6 hTN hSw.out (fun a ha => by rw [show ob (.slice none 0 0) a = 0 from if_neg (by intro e; cases e)] at ha; omega) (World.ownsRow_nil _ _ _ _) (Nat.zero_le _) (by rw [List.length_nil, Nat.zero_add]; exact hLb2))
            rw [hLX.out] at hAl hLb2
            clear hTN hf1 hf0 hMd hSw hLX
            generalize entX xs = L at *
            go_wp2_with fail
            refine hAl.out.mono ?_
            rintro e w7 ⟨v, rfl, own7, hG7⟩
            rw [List.nil_append] at own7
            have hx7 : Ext w6 w7 := (Ext.refl w6).trans' hG7.1 (fun a _ => if_neg (by intro e; cases e))
            obtain ⟨Av, cv, rfl, hrv⟩ := own_rd own7
            have hxs := hid (hxr.out.trans (hx6.trans hx7))
            have hLm := (Rd.max hrv).1
            have hE := hid (fun w' (hx : Ext w7 w') => hasE_any Av L.length cv L w' (RdN.ext hrv hx) hLm)
            have hO := hid (fun w' (hx : Ext w7 w') => isOrdered_any Av L.length cv L w' (RdN.ext hrv hx) (by omega))
            have hall : Hid ((∀ k, k < L.length → okT (tth L k) = true) ↔ ∀ x ∈ L, okT x = true) := by
              constructor
              · intro h x hx
                obtain ⟨j, hj, rfl⟩ := List.mem_iff_getElem.1 hx
                rw [← tth_get hj]
                exact h j hj
              · intro h k hk
                exact h _ (by rw [tth_get hk]; exact List.getElem_mem _)
            clear hAl own7 hG7 hx7 hx6 hrv hxr hx4 hx zb lb hcell
            cases h6 : cdec (∀ k, k < L.length → okT (tth L k) = true) with
            | false =>
              have hw1 : W = 6 := cw6.out (fun h => cdec_not.1 h6 (hall.out.2 h))
              subst hw1
              rw [h6] at hE
              clear h6
              go_wp2_with fail
              refine (hE.out _ (Ext.refl _)).mono ?_
              rintro e w8 ⟨rfl, hx8⟩
              go_wp2
              go_ret
              exact ⟨rfl, hxs.out.trans hx8⟩
            | true =>
              have c6 := hid (hall.out.1 (cdec_iff.1 h6))
              rw [h6] at hE
              clear h6
              cases h7 : cdec (Srt L) with
              | false =>
                have hw1 : W = 7 := cw7.out c6.out (cdec_not.1 h7)
                subst hw1
                rw [h7] at hO
                clear h7
                go_wp2_with fail
                refine (hE.out _ (Ext.refl _)).mono ?_
                rintro e w8 ⟨rfl, hx8⟩
                go_wp2_with fail
                refine (hO.out _ hx8).mono ?_
                rintro e w9 ⟨rfl, hx9⟩
                go_wp2
                go_ret
                exact ⟨rfl, hxs.out.trans (hx8.trans hx9)⟩
              | true =>
                have hw1 : W = 0 := cw0.out c6.out (cdec_iff.1 h7)
                subst hw1
                rw [h7] at hO
                clear h7
                go_wp2_with fail
                refine (hE.out _ (Ext.refl _)).mono ?_
                rintro e w8 ⟨rfl, hx8⟩
                go_wp2_with fail
                refine (hO.out _ hx8).mono ?_
                rintro e w9 ⟨rfl, hx9⟩
                go_wp2
                go_ret
                exact ⟨rfl, hxs.out.trans (hx8.trans hx9)⟩
          · have hw1 : W = 5 := by rw [← hW.out]; exact wX5 c1.out c2.out c3.out c4.out (fun ⟨h, hh⟩ => hnu h hh)
            subst hw1
            clear hD
            go_wp2
            go_ret
            exact ⟨rfl, hxr.out⟩
theorem pCheck_any (A : Option Addr) (n c : Nat) (xs : List Nx) (w : World) (hr : RX w A n c xs) : Calls Tryz.prog 63 #[.agg #[.slice A n c]] w (Give (.tuple #[.int .i64 (wrongX xs), .int .i64 (chkE xs)]) w) := by
  have hx1 := hid ((Ext.refl w).alloc_right (.cells #[.slice A n c] 82))
  have hC := hid (fun w' (hx : Ext w w') => pwrong_any A n c xs w' (hr.ext hx))
  have hrg := wrong_rng xs
  have hE : Hid (chkE xs = if wrongX xs = 0 then 0 else 11) := rfl
  generalize chkE xs = E at *
  generalize wrongX xs = W at *
  by_cases h0 : W = 0
  · subst h0
    have hE0 : E = 0 := by rw [hE.out, if_pos rfl]
    subst hE0
    clear hE hr
    go_enter Tryz.func63, Tryz.ntmps63
    go_wp2_with fail
    refine (hC.out _ hx1.out).mono ?_
    rintro e w2 ⟨rfl, hx2⟩
    go_wp2
    go_ret2
    exact ⟨rfl, hx1.out.trans hx2⟩
  · have hE0 : E = 11 := by rw [hE.out, if_neg h0]
    subst hE0
    have h1 : 0 < W := by omega
    clear hE hr h0
    go_enter Tryz.func63, Tryz.ntmps63
    go_wp2_with fail
    refine (hC.out _ hx1.out).mono ?_
    rintro e w2 ⟨rfl, hx2⟩
    go_wp2
    go_ret2
    exact ⟨rfl, hx1.out.trans hx2⟩
open Go.RowKit Go.Shelf
def itN (g : Bool) : Nat → List Nx × St → List Nx × St
  | 0, p => p
  | n + 1, p => if (itN g n p).2.ok = false then itN g n p else ((itN g n p).1 ++ [(nodeF g (itN g n p).2).1], (nodeF g (itN g n p).2).2)
def readF (g : Bool) (l : List Int) : List Nx × St := itN g (twoV ⟨l, true⟩).toNat ([], (tk 2 ⟨l, true⟩).2)
theorem tk_ok {n : Nat} {s : St} (h : s.ok = false) : (tk n s).2.ok = false := by unfold tk; split <;> simp [h]
theorem k_ok (p : Nx × St) (h : p.2.ok = false) : (kStep p).2.ok = false := tk_ok (tk_ok (tk_ok h))
theorem d_ok (p : Nx × St) (h : p.2.ok = false) : (dStep p).2.ok = false := tk_ok h
theorem it_stay {F : Nx × St → Nx × St} {p : Nx × St} (h : p.2.ok = false) : ∀ n, itG true F n p = p
  | 0 => rfl
  | n + 1 => by rw [itG, it_stay h n, stepG, h]; rfl
theorem it_no {F : Nx × St → Nx × St} (hF : ∀ p, p.2.ok = false → (F p).2.ok = false) {p : Nx × St} (h : p.2.ok = false) : ∀ n, (itG false F n p).2.ok = false
  | 0 => h
  | n + 1 => hF _ (it_no hF h n)
theorem it_two {F : Nx × St → Nx × St} (hF : ∀ p, p.2.ok = false → (F p).2.ok = false) (p : Nx × St) : ∀ n, (itG false F n p).2.ok = (itG true F n p).2.ok ∧ ((itG true F n p).2.ok = true → itG false F n p = itG true F n p)
  | 0 => ⟨rfl, fun _ => rfl⟩
  | n + 1 => by
    obtain ⟨h1, h2⟩ := it_two hF p n
    show (F (itG false F n p)).2.ok = (stepG true F (itG true F n p)).2.ok ∧ ((stepG true F (itG true F n p)).2.ok = true → F (itG false F n p) = stepG true F (itG true F n p))
    cases hb : (itG true F n p).2.ok with
    | true =>
      have e : stepG true F (itG true F n p) = F (itG true F n p) := by unfold stepG; rw [hb]; rfl
      rw [e, h2 hb]
      exact ⟨rfl, fun _ => rfl⟩
    | false =>
      have e : stepG true F (itG true F n p) = itG true F n p := by unfold stepG; rw [hb]; rfl
      rw [e, hb, hF _ (by rw [h1, hb])]
      exact ⟨rfl, fun h => by cases h⟩
theorem node_two (s : St) : (nodeF false s).2.ok = (nodeF true s).2.ok ∧ ((nodeF true s).2.ok = true → nodeF false s = nodeF true s) := by
  unfold nodeF
  obtain ⟨h1, h2⟩ := it_two k_ok (node0 s) (oneV s).toNat
  cases hb : (itG true kStep (oneV s).toNat (node0 s)).2.ok with
  | true => rw [h2 hb]; exact it_two d_ok _ _
  | false =>
    rw [it_stay hb, it_no d_ok (by rw [h1, hb]), hb]
    exact ⟨rfl, fun h => by cases h⟩
theorem itN_two (p : List Nx × St) : ∀ n, (itN false n p).2.ok = (itN true n p).2.ok ∧ ((itN true n p).2.ok = true → itN false n p = itN true n p)
  | 0 => ⟨rfl, fun _ => rfl⟩
  | n + 1 => by
    obtain ⟨h1, h2⟩ := itN_two p n
    cases hb : (itN true n p).2.ok with
    | true =>
      have e := h2 hb
      obtain ⟨g1, g2⟩ := node_two (itN true n p).2
      unfold itN
      rw [e, hb, if_neg (by decide), if_neg (by decide)]
      refine ⟨g1, fun h => ?_⟩
      rw [g2 h]
    | false =>
      unfold itN
      rw [if_pos (by rw [h1, hb]), if_pos hb]
      exact ⟨h1, fun h => by rw [hb] at h; cases h⟩
theorem read_two (l : List Int) : (readF false l).2.ok = (readF true l).2.ok ∧ ((readF true l).2.ok = true → readF false l = readF true l) := itN_two _ _
theorem itN_len {g : Bool} {p : List Nx × St} : ∀ n, (itN g n p).1.length ≤ p.1.length + n
  | 0 => Nat.le_refl _
  | n + 1 => by
    have := itN_len (g := g) (p := p) n
    unfold itN
    split
    · omega
    · simp; omega
theorem itN_stay {g : Bool} {p : List Nx × St} {n : Nat} (h : (itN g n p).2.ok = false) : ∀ m, itN g (n + m) p = itN g n p
  | 0 => rfl
  | m + 1 => by
    have ih := itN_stay h m
    rw [← Nat.add_assoc, itN, ih, if_pos h]
noncomputable def rdX (l : List Int) : List Nx := if (readF true l).2.ok = true ∧ (readF true l).2.l = [] ∧ wrongX (readF true l).1 = 0 then (readF true l).1 else []
noncomputable def rdE (l : List Int) : Int := if (readF true l).2.ok = true ∧ (readF true l).2.l = [] ∧ wrongX (readF true l).1 = 0 then 0 else 11
theorem rd_of {g : Bool} (l : List Int) : (((readF g l).2.ok = true ∧ (readF g l).2.l = [] ∧ wrongX (readF g l).1 = 0) ∧ rdX l = (readF g l).1 ∧ rdE l = 0) ∨ (¬ ((readF g l).2.ok = true ∧ (readF g l).2.l = [] ∧ wrongX (readF g l).1 = 0) ∧ rdX l = [] ∧ rdE l = 11) := by
  obtain ⟨h1, h2⟩ := read_two l
  have key : ((readF g l).2.ok = true ∧ (readF g l).2.l = [] ∧ wrongX (readF g l).1 = 0) ↔ ((readF true l).2.ok = true ∧ (readF true l).2.l = [] ∧ wrongX (readF true l).1 = 0) := by
    cases g with
    | true => exact Iff.rfl
    | false =>
      cases hb : (readF true l).2.ok with
      | true => rw [h2 hb, hb]
      | false => rw [h1, hb]; constructor <;> (rintro ⟨h, _⟩; cases h)
  by_cases c : (readF true l).2.ok = true ∧ (readF true l).2.l = [] ∧ wrongX (readF true l).1 = 0
  · refine .inl ⟨key.2 c, ?_, if_pos c⟩
    unfold rdX
    rw [if_pos c]
    cases g with
    | true => rfl
    | false => rw [h2 c.1]
  · exact .inr ⟨fun h => c (key.1 h), if_neg c, if_neg c⟩
structure RDx (w1 w : World) (r y : Nat) (v : Value) (xs : List Nx) (vs : List V3) (g : Nat → Nat) : Prop where
  hx : w.heap[y]? = some (.cells #[v] 82 (0, 0))
  own : w.ownsRow w1.heap.size 113 3 v xs.length (rowsV vs)
  nl : NL w w1.heap.size vs xs g
  nd : ∀ a, one1 y a + one1 r a + ob v a + g a ≤ 1
  lo : ∀ a, a < w1.heap.size → g a = 0
  fr : FR (fun a => one1 r a + one1 y a) w1 w
  rl : r < w1.heap.size
  yl : y < w1.heap.size
theorem ix_set {w : World} {y : Nat} {a : Value} {t : TypeId} (h : w.heap[y]? = some (.cells #[a] t (0, 0))) (u : Value) : (w.setCell ⟨y, 0, none⟩ u).heap[y]? = some (.cells #[u] t (0, 0)) := by
  simp [World.setCell, Array.getElem?_modify, h]
section
variable {w1 w w' : World} {r y : Nat} {v : Value} {xs : List Nx} {vs : List V3} {g : Nat → Nat}
theorem RDx.up (h : RDx w1 w r y v xs vs g) (hF : FR (one1 r) w w') : RDx w1 w' r y v xs vs g := by
  have hry : ∀ a, 0 < one1 y a + ob v a + g a → one1 r a = 0 := fun a ha => by have := h.nd a; omega
  exact ⟨(hF.2.2.2.2 y (Array.getElem?_eq_some_iff.1 h.hx).1 (hry y (by rw [one_self]; omega))).trans h.hx, hF.own h.own (fun k e => hry k (by rw [ob_some e]; omega)), h.nl.frame hF (fun a ha => hry a (by omega)), h.nd, h.lo, h.fr.trans hF (fun k _ h0 => by have h0' : one1 r k + one1 y k = 0 := h0; omega), h.rl, h.yl⟩
theorem RDx.add (h : RDx w1 w r y v xs vs g) {wa w2 w3 : World} {u : V3} {x : Nx} {gu : Nat → Nat} {v' : Value} (hF : FR (one1 r) w wa) (hu : NR wa w.heap.size u x gu) (hd : ∀ a, gu a ≤ 1) (hx2 : Ext wa w2) (hg : w2.grownBy w3 v.ownBlock) (ho : w3.ownsRow w1.heap.size 113 3 v' (xs.length + 1) (rowsV vs ++ [u.k, u.r, u.d])) (hl : v'.ownBlock = v.ownBlock ∨ ∀ k, v'.ownBlock = some k → w2.heap.size ≤ k) :
    RDx w1 (w3.setCell ⟨y, 0, none⟩ v') r y v' (xs ++ [x]) (vs ++ [u]) (fun a => g a + gu a) ∧ FR (fun a => ob v a + one1 y a) wa (w3.setCell ⟨y, 0, none⟩ v') ∧ w3.heap[y]? = some (.cells #[v] 82 (0, 0)) := by
  have H1 := h.up hF
  have H2 := H1.up (FR.of_ext (f := one1 r) hx2)
  have hny := h.nd y
  rw [one_self] at hny
  have hsz := h.fr.2.2.2.1
  have hsa := hF.2.2.2.1
  have hs2 := hx2.size
  have hyl := h.yl
  have hrl := h.rl
  have hlow : ∀ a, a < w.heap.size → gu a = 0 := fun a ha => by
    obtain ⟨h1, h2, h3, h4⟩ := hu
    rw [h4 a, show ob u.k a = 0 from if_neg (fun e => by have := own_freshB h1 _ e; omega), show ob u.r a = 0 from if_neg (fun e => by have := own_freshB h2 _ e; omega), show ob u.d a = 0 from if_neg (fun e => by have := own_freshB h3 _ e; omega)]
  have hup : ∀ a, wa.heap.size ≤ a → gu a = 0 := hu.bound
  have hvup : ∀ a, w.heap.size ≤ a → ob v a = 0 ∧ g a = 0 ∧ one1 y a = 0 ∧ one1 r a = 0 := fun a ha => ⟨own_bound h.own ha, h.nl.bound a ha, if_neg (by omega), if_neg (by omega)⟩
  have hk'y : ob v' y = 0 := by
    rcases hl with e | e
    · rw [ob_same e]; omega
    · exact if_neg (fun e2 => by have := e y e2; omega)
  have h3 : w3.heap[y]? = some (.cells #[v] 82 (0, 0)) := (hg.block y (Array.getElem?_eq_some_iff.1 H2.hx).1 (fun e => by rw [ob_some e.symm] at hny; omega)).trans H2.hx
  have hF2 : FR (fun a => ob v a + one1 y a) wa (w3.setCell ⟨y, 0, none⟩ v') := ((FR.of_ext hx2).trans ((FR.of_grown hg (f := ob v) (fun k e => by rw [ob_some (by first | exact e | exact e.symm)]; exact Nat.one_pos)).mono (f' := fun a => ob v a + one1 y a) (fun k _ h0 => by show ob v k = 0; omega)) (fun k _ h0 => h0)).trans (fr_set (b := y)) (fun k _ h0 => by show one1 y k = 0; omega)
  refine ⟨⟨ix_set h3 v', ?_, ?_, fun a => ?_, fun a ha => ?_, ?_, hrl, hyl⟩, hF2, h3⟩
  · rw [List.length_append, rowsV_app]
    exact own_set ho (ob_zero hk'y) 0 v'
  · refine (H1.nl.frame hF2 (fun a ha => ?_)).app (NL.one ?_)
    · have := h.nd a
      show ob v a + one1 y a = 0
      omega
    · have hu2 := hu.frame hF2 (fun a ha => by
        have h9 : w.heap.size ≤ a := by
          rcases Nat.lt_or_ge a w.heap.size with h9 | h9
          · rw [hlow a h9] at ha; omega
          · exact h9
        have := hvup a h9
        show ob v a + one1 y a = 0
        omega)
      exact ⟨own_baseK hu2.1 hsz, own_baseK hu2.2.1 hsz, own_baseK hu2.2.2.1 hsz, hu2.2.2.2⟩
  · show one1 y a + one1 r a + ob v' a + (g a + gu a) ≤ 1
    have hn := h.nd a
    have hd1 := hd a
    rcases Nat.lt_or_ge a w.heap.size with h9 | h9
    · rw [hlow a h9]
      rcases hl with e | e
      · rw [ob_same e]; omega
      · rw [show ob v' a = 0 from if_neg (fun e2 => by have := e a e2; omega)]; omega
    · have := hvup a h9
      rcases hl with e | e
      · rw [ob_same e]; omega
      · by_cases e2 : v'.ownBlock = some a
        · have := hup a (by have := e a e2; omega)
          have : ob v' a ≤ 1 := by unfold ob; split <;> omega
          omega
        · rw [show ob v' a = 0 from if_neg e2]; omega
  · show g a + gu a = 0
    have := h.lo a ha
    have := hlow a (by omega)
    omega
  · refine (h.fr.trans hF (fun k _ h0 => by have h0' : one1 r k + one1 y k = 0 := h0; omega)).trans hF2 (fun k hk h0 => ?_)
    have h0' : one1 r k + one1 y k = 0 := h0
    have : ob v k = 0 := if_neg (fun e => by have := own_freshB h.own _ e; omega)
    show ob v k + one1 y k = 0
    omega
theorem RDx.reads (h : RDx w1 w r y v xs vs g) : ∃ A c, v = .slice A xs.length c ∧ RX w A xs.length c xs := by
  obtain ⟨A, c, rfl, hr⟩ := own_rd h.own
  exact ⟨A, c, rfl, vs, hr, h.nl.reads⟩
end
def GiveRx (l : List Int) (w : World) (e : Ending) (w' : World) : Prop := ∃ A c, e = .returned (.tuple #[.agg #[.slice A (rdX l).length c], .int .i64 (rdE l)]) ∧ RX w' A (rdX l).length c (rdX l) ∧ Ext w w'
theorem Read_any (A : Option Addr) (n c : Nat) (l : List Int) (w : World) (hb : RdB w A n c l) : Calls Tryz.prog 35 #[.slice A n c] w (GiveRx l w) := by
  obtain ⟨iN, hi0, hi1, hi2, hi3⟩ := info_parts infoAN
  have hisB := hb.2
  have hll := hb.len
  subst hll
  have hA : ∀ ad, A = some ad → 0 < l.length → ad.block < w.heap.size := fun ad e hp => by
    obtain ⟨ad', e', hc⟩ := hb.1.2.2.2 hp
    rw [e] at e'
    injection e' with e'
    subst e'
    have := World.block_lt_of_cell? _ _ (hc 0 _ (List.getElem?_eq_getElem (by rw [bys_len]; exact hp)))
    rwa [block_add] at this
  have hr1 := two_rng (s := ⟨l, true⟩) hisB
  obtain ⟨K, hK⟩ : ∃ K : Nat, twoV ⟨l, true⟩ = (K : Int) := ⟨(twoV ⟨l, true⟩).toNat, by omega⟩
  have hKb : K ≤ 65535 := by omega
  have hRF : Hid (readF false l = itN false K ([], (tk 2 ⟨l, true⟩).2)) := by unfold Hid readF; rw [hK]; rfl
  have hrd := hid (rd_of (g := false) l)
  have hx1 := (Ext.refl w).alloc_right (.cells #[.slice none 0 0] 82)
  have hx2 := (Ext.refl (w.alloc (.cells #[.slice none 0 0] 82))).alloc_right (.cells #[.slice A l.length c, .bool false] 116)
  have hx3 := (Ext.refl ((w.alloc (.cells #[.slice none 0 0] 82)).alloc (.cells #[.slice A l.length c, .bool false] 116))).alloc_right (.cells #[.slice none 0 0] 82)
  have h1 := heap_alloc_new w (.cells #[.slice none 0 0] 82)
  have h2 := heap_alloc_new (w.alloc (.cells #[.slice none 0 0] 82)) (.cells #[.slice A l.length c, .bool false] 116)
  have h3 := heap_alloc_new ((w.alloc (.cells #[.slice none 0 0] 82)).alloc (.cells #[.slice A l.length c, .bool false] 116)) (.cells #[.slice none 0 0] 82)
  have hb3 := hb.ext (hx1.trans (hx2.trans hx3))
  replace h1 := ((hx2.trans hx3).block (Array.getElem?_eq_some_iff.1 h1).1).trans h1
  replace h2 := (hx3.block (Array.getElem?_eq_some_iff.1 h2).1).trans h2
  have hsz : (((w.alloc (.cells #[.slice none 0 0] 82)).alloc (.cells #[.slice A l.length c, .bool false] 116)).alloc (.cells #[.slice none 0 0] 82)).heap.size = w.heap.size + 3 := by simp
  rw [World.size_alloc] at h2
  rw [World.size_alloc, World.size_alloc] at h3
  replace hx1 := hid (hx1.trans (hx2.trans hx3))
  clear hx2 hx3 hb hr1
  replace hK := hid hK
  go_enter Tryz.func35, Tryz.ntmps35
  go_upto_region 3 with fail
  obtain ⟨q, hq⟩ : ∃ q, q = w.heap.size := ⟨_, rfl⟩
  obtain ⟨r, hr⟩ : ∃ r, r = q + 1 := ⟨_, rfl⟩
  obtain ⟨y, hy⟩ : ∃ y, y = q + 2 := ⟨_, rfl⟩
  rw [← hq] at h1 h2 h3 hsz hA
  simp only [← hq]
  have e11 : q + 1 + 1 = q + 2 := rfl
  try simp only [e11]
  try rw [e11] at h3
  rw [← hr] at h2
  rw [← hy] at h3
  simp only [← hr, ← hy]
  generalize ((w.alloc (.cells #[.slice none 0 0] 82)).alloc (.cells #[.slice A l.length c, .bool false] 116)).alloc (.cells #[.slice none 0 0] 82) = w1 at *
  clear e11
  have hP0 : Hid (RP y w1 r ⟨l, true⟩) := ⟨A, c, h2, hb3, fun ad e hp => by have := hA ad e hp; omega, fun ad e hp => by have := hA ad e hp; omega, by omega⟩
  have hR0 : Hid (RDx w1 w1 r y (.slice none 0 0) [] [] (fun _ => 0)) := ⟨h3, World.ownsRow_nil _ _ _ _, fun a => rfl, fun a => by
    rw [show ob (.slice none 0 0) a = 0 from if_neg (by intro e; cases e)]
    unfold one1
    split <;> split <;> omega, fun _ _ => rfl, FR.of_ext (Ext.refl _), by omega, by omega⟩
  have hqry : Hid (q < r ∧ r < y ∧ w1.heap.size = y + 1 ∧ q = w.heap.size) := by unfold Hid; omega
  replace h1 := hid h1
  have hT := hid (two_any y r ⟨l, true⟩ w1 hP0.out)
  rw [hK.out] at hT
  clear h2 h3 hb3 hA hq hr hy hsz
  go_wp2_with fail
  refine hT.out.mono ?_
  rintro e w2 ⟨rfl, hP2, hF2⟩
  replace hR0 := hid (hR0.out.up hF2)
  replace hP2 := hid hP2
  clear hT hP0 hF2
  go_wp2_with fail
  generalize hp0 : (([], (tk 2 ⟨l, true⟩).2) : List Nx × St) = p0 at *
  have hP2' : Hid (RP y w2 r p0.2) := by rw [← hp0]; exact hP2.out
  have hR0' : Hid (RDx w1 w2 r y (.slice none 0 0) p0.1 [] (fun _ => 0)) := by rw [← hp0]; exact hR0.out
  have hpl : Hid (p0.1.length = 0) := by rw [← hp0]; rfl
  clear hP2 hR0
  replace hp0 := hid hp0
  go_loopw [11] (fun i wr => ∃ (j : Nat) (v : Value) (vs : List V3) (g : Nat → Nat), j ≤ K ∧ i = .int .i64 j ∧ Hid (RDx w1 wr r y v (itN false j p0).1 vs g) ∧ Hid (RP y wr r (itN false j p0).2)) (fun i _ => K - (intOf i).toNat)
  case atStart => exact ⟨0, _, _, _, by omega, rfl, hR0', hP2'⟩
  case round =>
    clear hP2' hR0'
    obtain ⟨j, v, vs, g, hj, rfl, hR, hP⟩ := hrel
    have hlen := itN_len (g := false) (p := p0) j
    rw [hpl.out] at hlen
    by_cases hlt : j < K
    · have hji : (j : Int) < (K : Int) := by omega
      cases hok : (itN false j p0).2.ok with
      | true =>
        have hst : Hid (itN false (j + 1) p0 = ((itN false j p0).1 ++ [(nodeF false (itN false j p0).2).1], (nodeF false (itN false j p0).2).2)) := by unfold Hid; rw [itN, hok, if_neg (by decide)]
        obtain ⟨xs, hxs⟩ : ∃ xs, xs = (itN false j p0).1 := ⟨_, rfl⟩
        obtain ⟨s, hs⟩ : ∃ s, s = (itN false j p0).2 := ⟨_, rfl⟩
        rw [← hxs, ← hs] at hst
        rw [← hxs] at hR hlen
        rw [← hs] at hP hok
        obtain ⟨Av, cv, rfl, -⟩ := own_form hR.out.own
        obtain ⟨A5, c5, hr5, -, -, -, -⟩ := hP.out
        have z1 : wr.cell? ⟨r, 1, none⟩ = some (.bool false) := by rw [Lib.cell_of_heap hr5, hok]; rfl
        have lr := (Array.getElem?_eq_some_iff.1 hr5).1
        clear hxs hs hok hr5
        go_upto_region 6 with fail
        have I0 : (fun w' : World => w'.cell? ⟨y, 0, none⟩ = some (.slice Av xs.length cv)) wr.drew := by
          show wr.cell? ⟨y, 0, none⟩ = _
          rw [Lib.cell_of_heap hR.out.hx]; rfl
        refine region_J (fun w' : World => w'.cell? ⟨y, 0, none⟩ = some (.slice Av xs.length cv)) 7 (by kernel_rfl) ?_
        replace hR := hid (hR.out.up (FR.of_ext ((Ext.refl wr).drew_right)))
        replace hP := hid (hP.out.ext ((Ext.refl wr).drew_right))
        clear z1 lr
        generalize wr.drew = w9 at *
        refine JT 0 (v := ?vt0) I0 ?yt0 ?rt0
        case yt0 => (intro w h; have := h; go_simp; with_reducible rfl)
        simp only [Act.put, lyA, lyB, lyC, lyD, lyE, lyF]
        refine JT 1 (v := ?vt1) I0 ?yt1 ?rt1
        case yt1 => (intro w h; have := h; go_simp; with_reducible rfl)
        simp only [Act.put, lyA, lyB, lyC, lyD, lyE, lyF]
        refine JT 2 (v := ?vt2) I0 ?yt2 ?rt2
        case yt2 => (intro w h; have := h; go_simp; with_reducible rfl)
        simp only [Act.put, lyA, lyB, lyC, lyD, lyE, lyF]
        refine J_one 3 rfl (by kernel_rfl) (fun K hK => ?_)
        go_simp
        refine (node_any y r s w9 hP.out (by have := hR.out.fr.2.2.2.1; have := hqry.out; omega)).mono ?_
        rintro e' w10 ⟨kv, rv, dv, gu, rfl, hNR, hgu, hP10, hF10⟩
        have hR10 := hR.out.up hF10
        have I1 : (fun w' : World => w'.cell? ⟨y, 0, none⟩ = some (.slice Av xs.length cv)) w10 := by
          show w10.cell? ⟨y, 0, none⟩ = _
          rw [Lib.cell_of_heap hR10.hx]; rfl
        refine hK _ _ ⟨fun _ => I1, ?_⟩
        clear hK K I0
        try simp only [Act.put, lyA, lyB, lyC, lyD, lyE, lyF]
        have hxb := (Ext.refl w10).alloc_right (.cells #[kv, rv, dv] 113)
        have hnew := heap_alloc_new w10 (.cells #[kv, rv, dv] 113)
        have hRn : Rd (w10.alloc (.cells #[kv, rv, dv] 113)) 3 (some ⟨w10.heap.size, 0, none⟩) 1 1 [kv, rv, dv] := ⟨rfl, Nat.le_refl _, by decide, fun _ => ⟨_, rfl, fun j u hu => by
          rw [lit_add, Nat.zero_add, Lib.cell_of_heap hnew]
          simpa using hu⟩⟩
        obtain ⟨A7, c7, rfl, -⟩ := own_form hNR.1
        obtain ⟨A8, c8, rfl, -⟩ := own_form hNR.2.1
        obtain ⟨A9, c9, rfl, -⟩ := own_form hNR.2.2.1
        obtain ⟨v', w12, happ, own3, hgr, hloc⟩ := app_at _ w1.heap.size 80 80 113 iN _ 3 72 Tryz.underlying80 hi0 hi1 hi2 hi3 rfl (by decide) _ _ _ (hxb.own hR10.own) _ 1 1 _ hRn (by simp [Value.oneCell']) (by unfold maxLen; omega) (by omega) (Nat.le_trans hR10.fr.2.2.2.1 hxb.size)
        obtain ⟨hRs, hFs, hy12⟩ := hR.out.add hF10 hNR hgu hxb hgr own3 hloc
        have hPs := hid (hP10.fr hFs (fun a ha => by
          have h7 := own_freshB hR10.own
          have hyy := hqry.out
          show ob _ a + one1 y a = 0
          rw [show ob _ a = 0 from if_neg (fun e => by have := h7 a e; omega), show one1 y a = 0 from if_neg (by omega)]))
        replace hRs := hid hRs
        obtain ⟨Ak', ck', rfl, -⟩ := own_form own3
        have I2 : (fun w' : World => w'.cell? ⟨y, 0, none⟩ = some (.slice Av xs.length cv)) (w10.alloc (.cells #[.slice A7 (nodeF false s).1.keys.length c7, .slice A8 (nodeF false s).1.recs.length c8, .slice A9 (nodeF false s).1.kids.length c9] 113)) := hxb.cell I1
        have I3 : (fun w' : World => w'.cell? ⟨y, 0, none⟩ = some (.slice Av xs.length cv)) w12 := by
          show w12.cell? ⟨y, 0, none⟩ = _
          rw [Lib.cell_of_heap hy12]; rfl
        have z12 : w12.cell? ⟨y, 0, none⟩ = some (.slice Av xs.length cv) := I3
        have f12 := Lib.frozen_of_heap hy12 0
        have l12 := (Array.getElem?_eq_some_iff.1 hy12).1
        replace happ := hid happ
        have e9 : (itN false (j + 1) p0).1 = xs ++ [(nodeF false s).1] := by rw [hst.out]
        have e8 : (itN false (j + 1) p0).2 = (nodeF false s).2 := by rw [hst.out]
        have hNe := hRs.out
        have hPe := hPs.out
        rw [← e9] at hNe
        rw [← e8] at hPe
        replace hNe := hid hNe
        replace hPe := hid hPe
        clear e8 e9
        clear hRn own3 hgr hloc hFs hy12 hxb hnew hR10 hNR hgu hP10 hF10 hR hP hRs hPs hst
        generalize (nodeF false s).1.keys.length = n7 at *
        generalize (nodeF false s).1.recs.length = n8 at *
        generalize (nodeF false s).1.kids.length = n9 at *
        refine J_one 4 rfl (by kernel_rfl) (fun K hK => ?_)
        go_simp
        refine hK _ _ ⟨fun _ => I2, ?_⟩
        clear hK K
        try simp only [Act.put, lyA, lyB, lyC, lyD, lyE, lyF]
        generalize w10.heap.size = qb at *
        generalize w10.alloc (.cells #[.slice A7 n7 c7, .slice A8 n8 c8, .slice A9 n9 c9] 113) = w11 at *
        refine J_one 5 rfl (by kernel_rfl) (fun K hK => ?_)
        refine step_run rfl _ (ex_append _ _ _ _ rfl _ _ (by simp [Act.eval, Act.put]) (by simp [Act.eval, Act.put]) _ happ.out) ?_
        refine hK _ _ ⟨fun _ => I3, ?_⟩
        clear hK K happ I1 I2
        try simp only [Act.put, lyA, lyB, lyC, lyD, lyE, lyF]
        refine J_one 6 rfl (by kernel_rfl) (fun K hK => ?_)
        go_simp
        refine hK _ _ ⟨fun _ => I3, ?_⟩
        clear hK K
        try simp only [Act.put, lyA, lyB, lyC, lyD, lyE, lyF]
        refine J_one 7 rfl (by kernel_rfl) (fun K hK => ?_)
        go_simp
        refine hK _ _ ⟨fun h => absurd rfl h, ?_⟩
        clear hK K
        refine J_done (by kernel_rfl) (OnlyOn.normal ?_)
        clear I3 z12 f12 l12
        go_wp2_with fail
        go_roundw
        case rel => exact ⟨j + 1, _, _, _, by omega, by go_num, hNe, hPe⟩
        case measure => simp [intOf]; omega
      | false =>
        have hend : Hid (itN false K p0 = itN false j p0) := by
          have := itN_stay hok (K - j)
          rw [show j + (K - j) = K by omega] at this
          exact this
        replace hok := hid hok
        have hRFp := hRF.out.trans hend.out
        have hnB := hrd.out
        rw [hRFp] at hnB
        obtain ⟨A5, c5, hr5, hrb, -, -, -⟩ := hP.out
        have zr0 : wr.cell? ⟨r, 0, none⟩ = some (.slice A5 (itN false j p0).2.l.length c5) := by rw [Lib.cell_of_heap hr5]; rfl
        have zr1 : wr.cell? ⟨r, 1, none⟩ = some (.bool (!(itN false j p0).2.ok)) := by rw [Lib.cell_of_heap hr5]; rfl
        have lr := (Array.getElem?_eq_some_iff.1 hr5).1
        have hrm := (Rd.max hrb.1).1
        obtain ⟨Av, cv, rfl, hRX⟩ := hR.out.reads
        have zy : wr.cell? ⟨y, 0, none⟩ = some (.slice Av (itN false j p0).1.length cv) := by rw [Lib.cell_of_heap hR.out.hx]; rfl
        have ly := (Array.getElem?_eq_some_iff.1 hR.out.hx).1
        have hyy := hqry.out
        have hq5 := (hR.out.fr.2.2.2.2 q (by omega) (by show one1 r q + one1 y q = 0; rw [show one1 r q = 0 from if_neg (by omega), show one1 y q = 0 from if_neg (by omega)])).trans h1.out
        have zq : wr.cell? ⟨q, 0, none⟩ = some (.slice none 0 0) := by rw [Lib.cell_of_heap hq5]; rfl
        have fq := Lib.frozen_of_heap hq5 0
        have lq := (Array.getElem?_eq_some_iff.1 hq5).1
        have lq0 := lq
        have hRXq := hid (fun (w' : World) (u : Value) (hx : Ext wr w') => (⟨vs, Rd.of_own (own_set (hx.own hR.out.own) (fun e => by have := own_freshB hR.out.own _ e; omega) 0 u), (NL.set (by omega) (hR.out.nl.frame (f := fun _ => 0) (FR.of_ext hx) (fun _ _ => rfl))).reads⟩ : RX (w'.setCell ⟨q, 0, none⟩ u) Av (itN false j p0).1.length cv (itN false j p0).1))
        have hxw := hid (hx1.out.trans' hR.out.fr (fun a ha => by show one1 r a + one1 y a = 0; rw [show one1 r a = 0 from if_neg (by omega), show one1 y a = 0 from if_neg (by omega)]))
        have hq9 := hqry
        clear hr5 hrb hP hR hq5 hRFp hRF hyy
        generalize (itN false j p0).1 = xs at *
        generalize (itN false j p0).2.ok = ok at *
        generalize hrl : (itN false j p0).2.l = rl at *
        replace hrl := hid hrl
        cases ok with
        | false =>
          replace zr1 : wr.cell? ⟨r, 1, none⟩ = some (.bool true) := zr1
          have hno : ¬ (false = true ∧ rl = [] ∧ wrongX xs = 0) := fun h => by cases h.1
          have hfin : Hid (∀ w', Ext w w' → q < w'.heap.size → GiveRx l w (.returned (.tuple #[.agg #[.slice none 0 0], .int .i64 11])) (w'.setCell ⟨q, 0, none⟩ (.slice none 0 0))) := fun w' hx hl => by
            rcases hnB with ⟨hc, -⟩ | ⟨-, e1, e2⟩
            · exact absurd hc hno
            · refine ⟨none, 0, ?_, ?_, hx.set (p := ⟨q, 0, none⟩) (by rw [hq9.out.2.2.2]; exact Nat.le_refl _) _⟩
              · rw [e1, e2]; rfl
              · rw [e1]; exact ⟨[], Rd.none_ _ 3, trivial⟩
          replace hnB := hid hnB
          clear hno
          go_wp2
          exact bodyPost_ret (v := .tuple #[.agg #[.slice none 0 0], .int .i64 11]) (by simp [results, Tryz.results35, go_sem, set_get zq]) rfl (hfin.out _ hxw.out lq)
        | true => exact absurd hok.out (by decide)
    · obtain rfl : j = K := by omega
      have hRFp := hRF.out.trans rfl
      have hnB := hrd.out
      rw [hRFp] at hnB
      obtain ⟨A5, c5, hr5, hrb, -, -, -⟩ := hP.out
      have zr0 : wr.cell? ⟨r, 0, none⟩ = some (.slice A5 (itN false j p0).2.l.length c5) := by rw [Lib.cell_of_heap hr5]; rfl
      have zr1 : wr.cell? ⟨r, 1, none⟩ = some (.bool (!(itN false j p0).2.ok)) := by rw [Lib.cell_of_heap hr5]; rfl
      have lr := (Array.getElem?_eq_some_iff.1 hr5).1
      have hrm := (Rd.max hrb.1).1
      obtain ⟨Av, cv, rfl, hRX⟩ := hR.out.reads
      have zy : wr.cell? ⟨y, 0, none⟩ = some (.slice Av (itN false j p0).1.length cv) := by rw [Lib.cell_of_heap hR.out.hx]; rfl
      have ly := (Array.getElem?_eq_some_iff.1 hR.out.hx).1
      have hyy := hqry.out
      have hq5 := (hR.out.fr.2.2.2.2 q (by omega) (by show one1 r q + one1 y q = 0; rw [show one1 r q = 0 from if_neg (by omega), show one1 y q = 0 from if_neg (by omega)])).trans h1.out
      have zq : wr.cell? ⟨q, 0, none⟩ = some (.slice none 0 0) := by rw [Lib.cell_of_heap hq5]; rfl
      have fq := Lib.frozen_of_heap hq5 0
      have lq := (Array.getElem?_eq_some_iff.1 hq5).1
      have lq0 := lq
      have hRXq := hid (fun (w' : World) (u : Value) (hx : Ext wr w') => (⟨vs, Rd.of_own (own_set (hx.own hR.out.own) (fun e => by have := own_freshB hR.out.own _ e; omega) 0 u), (NL.set (by omega) (hR.out.nl.frame (f := fun _ => 0) (FR.of_ext hx) (fun _ _ => rfl))).reads⟩ : RX (w'.setCell ⟨q, 0, none⟩ u) Av (itN false j p0).1.length cv (itN false j p0).1))
      have hxw := hid (hx1.out.trans' hR.out.fr (fun a ha => by show one1 r a + one1 y a = 0; rw [show one1 r a = 0 from if_neg (by omega), show one1 y a = 0 from if_neg (by omega)]))
      have hq9 := hqry
      clear hr5 hrb hP hR hq5 hRFp hRF hyy
      generalize (itN false j p0).1 = xs at *
      generalize (itN false j p0).2.ok = ok at *
      generalize hrl : (itN false j p0).2.l = rl at *
      replace hrl := hid hrl
      cases ok with
      | false =>
        replace zr1 : wr.cell? ⟨r, 1, none⟩ = some (.bool true) := zr1
        have hno : ¬ (false = true ∧ rl = [] ∧ wrongX xs = 0) := fun h => by cases h.1
        have hfin : Hid (∀ w', Ext w w' → q < w'.heap.size → GiveRx l w (.returned (.tuple #[.agg #[.slice none 0 0], .int .i64 11])) (w'.setCell ⟨q, 0, none⟩ (.slice none 0 0))) := fun w' hx hl => by
          rcases hnB with ⟨hc, -⟩ | ⟨-, e1, e2⟩
          · exact absurd hc hno
          · refine ⟨none, 0, ?_, ?_, hx.set (p := ⟨q, 0, none⟩) (by rw [hq9.out.2.2.2]; exact Nat.le_refl _) _⟩
            · rw [e1, e2]; rfl
            · rw [e1]; exact ⟨[], Rd.none_ _ 3, trivial⟩
        replace hnB := hid hnB
        clear hno
        go_wp2
        exact bodyPost_ret (v := .tuple #[.agg #[.slice none 0 0], .int .i64 11]) (by simp [results, Tryz.results35, go_sem, set_get zq]) rfl (hfin.out _ hxw.out lq)
      | true =>
        replace zr1 : wr.cell? ⟨r, 1, none⟩ = some (.bool false) := zr1
        rcases Nat.eq_zero_or_pos rl.length with hz | hz
        · have hrn : rl = [] := List.eq_nil_of_length_eq_zero hz
          rw [hz] at zr0
          have hWr := hid (fun w' (hx : Ext wr w') => pwrong_any Av xs.length cv xs w' (hRX.ext hx))
          by_cases h0 : wrongX xs = 0
          · have hWg : wrongX xs = 0 := h0
            rw [h0] at hWr
            have hfin : Hid (∀ w', Ext wr w' → q < w'.heap.size → GiveRx l w (.returned (.tuple #[.agg #[.slice Av xs.length cv], .int .i64 0])) (w'.setCell ⟨q, 0, none⟩ (.slice Av xs.length cv))) := fun w' hx hl => by
              rcases hnB with ⟨-, e1, e2⟩ | ⟨hc, -⟩
              · refine ⟨Av, cv, ?_, ?_, (hxw.out.trans hx).set (p := ⟨q, 0, none⟩) (by rw [hq9.out.2.2.2]; exact Nat.le_refl _) _⟩
                · rw [e1, e2]
                · rw [e1]; exact hRXq.out w' _ hx
              · exact absurd ⟨rfl, hrn, h0⟩ hc
            replace hnB := hid hnB
            replace hrn := hid hrn
            clear hWg h0 hRX hRXq
            go_wp2_with fail
            refine (hWr.out _ (Ext.refl _)).mono ?_
            rintro e w7 ⟨rfl, hx7⟩
            replace zy := hx7.cell zy
            replace zq := hx7.cell zq
            replace ly := Nat.lt_of_lt_of_le ly hx7.size
            replace lq := Nat.lt_of_lt_of_le lq hx7.size
            replace fq := (hx7.frozen (p := ⟨q, 0, none⟩) lq0).trans fq
            go_wp2
            exact bodyPost_ret (v := .tuple #[.agg #[.slice Av xs.length cv], .int .i64 0]) (by simp [results, Tryz.results35, go_sem, set_get zq]) rfl (hfin.out _ hx7 lq)
          · have hWp : 0 < wrongX xs := by have := (wrong_rng xs).1; omega
            have hno : ¬ (true = true ∧ rl = [] ∧ wrongX xs = 0) := fun h => h0 h.2.2
            have hfin : Hid (∀ w', Ext w w' → q < w'.heap.size → GiveRx l w (.returned (.tuple #[.agg #[.slice none 0 0], .int .i64 11])) (w'.setCell ⟨q, 0, none⟩ (.slice none 0 0))) := fun w' hx hl => by
              rcases hnB with ⟨hc, -⟩ | ⟨-, e1, e2⟩
              · exact absurd hc hno
              · refine ⟨none, 0, ?_, ?_, hx.set (p := ⟨q, 0, none⟩) (by rw [hq9.out.2.2.2]; exact Nat.le_refl _) _⟩
                · rw [e1, e2]; rfl
                · rw [e1]; exact ⟨[], Rd.none_ _ 3, trivial⟩
            replace hnB := hid hnB
            clear hno
            replace hrn := hid hrn
            clear h0 hRX hRXq
            generalize wrongX xs = W at *
            go_wp2_with fail
            refine (hWr.out _ (Ext.refl _)).mono ?_
            rintro e w7 ⟨rfl, hx7⟩
            replace zq := hx7.cell zq
            replace lq := Nat.lt_of_lt_of_le lq hx7.size
            replace fq := (hx7.frozen (p := ⟨q, 0, none⟩) lq0).trans fq
            go_wp2
            exact bodyPost_ret (v := .tuple #[.agg #[.slice none 0 0], .int .i64 11]) (by simp [results, Tryz.results35, go_sem, set_get zq]) rfl (hfin.out _ (hxw.out.trans hx7) lq)
        · have hz1 : (0 : Int) < (rl.length : Int) := by omega
          have hno : ¬ (true = true ∧ rl = [] ∧ wrongX xs = 0) := fun h => by rw [h.2.1] at hz; exact absurd hz (by decide)
          have hfin : Hid (∀ w', Ext w w' → q < w'.heap.size → GiveRx l w (.returned (.tuple #[.agg #[.slice none 0 0], .int .i64 11])) (w'.setCell ⟨q, 0, none⟩ (.slice none 0 0))) := fun w' hx hl => by
            rcases hnB with ⟨hc, -⟩ | ⟨-, e1, e2⟩
            · exact absurd hc hno
            · refine ⟨none, 0, ?_, ?_, hx.set (p := ⟨q, 0, none⟩) (by rw [hq9.out.2.2.2]; exact Nat.le_refl _) _⟩
              · rw [e1, e2]; rfl
              · rw [e1]; exact ⟨[], Rd.none_ _ 3, trivial⟩
          replace hnB := hid hnB
          clear hno
          clear hRX hRXq
          go_wp2
          exact bodyPost_ret (v := .tuple #[.agg #[.slice none 0 0], .int .i64 11]) (by simp [results, Tryz.results35, go_sem, set_get zq]) rfl (hfin.out _ hxw.out lq)
open Go.RowKit Go.Shelf
def twoL (z : Int) : List Int := [z % 256, z / 256]
def kvB (t : Te) : List Int := (t.key.size : Int) :: (txt t.key ++ twoL t.no)
def ndB (x : Nx) : List Int := (x.keys.length : Int) :: (x.kids.length : Int) :: ((ents x).flatMap kvB ++ x.kids.flatMap twoL)
def bytesX (xs : List Nx) : List Int := twoL xs.length ++ xs.flatMap ndB
def okN (x : Nx) : Prop := x.recs.length = x.keys.length ∧ x.keys.length ≤ 4 ∧ x.kids.length ≤ 5 ∧ (∀ t ∈ ents x, okT t = true) ∧ ∀ z ∈ x.kids, 0 ≤ z ∧ z ≤ 65535
theorem okT_is {t : Te} (h : okT t = true) : t.key.size ≤ 100 ∧ 1 ≤ t.no ∧ t.no ≤ 300 := by
  unfold okT at h
  simpa using h
theorem tlW_mem1 {e : Te} : ∀ {l : List Te} {ms : List (List Te)}, e ∈ l → e ∈ tlW l ms
  | x :: l, [], h => h
  | x :: l, m :: ms, h => by
    rcases List.mem_cons.1 h with rfl | h
    · exact List.mem_cons_self
    · exact List.mem_cons_of_mem _ (List.mem_append_right _ (tlW_mem1 h))
theorem tlW_mem2 {e : Te} {m : List Te} (he : e ∈ m) : ∀ {l : List Te} {ms : List (List Te)}, ms.length ≤ l.length → m ∈ ms → e ∈ tlW l ms
  | [], m' :: ms, hl, _ => absurd hl (by simp)
  | _, [], _, h => by cases h
  | x :: l, m' :: ms, hl, h => by
    rcases List.mem_cons.1 h with rfl | h
    · exact List.mem_cons_of_mem _ (List.mem_append_left _ he)
    · exact List.mem_cons_of_mem _ (List.mem_append_right _ (tlW_mem2 he (by simpa using hl) h))
theorem wv_mem1 {e : Te} {l : List Te} : ∀ {ms : List (List Te)}, e ∈ l → e ∈ wv l ms
  | [], h => h
  | m :: ms, h => List.mem_append_right _ (tlW_mem1 h)
theorem wv_mem2 {e : Te} {m : List Te} (he : e ∈ m) {l : List Te} : ∀ {ms : List (List Te)}, ms.length = l.length + 1 → m ∈ ms → e ∈ wv l ms
  | m' :: ms, hl, h => by
    rcases List.mem_cons.1 h with rfl | h
    · exact List.mem_append_left _ he
    · exact List.mem_append_right _ (tlW_mem2 he (by simp at hl; omega) h)
section
variable {xs : List Nx}
theorem flat_ents {h k : Nat} {e : Te} (he : e ∈ ents (xth xs k)) : e ∈ flat h (btx xs h k) := by
  cases h with
  | zero => exact he
  | succ h => exact wv_mem1 he
theorem flat_kid (hs : shpX xs) {h k u : Nat} (hU : UD xs (h + 1) k) (hu : u ∈ kd xs k) {e : Te} (he : e ∈ flat h (btx xs h u)) : e ∈ flat (h + 1) (btx xs (h + 1) k) := by
  have s1 := shape_is (hs k hU.1)
  have hne : (kd xs k).length ≠ 0 := fun e => hU.2.1 (List.eq_nil_of_length_eq_zero e)
  rw [kd_len] at hne
  refine wv_mem2 he ?_ (List.mem_map.2 ⟨_, List.mem_map.2 ⟨u, hu, rfl⟩, rfl⟩)
  rw [List.length_map, List.length_map, kd_len, ents_len s1.1]
  omega
theorem reach_flat (hs : shpX xs) {H : Nat} (h0 : UD xs H 0) {k : Nat} (hr : Reach xs k) : ∃ h, UD xs h k ∧ ∀ e ∈ flat h (btx xs h k), e ∈ flat H (btx xs H 0) := by
  induction hr with
  | zero => exact ⟨H, h0, fun e he => he⟩
  | kid _ hu ih =>
    obtain ⟨h, hU, hf⟩ := ih
    cases h with
    | zero => rw [hU.2] at hu; cases hu
    | succ h => exact ⟨h, hU.2.2 _ hu, fun e he => hf e (flat_kid hs hU hu he)⟩
theorem okN_at (h0 : wrongX xs = 0) {k : Nat} (hk : k < xs.length) : okN (xth xs k) := by
  obtain ⟨h1, h2, hs, ht, hf, ⟨H, hU⟩, hok, hsr⟩ := wrong_none.1 h0
  obtain ⟨s1, s2, s3⟩ := shape_is (hs k hk)
  refine ⟨s1, s2, by omega, fun t htm => ?_, fun z hz => ?_⟩
  · obtain ⟨h, hU2, hfl⟩ := reach_flat hs hU (ht.2 k hk)
    refine hok t ?_
    unfold entX
    rw [hX_is hU]
    exact hfl t (flat_ents htm)
  · have := ht.1.1 z (List.mem_flatMap.2 ⟨xs[k], List.getElem_mem hk, by rw [← xth_get hk]; exact hz⟩)
    omega
theorem okN_all (h0 : wrongX xs = 0) : ∀ x ∈ xs, okN x := fun x hx => by
  obtain ⟨k, hk, rfl⟩ := List.getElem_of_mem hx
  rw [← xth_get hk]
  exact okN_at h0 hk
end
theorem txt_len (s : ByteArray) : (txt s).length = s.size := by
  unfold txt
  rw [List.length_map]
  rfl
theorem txt_isB (s : ByteArray) : isB (txt s) := fun x hx => by
  obtain ⟨b, _, rfl⟩ := List.mem_map.1 hx
  have := b.toNat_lt
  omega
theorem strI_txt (s : ByteArray) : strI (txt s) = s := by
  unfold strI txt
  rw [List.map_map]
  have e : ((fun x : Int => UInt8.ofNat x.toNat) ∘ fun b : UInt8 => (b.toNat : Int)) = id := by
    funext b
    simp
  rw [e, List.map_id]
theorem tk_app (l r : List Int) : tk l.length ⟨l ++ r, true⟩ = (l, ⟨r, true⟩) := by
  unfold tk
  rw [if_pos (by simp)]
  simp
theorem one_app (a : Int) (r : List Int) : oneV ⟨a :: r, true⟩ = a ∧ (tk 1 ⟨a :: r, true⟩).2 = ⟨r, true⟩ := by
  have h := tk_app [a] r
  have h' : tk 1 ⟨a :: r, true⟩ = ([a], ⟨r, true⟩) := h
  unfold oneV
  rw [h']
  exact ⟨rfl, rfl⟩
theorem two_app (z : Int) (r : List Int) : twoV ⟨twoL z ++ r, true⟩ = z ∧ (tk 2 ⟨twoL z ++ r, true⟩).2 = ⟨r, true⟩ := by
  have h' : tk 2 ⟨twoL z ++ r, true⟩ = (twoL z, ⟨r, true⟩) := tk_app (twoL z) r
  unfold twoV
  rw [h']
  refine ⟨?_, rfl⟩
  show z % 256 + z / 256 * 256 = z
  omega
theorem k_app (X : Nx) (t : Te) (r : List Int) : kStep (X, ⟨kvB t ++ r, true⟩) = (⟨X.keys ++ [t.key], X.recs ++ [t.no], X.kids⟩, ⟨r, true⟩) := by
  unfold kStep kvB
  rw [List.cons_append]
  obtain ⟨h1, h2⟩ := one_app (t.key.size : Int) ((txt t.key ++ twoL t.no) ++ r)
  dsimp only
  rw [h1, h2, List.append_assoc]
  have h3 : tk (t.key.size : Int).toNat ⟨txt t.key ++ (twoL t.no ++ r), true⟩ = (txt t.key, ⟨twoL t.no ++ r, true⟩) := by
    rw [Int.toNat_natCast, ← txt_len]
    exact tk_app _ _
  rw [h3]
  obtain ⟨h4, h5⟩ := two_app t.no r
  dsimp only
  rw [h4, h5, strI_txt]
theorem d_app (X : Nx) (z : Int) (r : List Int) : dStep (X, ⟨twoL z ++ r, true⟩) = (⟨X.keys, X.recs, X.kids ++ [z]⟩, ⟨r, true⟩) := by
  obtain ⟨h4, h5⟩ := two_app z r
  unfold dStep
  dsimp only
  rw [h4, h5]
theorem it_front (F : Nx × St → Nx × St) (p : Nx × St) : ∀ n, itG false F (n + 1) p = itG false F n (F p)
  | 0 => rfl
  | n + 1 => by
    have ih := it_front F p n
    show F (itG false F (n + 1) p) = F (itG false F n (F p))
    rw [ih]
theorem itk (r : List Int) : ∀ (l : List Te) (X : Nx), itG false kStep l.length (X, ⟨l.flatMap kvB ++ r, true⟩) = (⟨X.keys ++ l.map Te.key, X.recs ++ l.map Te.no, X.kids⟩, ⟨r, true⟩)
  | [], X => by simp [itG]
  | t :: l, X => by
    rw [List.length_cons, it_front, List.flatMap_cons, List.append_assoc, k_app, itk r l]
    simp
theorem itd (r : List Int) : ∀ (l : List Int) (X : Nx), itG false dStep l.length (X, ⟨l.flatMap twoL ++ r, true⟩) = (⟨X.keys, X.recs, X.kids ++ l⟩, ⟨r, true⟩)
  | [], X => by simp [itG]
  | t :: l, X => by
    rw [List.length_cons, it_front, List.flatMap_cons, List.append_assoc, d_app, itd r l]
    simp
theorem node_back {x : Nx} (h : okN x) (r : List Int) : nodeF false ⟨ndB x ++ r, true⟩ = (x, ⟨r, true⟩) := by
  unfold nodeF node0 ndB
  rw [List.cons_append, List.cons_append]
  obtain ⟨h1, h2⟩ := one_app (x.keys.length : Int) ((x.kids.length : Int) :: ((ents x).flatMap kvB ++ x.kids.flatMap twoL ++ r))
  obtain ⟨h3, h4⟩ := one_app (x.kids.length : Int) ((ents x).flatMap kvB ++ x.kids.flatMap twoL ++ r)
  rw [h1, h2, h3, h4, Int.toNat_natCast, Int.toNat_natCast, List.append_assoc]
  have e1 := itk (x.kids.flatMap twoL ++ r) (ents x) ⟨[], [], []⟩
  rw [ents_len h.1] at e1
  rw [e1, ents_keys h.1, ents_recs h.1, itd]
  simp
theorem itN_front (p : List Nx × St) (hp : p.2.ok = true) : ∀ n, itN false (n + 1) p = itN false n (p.1 ++ [(nodeF false p.2).1], (nodeF false p.2).2)
  | 0 => by
    show (if p.2.ok = false then p else _) = _
    rw [hp, if_neg (by decide)]
    rfl
  | n + 1 => by
    have ih := itN_front p hp n
    rw [itN, ih]
    rfl
theorem itn (r : List Int) : ∀ (l acc : List Nx), (∀ x ∈ l, okN x) → itN false l.length (acc, ⟨l.flatMap ndB ++ r, true⟩) = (acc ++ l, ⟨r, true⟩)
  | [], acc, _ => by simp [itN]
  | x :: l, acc, h => by
    rw [List.length_cons, itN_front _ rfl, List.flatMap_cons, List.append_assoc]
    dsimp only
    rw [node_back (h x List.mem_cons_self), itn r l _ (fun y hy => h y (List.mem_cons_of_mem _ hy))]
    simp
theorem read_back {xs : List Nx} (h0 : wrongX xs = 0) : readF false (bytesX xs) = (xs, ⟨[], true⟩) := by
  unfold readF bytesX
  obtain ⟨h1, h2⟩ := two_app (xs.length : Int) (xs.flatMap ndB)
  rw [h1, h2, Int.toNat_natCast]
  have := itn [] xs [] (okN_all h0)
  rw [List.append_nil] at this
  rw [this]
  rfl
theorem rd_back {xs : List Nx} (h0 : wrongX xs = 0) : rdX (bytesX xs) = xs ∧ rdE (bytesX xs) = 0 := by
  rcases rd_of (g := false) (bytesX xs) with ⟨-, e1, e2⟩ | ⟨hc, -⟩
  · rw [read_back h0] at e1
    exact ⟨e1, e2⟩
  · rw [read_back h0] at hc
    exact absurd ⟨rfl, rfl, h0⟩ hc
theorem isB_app {a b : List Int} (h1 : isB a) (h2 : isB b) : isB (a ++ b) := fun x hx => by
  rcases List.mem_append.1 hx with h | h
  · exact h1 x h
  · exact h2 x h
theorem isB_cons {a : Int} {b : List Int} (h1 : 0 ≤ a ∧ a ≤ 255) (h2 : isB b) : isB (a :: b) := fun x hx => by
  rcases List.mem_cons.1 hx with rfl | h
  · exact h1
  · exact h2 x h
theorem isB_nil : isB [] := fun x hx => by cases hx
theorem two_isB {z : Int} (h : 0 ≤ z ∧ z ≤ 65535) : isB (twoL z) := isB_cons (by omega) (isB_cons (by omega) isB_nil)
theorem flat_isB {α : Type} {F : α → List Int} : ∀ {l : List α}, (∀ x ∈ l, isB (F x)) → isB (l.flatMap F)
  | [], _ => isB_nil
  | x :: l, h => by rw [List.flatMap_cons]; exact isB_app (h x List.mem_cons_self) (flat_isB fun y hy => h y (List.mem_cons_of_mem _ hy))
theorem kv_isB {t : Te} (h : okT t = true) : isB (kvB t) := by
  have := okT_is h
  exact isB_cons (by omega) (isB_app (txt_isB _) (two_isB (by omega)))
theorem nd_isB {x : Nx} (h : okN x) : isB (ndB x) := by
  obtain ⟨h1, h2, h3, h4, h5⟩ := h
  exact isB_cons (by omega) (isB_cons (by omega) (isB_app (flat_isB fun t ht => kv_isB (h4 t ht)) (flat_isB fun z hz => two_isB (h5 z hz))))
theorem bytes_isB {xs : List Nx} (h0 : wrongX xs = 0) : isB (bytesX xs) := by
  have := wrong_none.1 h0
  exact isB_app (two_isB (by omega)) (flat_isB fun x hx => nd_isB (okN_all h0 x hx))
theorem flat_lenB {α : Type} {F : α → List Int} {m : Nat} : ∀ {l : List α}, (∀ x ∈ l, (F x).length ≤ m) → (l.flatMap F).length ≤ l.length * m
  | [], _ => by simp
  | x :: l, h => by
    have h1 := h x List.mem_cons_self
    have h2 := flat_lenB (l := l) fun y hy => h y (List.mem_cons_of_mem _ hy)
    rw [List.flatMap_cons, List.length_append, List.length_cons, Nat.succ_mul]
    omega
theorem kv_len {t : Te} (h : okT t = true) : (kvB t).length ≤ 103 := by
  have := okT_is h
  simp only [kvB, twoL, List.length_cons, List.length_append, txt_len, List.length_nil]
  omega
theorem nd_len {x : Nx} (h : okN x) : (ndB x).length ≤ 424 := by
  obtain ⟨h1, h2, h3, h4, h5⟩ := h
  have a := flat_lenB (l := ents x) (F := kvB) (m := 103) fun t ht => kv_len (h4 t ht)
  have b := flat_lenB (l := x.kids) (F := twoL) (m := 2) fun t ht => Nat.le_refl _
  rw [ents_len h1] at a
  simp only [ndB, List.length_cons, List.length_append]
  omega
theorem flat_snoc {α : Type} {F : α → List Int} {l : List α} {k : Nat} (hk : k < l.length) : (l.take (k + 1)).flatMap F = (l.take k).flatMap F ++ F l[k] := by
  rw [List.take_succ_eq_append_getElem hk, List.flatMap_append]
  simp
def OW (w0 w : World) (v : Value) (L : List Int) (p : Nat) (cs : Array Value) (t : TypeId) : Prop := Ext w0 w ∧ w.ownsRow w0.heap.size 5 1 v L.length (bys L) ∧ w.heap[p]? = some (.cells cs t (0, 0)) ∧ t ≠ 5
section
variable {w0 w w' : World} {v : Value} {L M : List Int} {p : Nat} {cs : Array Value} {t : TypeId}
theorem OW.nil (h : Ext w0 w) (hp : w.heap[p]? = some (.cells cs t (0, 0))) (ht : t ≠ 5) : OW w0 w (.slice none 0 0) [] p cs t := ⟨h, World.ownsRow_nil _ _ _ _, hp, ht⟩
theorem OW.up (h : OW w0 w v L p cs t) (hx : Ext w w') : OW w0 w' v L p cs t := ⟨h.1.trans hx, hx.own h.2.1, (hx.block (Array.getElem?_eq_some_iff.1 h.2.2.1).1).trans h.2.2.1, h.2.2.2⟩
theorem OW.swap (h : OW w0 w v L p cs t) {p' : Nat} {cs' : Array Value} {t' : TypeId} (hp : w.heap[p']? = some (.cells cs' t' (0, 0))) (ht : t' ≠ 5) : OW w0 w v L p' cs' t' := ⟨h.1, h.2.1, hp, ht⟩
theorem OW.ne (h : OW w0 w v L p cs t) : v.ownBlock ≠ some p := fun e => by
  obtain ⟨h1, h2, h3, h4⟩ := h
  rcases h2.2 with ⟨rfl, -⟩ | ⟨g, cap, cur, rfl, -, hg, -⟩
  · cases e
  · obtain rfl : g = p := by injection e
    rw [hg] at h3
    injection h3 with h3
    injection h3 with _ h3
    exact h4 h3.symm
theorem OW.grow (h : OW w0 w v L p cs t) (hg : w.grownBy w' v.ownBlock) : Ext w0 w' ∧ w'.heap[p]? = some (.cells cs t (0, 0)) :=
  ⟨h.1.trans' (FR.of_grown hg (f := ob v) (fun k e => by rw [ob_some (by first | exact e | exact e.symm)]; exact Nat.one_pos)) (fun a ha => if_neg (fun e => by have := own_freshB h.2.1 _ e; omega)),
    (hg.block p (Array.getElem?_eq_some_iff.1 h.2.2.1).1 (fun e => h.ne (by first | exact e | exact e.symm))).trans h.2.2.1⟩
theorem OW.app (h : OW w0 w v L p cs t) {A : Option Addr} {c : Nat} (hr : Rd w 1 A M.length c (bys M)) (hl : L.length ≤ 10000000) (hm : M.length ≤ 10000000) :
    ∃ A' n' c' w', Hid (n' = (L ++ M).length) ∧ (Builtin.append_ #[84, 84] 84 #[v, .slice A M.length c]).run Tryz.prog w = .ok (.slice A' n' c') w' ∧ OW w0 w' (.slice A' n' c') (L ++ M) p cs t := by
  obtain ⟨i0, hi, hz0, hz1, hz2⟩ := info_parts infoU
  obtain ⟨v', w', ha, ho, hg, -⟩ := app_at w w0.heap.size 84 84 5 i0 _ 1 1 Tryz.underlying84 hi hz0 hz1 hz2 rfl (by decide) _ _ _ h.2.1 _ M.length c _ hr (bys_one M) (by unfold maxLen; omega) (by omega) h.1.size
  rw [← bys_append, ← List.length_append] at ho
  obtain ⟨A', c', rfl, -⟩ := own_form ho
  exact ⟨A', _, c', w', rfl, ha, (h.grow hg).1, ho, (h.grow hg).2, h.2.2.2⟩
theorem strCells_txt (s : ByteArray) : Lib.strCells s = bys (txt s) := by simp [Lib.strCells, bys, txt]
theorem OW.appS (h : OW w0 w v L p cs t) (s : ByteArray) (hl : L.length ≤ 10000000) (hm : s.size ≤ 10000000) :
    ∃ A' n' c' w', Hid (n' = (L ++ txt s).length) ∧ (Builtin.append_ #[84, 9] 84 #[v, .string s]).run Tryz.prog w = .ok (.slice A' n' c') w' ∧ OW w0 w' (.slice A' n' c') (L ++ txt s) p cs t := by
  obtain ⟨i0, hi, hz0, hz1, hz2⟩ := info_parts infoU
  obtain ⟨v', w', ha, ho, hg, -⟩ := Lib.run_append_own_string (P := Tryz.prog) w w0.heap.size 84 9 84 5 i0 Tryz.underlying84 Tryz.underlying9 hi hz0 hz1 hz2 _ _ _ h.2.1 s (by unfold maxLen; omega) (by omega) h.1.size
  rw [strCells_txt, ← bys_append, ← txt_len, ← List.length_append] at ho
  obtain ⟨A', c', rfl, -⟩ := own_form ho
  exact ⟨A', _, c', w', rfl, ha, (h.grow hg).1, ho, (h.grow hg).2, h.2.2.2⟩
theorem OW.rd (h : OW w0 w v L p cs t) (hb : isB L) : ∃ A c, v = .slice A L.length c ∧ RdB w A L.length c L := by
  obtain ⟨A, c, e, hr⟩ := own_rd h.2.1
  exact ⟨A, c, e, hr, hb⟩
end
theorem rd_new2 (w : World) (a b : Value) : Rd (w.alloc (.cells #[a, b] 5)) 1 (some ⟨w.heap.size, 0, none⟩) 2 2 [a, b] := by
  have hnew := heap_alloc_new w (.cells #[a, b] 5)
  exact ⟨rfl, Nat.le_refl _, by decide, fun _ => ⟨_, rfl, fun j u hu => by
    rw [lit_add, Nat.zero_add, Lib.cell_of_heap hnew]
    simpa using hu⟩⟩
def GiveOW (w0 : World) (L : List Int) (p : Nat) (cs : Array Value) (t : TypeId) (e : Ending) (w' : World) : Prop := ∃ A n c, e = .returned (.slice A n c) ∧ Hid (n = L.length) ∧ OW w0 w' (.slice A n c) L p cs t
theorem ptwo_any (w0 w : World) (v : Value) (L : List Int) (z : Int) (p : Nat) (cs : Array Value) (t : TypeId) (h : OW w0 w v L p cs t) (hl : L.length ≤ 9000000) (hz : 0 ≤ z ∧ z ≤ 65535) : Calls Tryz.prog 64 #[v, .int .i64 z] w (GiveOW w0 (L ++ twoL z) p cs t) := by
  have hw1 : IntKind.u8.wrap z = z % 256 := by rw [IntKind.wrap_u8]
  have hw2 : IntKind.u8.wrap (z / 256) = z / 256 := by rw [IntKind.wrap_u8]; omega
  have hx := (Ext.refl w).alloc_right (.cells #[.int .u8 (z % 256), .int .u8 (z / 256)] 5)
  obtain ⟨A', n', c', w', hn, happ, hO⟩ := (h.up hx).app (M := twoL z) (rd_new2 w _ _) (by omega) (by simp [twoL])
  obtain ⟨Av, cv, rfl, -⟩ := own_form h.2.1
  replace happ := hid happ
  replace hO := hid hO
  clear hx h
  go_enter Tryz.func64, Tryz.ntmps64
  go_wp2_with (at_builtin; refine wpList_app rfl _ _ 84 84 rfl _ _ rfl rfl _ happ.out ?_)
  go_wp2
  go_ret
  exact ⟨A', n', c', rfl, hn, hO.out⟩
end Go.Proofs.YtjjikkhhlpikbaaGreatDoor
