/-
  The nodes that are made of an index.
-/
import Derived.Test.YtpijfiaecicpfaaCa
namespace Go.Proofs.Ytpijfiaecicpfaa
open Go.RowKit Go.Shelf
set_option linter.unusedVariables false
set_option linter.unusedSimpArgs false
/-- A node that gets its kids. -/
structure MK (w wr : World) (h p : Nat) (lv kv : Value) (l : List Te) (ps : List Nat) (ks : List BT) (g : Nat → Nat) : Prop where
  hp : wr.heap[p]? = some (.cells #[lv, kv] 105 (0, 0))
  ol : wr.ownsRow 0 71 2 lv l.length (tents l)
  ok : wr.ownsRow 0 81 1 kv ps.length (ptrs ps)
  kk : Ks (TN wr h) ps ks g
  nd : ∀ a, one1 p a + ob lv a + ob kv a + g a ≤ 1
  lo : ∀ a, a < w.heap.size → one1 p a + ob lv a + ob kv a + g a = 0
  ex : Ext w wr
section
variable {w wr w' : World} {h p : Nat} {lv kv : Value} {l : List Te} {ps : List Nat} {ks : List BT} {g : Nat → Nat}
theorem MK.up (H : MK w wr h p lv kv l ps ks g) (hx : Ext wr w') : MK w w' h p lv kv l ps ks g :=
  ⟨(hx.block (Array.getElem?_eq_some_iff.1 H.hp).1).trans H.hp, hx.own H.ol, hx.own H.ok, H.kk.frame (f := fun _ => 0) (fun p T g hT h0 => hT.ext hx) (fun _ _ => rfl), H.nd, H.lo, H.ex.trans hx⟩
/-- A kid more. -/
theorem MK.step (H : MK w wr h p lv kv l ps ks g) {w1 w3 : World} {q : Nat} {K : BT} {f1 : Nat → Nat} {kv' : Value} (hx : Ext wr w1) (hT : TN w1 h q K f1) (h1 : ∀ a, f1 a ≤ 1) (h0 : ∀ a, a < wr.heap.size → f1 a = 0)
    {w2 : World} (hx2 : Ext w1 w2) (hg : w2.grownBy w3 kv.ownBlock) (ho : w3.ownsRow 0 81 1 kv' (ps ++ [q]).length (ptrs (ps ++ [q]))) (hl : kv'.ownBlock = kv.ownBlock ∨ ∀ k, kv'.ownBlock = some k → w2.heap.size ≤ k) : MK w (w3.setCell ⟨p, 1, none⟩ kv') h p lv kv' l (ps ++ [q]) (ks ++ [K]) (fun a => g a + f1 a) := by
  have H2 := (H.up hx).up hx2
  have hT2 := hT.ext hx2
  have hsz1 := hx.size
  have hsz2 := hx2.size
  have hpl := (Array.getElem?_eq_some_iff.1 H.hp).1
  have hb1 := TN.bound hT
  have hbp : ∀ a, wr.heap.size ≤ a → one1 p a = 0 ∧ ob lv a = 0 ∧ ob kv a = 0 ∧ g a = 0 := fun a ha =>
    ⟨if_neg (by omega), own_bound H.ol ha, own_bound H.ok ha, Ks.bound (fun p T g hT => TN.bound hT) H.kk a ha⟩
  have hF1 : FR (ob kv) w2 w3 := FR.of_grown hg (fun k e => by rw [ob_some (by first | exact e | exact e.symm)]; exact Nat.one_pos)
  have hF : FR (fun a => ob kv a + one1 p a) w2 (w3.setCell ⟨p, 1, none⟩ kv') := (hF1.mono (fun k _ h0 => by show ob kv k = 0; omega)).trans (fr_set (b := p)) (fun k _ h0 => by show one1 p k = 0; omega)
  have hk'p : ob kv' p = 0 := by
    have hnp := H.nd p
    rw [one_self] at hnp
    rcases hl with e | e
    · rw [ob_same e]; omega
    · exact if_neg (fun e2 => by have := e p e2; omega)
  have hp3 : w3.heap[p]? = some (.cells #[lv, kv] 105 (0, 0)) := by
    have hnp := H.nd p
    rw [one_self] at hnp
    exact (hg.block p (Array.getElem?_eq_some_iff.1 H2.hp).1 (fun e => by rw [ob_some e.symm] at hnp; omega)).trans H2.hp
  refine ⟨node_set1 hp3 kv', hF.own H2.ol (fun k e => ?_), own_set ho (ob_zero hk'p) 1 kv', ?_, fun a => ?_, fun a ha => ?_, ?_⟩
  · have := H.nd k
    rw [ob_some e] at this
    show ob kv k + one1 p k = 0
    omega
  · refine Ks.app (H2.kk.frame (f := fun a => ob kv a + one1 p a) (fun p T g hT h9 => hT.frame hF h9) (fun a ha => ?_)) ?_
    · have := H.nd a
      show ob kv a + one1 p a = 0
      omega
    · refine ⟨f1, fun _ => 0, hT2.frame hF (fun a ha => ?_), fun _ => rfl, fun a => rfl⟩
      have h9 : wr.heap.size ≤ a := by
        rcases Nat.lt_or_ge a wr.heap.size with h9 | h9
        · rw [h0 a h9] at ha; omega
        · exact h9
      have := hbp a h9
      show ob kv a + one1 p a = 0
      omega
  · show one1 p a + ob lv a + ob kv' a + (g a + f1 a) ≤ 1
    have hn := H.nd a
    have hf := h1 a
    rcases Nat.lt_or_ge a wr.heap.size with h9 | h9
    · have := h0 a h9
      rcases hl with e | e
      · rw [ob_same e]; omega
      · rw [show ob kv' a = 0 from if_neg (fun e2 => by have := e a e2; omega)]; omega
    · have := hbp a h9
      rcases hl with e | e
      · rw [ob_same e]; omega
      · by_cases h8 : w1.heap.size ≤ a
        · have := hb1 a h8
          have : ob kv' a ≤ 1 := by unfold ob; split <;> omega
          omega
        · rw [show ob kv' a = 0 from if_neg (fun e2 => by have := e a e2; omega)]; omega
  · show one1 p a + ob lv a + ob kv' a + (g a + f1 a) = 0
    have h9 := H.ex.size
    have := H.lo a ha
    have := h0 a (by omega)
    rcases hl with e | e
    · rw [ob_same e]; omega
    · rw [show ob kv' a = 0 from if_neg (fun e2 => by have := e a e2; omega)]; omega
  · refine H2.ex.trans' hF (fun a ha => ?_)
    have := H.lo a ha
    show ob kv a + one1 p a = 0
    omega
end
/-- It returns a new node of a tree. -/
def GiveTN (h : Nat) (T : BT) (w : World) (e : Ending) (w' : World) : Prop := ∃ p f, e = .returned (.pointer (some ⟨p, 0, none⟩)) ∧ TN w' h p T f ∧ (∀ a, f a ≤ 1) ∧ (∀ a, a < w.heap.size → f a = 0) ∧ Ext w w'
theorem MK.give {w w1 wr : World} {h p : Nat} {lv kv : Value} {l : List Te} {ps : List Nat} {ks : List BT} {g : Nat → Nat} (H : MK w1 wr h p lv kv l ps ks g) (hx : Ext w w1) : GiveTN (h + 1) (.nd l ks) w (.returned (.pointer (some ⟨p, 0, none⟩))) wr :=
  ⟨p, _, rfl, ⟨lv, kv, ps, g, H.hp, H.ol, H.ok, H.kk, fun a => rfl⟩, H.nd, fun a ha => H.lo a (Nat.lt_of_lt_of_le ha hx.size), hx.trans H.ex⟩
theorem MK.give0 {w w1 wr : World} {h p : Nat} {lv kv : Value} {l : List Te} {ps : List Nat} {ks : List BT} {g : Nat → Nat} (H : MK w1 wr h p lv kv l ps ks g) (h0 : ks = []) (hx : Ext w w1) : GiveTN 0 (.nd l []) w (.returned (.pointer (some ⟨p, 0, none⟩))) wr := by
  subst h0
  have hps : ps = [] := List.eq_nil_of_length_eq_zero (by have := H.kk.len; simpa using this)
  subst hps
  have hg : ∀ a, g a = 0 := H.kk
  exact ⟨p, fun a => one1 p a + ob lv a + ob kv a, rfl, ⟨rfl, lv, kv, H.hp, H.ol, H.ok, fun a => rfl⟩, fun a => by have := H.nd a; have := hg a; show one1 p a + ob lv a + ob kv a ≤ 1; omega, fun a ha => by have := H.lo a (Nat.lt_of_lt_of_le ha hx.size); have := hg a; show one1 p a + ob lv a + ob kv a = 0; omega, hx.trans H.ex⟩
theorem MK.start {w w1 : World} {lv : Value} {l : List Te} (h : Nat) (ho : w1.ownsRow w.heap.size 71 2 lv l.length (tents l)) (hx : Ext w w1) : MK w (w1.alloc (.cells #[lv, .slice none 0 0] 105)) h w1.heap.size lv (.slice none 0 0) l [] [] (fun _ => 0) := by
  have hnil : ∀ a, ob (.slice none 0 0) a = 0 := fun a => if_neg (by intro e; cases e)
  have hsz := hx.size
  refine ⟨heap_alloc_new w1 _, own_baseK (ho.alloc _) (Nat.zero_le _), World.ownsRow_nil _ _ _ _, fun a => rfl, fun a => ?_, fun a ha => ?_, hx.alloc_right _⟩
  · rw [hnil a]
    by_cases e : a = w1.heap.size
    · rw [e, one_self, own_bound ho (Nat.le_refl _)]; exact Nat.le_refl _
    · rw [show one1 w1.heap.size a = 0 from if_neg e]
      have : ob lv a ≤ 1 := by unfold ob; split <;> omega
      omega
  · rw [hnil a, show one1 w1.heap.size a = 0 from if_neg (by omega), show ob lv a = 0 from if_neg (fun e => by have := own_freshB ho _ e; omega)]
set_option maxRecDepth 100000 in
set_option maxHeartbeats 4000000 in
theorem made_step (A : Option Addr) (n c : Nat) (xs : List Nx) (k h : Nat) (w : World) (hr : RX w A n c xs) (hk : k < n) (hs : shapeB (xth xs k) = true) (okA : okP xs.length (allK xs)) (Q : World → Ending → World → Prop)
    (hC : Hid (∀ q, q < (xth xs k).kids.length → ∀ w', Ext w w' → Calls Try.prog 50 #[.agg #[.slice A n c], .int .i64 (kdn xs k q : Int)] w' (GiveTN h (btx xs h (kdn xs k q)) w')))
    (hend : Hid (∀ (w1 wr : World) (p : Nat) (lv kv : Value) (ps : List Nat) (g : Nat → Nat), Ext w w1 → MK w1 wr h p lv kv (ents (xth xs k)) ps ((kd xs k).map (btx xs h)) g → Q w (.returned (.pointer (some ⟨p, 0, none⟩))) wr)) : Calls Try.prog 50 #[.agg #[.slice A n c], .int .i64 k] w (Q w) := by
  obtain ⟨i0, hi0, hz0, hz1, hz2⟩ := info_parts infoK
  have hm := RX.max hr
  obtain ⟨ad0, A1, c1, A2, c2, A3, c3, rfl, y0, y1, y2, r1, r2, r3⟩ := hr.at_ hk
  have hx1 := (Ext.refl w).alloc_right (.cells #[.slice (some ad0) n c] 37)
  have hb0 := heap_alloc_new w (.cells #[.slice (some ad0) n c] 37)
  have zb : (w.alloc (.cells #[.slice (some ad0) n c] 37)).cell? ⟨w.heap.size, 0, none⟩ = some (.slice (some ad0) n c) := by rw [Lib.cell_of_heap hb0]; rfl
  have lb := World.block_lt_of_cell? _ _ zb
  dsimp only at lb
  obtain ⟨s1, s4, s3⟩ := shape_is hs
  have hl := ents_len s1
  rw [s1] at y1 r2
  have hks : Hid (∀ q, q < (xth xs k).kids.length → ith (xth xs k).kids q = (kdn xs k q : Int) ∧ ((kd xs k).map (btx xs h)).take (q + 1) = ((kd xs k).map (btx xs h)).take q ++ [btx xs h (kdn xs k q)]) := fun q hq => by
    obtain ⟨e1, e2, e3⟩ := kdn_is okA hq
    refine ⟨e1, ?_⟩
    have hql : q < ((kd xs k).map (btx xs h)).length := by rw [List.length_map, kd_len]; exact hq
    rw [List.take_succ_eq_append_getElem hql, List.getElem_map, (List.getElem?_eq_some_iff.1 e3).2]
  have hkl : Hid (((kd xs k).map (btx xs h)).length = (xth xs k).kids.length) := by unfold Hid; rw [List.length_map, kd_len]
  have hEn := hid (fun w' (hx : Ext w w') => entsN_any A1 A2 A3 (xth xs k).keys.length c1 c2 (xth xs k).kids.length c3 (ents (xth xs k)) w' (by omega) hl (by rw [ents_keys s1]; exact r1.ext hx) (by rw [ents_recs s1]; exact RdI.ext r2 hx))
  have hkl5 : (xth xs k).kids.length ≤ 5 := by omega
  have hki : (k : Int) < (n : Int) := by omega
  replace y0 := hx1.cell y0
  replace y1 := hx1.cell y1
  replace y2 := hx1.cell y2
  replace r3 := hid r3
  replace hx1 := hid hx1
  clear hb0 hr hs s1 s4 s3 hl r1 r2 okA
  generalize ents (xth xs k) = l at *
  generalize (xth xs k).keys.length = a at *
  generalize (kd xs k).map (btx xs h) = ks at *
  generalize hkn : (xth xs k).kids.length = d at *
  replace hkn := hid hkn
  go_enter Try.func50, Try.ntmps50
  go_upto_region 1 with fail
  obtain ⟨b, hb⟩ : ∃ b, b = w.heap.size := ⟨_, rfl⟩
  rw [← hb] at zb lb
  simp only [← hb]
  replace hb := hid hb
  generalize w.alloc (.cells #[.slice (some ad0) n c] 37) = w1 at *
  go_wp2_with fail
  refine (hEn.out w1 hx1.out).mono ?_
  rintro e w2 ⟨lv, rfl, own2, hx2⟩
  have hM0 := hid (MK.start h own2 hx2)
  have hxa := hx2.trans ((Ext.refl w2).alloc_right (.cells #[lv, .slice none 0 0] 105))
  have zb1 := zb
  have y21 := y2
  replace zb := hxa.cell zb
  replace y2 := hxa.cell y2
  have lb2 := Nat.lt_of_lt_of_le lb hxa.size
  obtain ⟨Al, cl, rfl, -⟩ := own_form own2
  go_upto_region 3 with fail
  obtain ⟨p, hp⟩ : ∃ p, p = w2.heap.size := ⟨_, rfl⟩
  rw [← hp] at hM0
  simp only [← hp]
  replace hp := hid hp
  clear own2 hx2 hxa zb y2 hEn lb2 y0 y1
  generalize w2.alloc (.cells #[.slice Al l.length cl, .slice none 0 0] 105) = w3 at *
  go_loopw [23] (fun i wr => ∃ (q : Nat) (kv : Value) (ps : List Nat) (g : Nat → Nat), q ≤ d ∧ i = .int .i64 q ∧ Hid (MK w1 wr h p (.slice Al l.length cl) kv l ps (ks.take q) g)) (fun i _ => d - (intOf i).toNat)
  case atStart => exact ⟨0, _, _, _, by omega, rfl, by rw [List.take_zero]; exact hM0⟩
  case round =>
    clear hM0
    obtain ⟨q, kv, ps, g, hq, rfl, hM⟩ := hrel
    by_cases hlt : q < d
    · obtain ⟨Ak, ck, rfl, -⟩ := own_form hM.out.ok
      obtain ⟨kad, rfl, zk⟩ := rdi_at (r3.out.ext (hx1.out.trans hM.out.ex)) hlt
      obtain ⟨e1, e2⟩ := hks.out q hlt
      rw [e1] at zk
      have hst := hid e2
      have hC1 := hid (fun w' (hx : Ext w w') => hC.out q hlt w' hx)
      have hqi : (q : Int) < (d : Int) := by omega
      have hpsl : ps.length ≤ 5 := by have := hM.out.kk.len; rw [this, List.length_take]; omega
      have zbr := hM.out.ex.cell zb1
      have zpr := node_c1 hM.out.hp
      have lp := (Array.getElem?_eq_some_iff.1 hM.out.hp).1
      have lbr := Nat.lt_of_lt_of_le lb hM.out.ex.size
      clear e1 e2
      generalize btx xs h (kdn xs k q) = K at *
      generalize kdn xs k q = u at *
      go_upto_region 5 with fail
      have I0 : (fun w' : World => w'.cell? ⟨b, 0, none⟩ = some (.slice (some ad0) n c) ∧ w'.cell? ⟨p, 1, none⟩ = some (.slice Ak ps.length ck)) wr.drew := ⟨zbr, zpr⟩
      refine region_J (fun w' : World => w'.cell? ⟨b, 0, none⟩ = some (.slice (some ad0) n c) ∧ w'.cell? ⟨p, 1, none⟩ = some (.slice Ak ps.length ck)) 12 (by kernel_rfl) ?_
      replace hM := hid (hM.out.up ((Ext.refl wr).drew_right))
      clear zk zbr zpr lp lbr
      generalize wr.drew = w9 at *
      refine J_take 0 (v := ?vt0) rfl (by kernel_rfl) (by kernel_rfl) (by kernel_rfl) (by kernel_rfl) (fun _ _ _ h => h) (Or.inl ⟨by rfl, ?yt0⟩) I0 ?rt0
      case yt0 => (intro w hSw; obtain ⟨_, _⟩ := hSw; (go_simp; with_reducible rfl))
      simp only [Act.put, List.getElem_toArray, List.getElem_cons_zero, List.getElem_cons_succ, List.setIfInBounds_toArray, List.set_cons_zero, List.set_cons_succ]
      refine J_take 1 (v := ?vt1) rfl (by kernel_rfl) (by kernel_rfl) (by kernel_rfl) (by kernel_rfl) (fun _ _ _ h => h) (Or.inl ⟨by rfl, ?yt1⟩) I0 ?rt1
      case yt1 => (intro w hSw; obtain ⟨_, _⟩ := hSw; (go_simp; with_reducible rfl))
      simp only [Act.put, List.getElem_toArray, List.getElem_cons_zero, List.getElem_cons_succ, List.setIfInBounds_toArray, List.set_cons_zero, List.set_cons_succ]
      refine J_take 2 (v := ?vt2) rfl (by kernel_rfl) (by kernel_rfl) (by kernel_rfl) (by kernel_rfl) (fun _ _ _ h => h) (Or.inl ⟨by rfl, ?yt2⟩) I0 ?rt2
      case yt2 => (intro w hSw; obtain ⟨_, _⟩ := hSw; (go_simp; with_reducible rfl))
      simp only [Act.put, List.getElem_toArray, List.getElem_cons_zero, List.getElem_cons_succ, List.setIfInBounds_toArray, List.set_cons_zero, List.set_cons_succ]
      refine J_take 3 (v := ?vt3) rfl (by kernel_rfl) (by kernel_rfl) (by kernel_rfl) (by kernel_rfl) (fun _ _ _ h => h) (Or.inl ⟨by rfl, ?yt3⟩) I0 ?rt3
      case yt3 => (intro w hSw; obtain ⟨_, _⟩ := hSw; (go_simp; with_reducible rfl))
      simp only [Act.put, List.getElem_toArray, List.getElem_cons_zero, List.getElem_cons_succ, List.setIfInBounds_toArray, List.set_cons_zero, List.set_cons_succ]
      refine J_take 4 (v := ?vt4) rfl (by kernel_rfl) (by kernel_rfl) (by kernel_rfl) (by kernel_rfl) (fun _ _ _ h => h) (Or.inl ⟨by rfl, ?yt4⟩) I0 ?rt4
      case yt4 => (intro w hSw; obtain ⟨_, _⟩ := hSw; (go_simp; with_reducible rfl))
      simp only [Act.put, List.getElem_toArray, List.getElem_cons_zero, List.getElem_cons_succ, List.setIfInBounds_toArray, List.set_cons_zero, List.set_cons_succ]
      refine J_take 5 (v := ?vt5) rfl (by kernel_rfl) (by kernel_rfl) (by kernel_rfl) (by kernel_rfl) (fun _ _ _ h => h) (Or.inl ⟨by rfl, ?yt5⟩) I0 ?rt5
      case yt5 => (intro w hSw; obtain ⟨_, _⟩ := hSw; (go_simp; with_reducible rfl))
      simp only [Act.put, List.getElem_toArray, List.getElem_cons_zero, List.getElem_cons_succ, List.setIfInBounds_toArray, List.set_cons_zero, List.set_cons_succ]
      refine J_take 6 (v := ?vt6) rfl (by kernel_rfl) (by kernel_rfl) (by kernel_rfl) (by kernel_rfl) (fun _ _ _ h => h) (Or.inl ⟨by rfl, ?yt6⟩) I0 ?rt6
      case yt6 => (intro w hSw; obtain ⟨_, _⟩ := hSw; (go_simp; with_reducible rfl))
      simp only [Act.put, List.getElem_toArray, List.getElem_cons_zero, List.getElem_cons_succ, List.setIfInBounds_toArray, List.set_cons_zero, List.set_cons_succ]
      refine J_one 7 rfl (by kernel_rfl) (fun K hK => ?_)
      go_simp
      refine (hC1.out w9 (hx1.out.trans hM.out.ex)).mono ?_
      rintro e' w10 ⟨pk, f1, rfl, hT1, hf1, hf0, hx10⟩
      have I1 : (fun w' : World => w'.cell? ⟨b, 0, none⟩ = some (.slice (some ad0) n c) ∧ w'.cell? ⟨p, 1, none⟩ = some (.slice Ak ps.length ck)) w10 := ⟨hx10.cell I0.1, hx10.cell I0.2⟩
      have hxb := (Ext.refl w10).alloc_right (.cells #[.pointer (some ⟨pk, 0, none⟩)] 81)
      have hRn : Rd (w10.alloc (.cells #[.pointer (some ⟨pk, 0, none⟩)] 81)) 1 (some ⟨w10.heap.size, 0, none⟩) 1 1 (ptrs [pk]) := rd_new1 w10 _ _
      obtain ⟨kv', w12, happ, own3, hgr, hloc⟩ := app_at _ 0 103 103 81 i0 _ 1 8 Try.underlying103 hi0 hz0 hz1 hz2 rfl (by decide) _ _ _ ((hM.out.up hx10).up hxb).ok _ 1 1 _ hRn (ptrs_one [pk]) (by unfold maxLen; omega) (by omega) (Nat.zero_le _)
      rw [← ptrs_append] at own3
      have hlp : (ps ++ [pk]).length = ps.length + 1 := by simp
      have hMs := hid (hM.out.step hx10 hT1 hf1 hf0 hxb hgr (by rw [hlp]; exact own3) hloc)
      have hp12 : w12.heap[p]? = some (.cells #[.slice Al l.length cl, .slice Ak ps.length ck] 105 (0, 0)) := by
        have hnp := hM.out.nd p
        rw [one_self] at hnp
        exact (hgr.block p (Array.getElem?_eq_some_iff.1 ((hM.out.up hx10).up hxb).hp).1 (fun e => by rw [ob_some e.symm] at hnp; omega)).trans ((hM.out.up hx10).up hxb).hp
      obtain ⟨Ak', ck', rfl, -⟩ := own_form own3
      have zp12 := node_c1 hp12
      have zf12 := Lib.frozen_of_heap hp12 1
      have lp12 := (Array.getElem?_eq_some_iff.1 hp12).1
      have zb12 : w12.cell? ⟨b, 0, none⟩ = some (.slice (some ad0) n c) := by
        have hnb := hM.out.lo b lb
        exact (World.cell?_of_block (a := ⟨b, 0, none⟩) (hgr.block b (Nat.lt_of_lt_of_le lb (Nat.le_trans hM.out.ex.size (hx10.trans hxb).size)) (fun e => by rw [ob_some e.symm] at hnb; omega))).trans (hxb.cell I1.1)
      have I2 : (fun w' : World => w'.cell? ⟨b, 0, none⟩ = some (.slice (some ad0) n c) ∧ w'.cell? ⟨p, 1, none⟩ = some (.slice Ak ps.length ck)) w12 := ⟨zb12, zp12⟩
      have I1' : (fun w' : World => w'.cell? ⟨b, 0, none⟩ = some (.slice (some ad0) n c) ∧ w'.cell? ⟨p, 1, none⟩ = some (.slice Ak ps.length ck)) (w10.alloc (.cells #[.pointer (some ⟨pk, 0, none⟩)] 81)) := ⟨hxb.cell I1.1, hxb.cell I1.2⟩
      replace happ := hid happ
      clear hT1 hf1 hf0 own3 hgr hloc hRn hp12 hM zb12 hlp hx10 hxb I0
      refine hK _ _ ⟨fun _ => I1, ?_⟩
      clear hK K
      try simp only [Act.put, List.getElem_toArray, List.getElem_cons_zero, List.getElem_cons_succ, List.setIfInBounds_toArray, List.set_cons_zero, List.set_cons_succ]
      refine J_one 8 rfl (by kernel_rfl) (fun K hK => ?_)
      go_simp
      refine hK _ _ ⟨fun _ => I1', ?_⟩
      clear hK K
      try simp only [Act.put, List.getElem_toArray, List.getElem_cons_zero, List.getElem_cons_succ, List.setIfInBounds_toArray, List.set_cons_zero, List.set_cons_succ]
      generalize w10.heap.size = qb at *
      generalize w10.alloc (.cells #[.pointer (some ⟨pk, 0, none⟩)] 81) = w11 at *
      refine J_one 9 rfl (by kernel_rfl) (fun K hK => ?_)
      refine step_run rfl _ (ex_append _ _ _ _ rfl _ _ (by simp [Act.eval, Act.put]) (by simp [Act.eval, Act.put]) _ happ.out) ?_
      refine hK _ _ ⟨fun _ => I2, ?_⟩
      clear hK K happ I1 I1'
      try simp only [Act.put, List.getElem_toArray, List.getElem_cons_zero, List.getElem_cons_succ, List.setIfInBounds_toArray, List.set_cons_zero, List.set_cons_succ]
      refine J_one 10 rfl (by kernel_rfl) (fun K hK => ?_)
      go_simp
      refine hK _ _ ⟨fun _ => I2, ?_⟩
      clear hK K
      try simp only [Act.put, List.getElem_toArray, List.getElem_cons_zero, List.getElem_cons_succ, List.setIfInBounds_toArray, List.set_cons_zero, List.set_cons_succ]
      refine J_one 11 rfl (by kernel_rfl) (fun K hK => ?_)
      go_simp
      refine hK _ _ ⟨fun _ => I2, ?_⟩
      clear hK K
      try simp only [Act.put, List.getElem_toArray, List.getElem_cons_zero, List.getElem_cons_succ, List.setIfInBounds_toArray, List.set_cons_zero, List.set_cons_succ]
      refine J_one 12 rfl (by kernel_rfl) (fun K hK => ?_)
      go_simp
      refine hK _ _ ⟨fun h => absurd rfl h, ?_⟩
      clear hK K
      refine J_done (by kernel_rfl) (OnlyOn.normal ?_)
      clear I2 zp12 zf12 lp12
      go_wp2_with fail
      go_roundw
      case rel => exact ⟨q + 1, _, _, _, by omega, by go_num, by rw [hst.out]; exact hMs⟩
      case measure => simp [intOf]; omega
    · obtain rfl : q = d := by omega
      have hfin := hid (hend.out w1 wr p _ kv ps g hx1.out (by have h9 := hM.out; rw [List.take_of_length_le (by rw [hkl.out]; exact Nat.le_refl _)] at h9; exact h9))
      go_wp2
      exact hfin.out
theorem made_any (n : Nat) (xs : List Nx) (hok : okP n (allK xs)) (hs : shpX xs) : ∀ (h k : Nat) (A : Option Addr) (c : Nat) (w : World), RX w A n c xs → UD xs h k → Calls Try.prog 50 #[.agg #[.slice A n c], .int .i64 k] w (GiveTN h (btx xs h k) w) := by
  intro h
  induction h with
  | zero =>
    intro k A c w hr hU
    have hl := hr.len
    have hk0 : (xth xs k).kids.length = 0 := by rw [← kd_len, hU.2]; rfl
    refine made_step A n c xs k 0 w hr (by have := hU.1; omega) (hs k hU.1) (by rw [hl]; exact hok) (fun w => GiveTN 0 (btx xs 0 k) w) (fun q hq => by omega) (fun w1 wr p lv kv ps g hx hM => ?_)
    exact hM.give0 (by rw [hU.2]; rfl) hx
  | succ h ih =>
    intro k A c w hr hU
    have hl := hr.len
    have okA : okP xs.length (allK xs) := by rw [hl]; exact hok
    refine made_step A n c xs k h w hr (by have := hU.1; omega) (hs k hU.1) okA (fun w => GiveTN (h + 1) (btx xs (h + 1) k) w) (fun q hq w' hx => ?_) (fun w1 wr p lv kv ps g hx hM => hM.give hx)
    exact ih _ A c w' (hr.ext hx) (hU.2.2 _ (kdn_is okA hq).2.1)
end Go.Proofs.Ytpijfiaecicpfaa
