/-
  The reference's Read.
-/
import Derived.Test.YtpijfiaecicpfaaCg
namespace Go.Proofs.Ytpijfiaecicpfaa
open Go.RowKit Go.Shelf
set_option linter.unusedVariables false
set_option linter.unusedSimpArgs false
theorem it_stop {F : Nx × St → Nx × St} {p : Nx × St} {n : Nat} (h : (itG true F n p).2.ok = false) : ∀ m, itG true F (n + m) p = itG true F n p
  | 0 => rfl
  | m + 1 => by
    have ih := it_stop h m
    rw [← Nat.add_assoc, itG, ih, stepG, h]
    rfl
theorem kids_it (g : Bool) (p : Nx × St) : ∀ n, (itG g kStep n p).1.kids = p.1.kids
  | 0 => rfl
  | n + 1 => by
    have ih := kids_it g p n
    unfold itG stepG
    split
    · exact ih
    · rw [(k_len _).2.2, ih]
set_option maxRecDepth 100000 in
set_option maxHeartbeats 40000000 in
theorem rRead_any (A : Option Addr) (n c : Nat) (l : List Int) (w : World) (hb : RdB w A n c l) : Calls Try.prog 20 #[.slice A n c] w (GiveRx l w) := by
  obtain ⟨iN, hi0, hi1, hi2, hi3⟩ := info_parts infoAN
  obtain ⟨iS, hS0, hS1, hS2, hS3⟩ := info_parts infoS
  obtain ⟨iI, hI0, hI1, hI2, hI3⟩ := info_parts infoI
  have hisB := hb.2
  have hll := hb.len
  subst hll
  have hA : ∀ ad, A = some ad → 0 < l.length → ad.block < w.heap.size := fun ad e hp => by
    obtain ⟨ad', e', hc⟩ := hb.1.2.2.2 hp
    rw [e] at e'
    injection e' with e'
    subst e'
    have := World.block_lt_of_cell? _ _ (hc 0 _ (List.getElem?_eq_getElem (by rw [bys_len]; exact hp)))
    rwa [block_add] at this
  have hr1 := two_rng (s := ⟨l, true⟩) hisB
  obtain ⟨K, hK⟩ : ∃ K : Nat, twoV ⟨l, true⟩ = (K : Int) := ⟨(twoV ⟨l, true⟩).toNat, by omega⟩
  have hKb : K ≤ 65535 := by omega
  have hRF : Hid (readF true l = itN true K ([], (tk 2 ⟨l, true⟩).2)) := by unfold Hid readF; rw [hK]; rfl
  have hrd := hid (rd_of (g := true) l)
  have hx1 := (Ext.refl w).alloc_right (.cells #[.slice none 0 0] 37)
  have hx2 := (Ext.refl (w.alloc (.cells #[.slice none 0 0] 37))).alloc_right (.cells #[.slice A l.length c, .bool true] 100)
  have hx3 := (Ext.refl ((w.alloc (.cells #[.slice none 0 0] 37)).alloc (.cells #[.slice A l.length c, .bool true] 100))).alloc_right (.cells #[.slice none 0 0] 37)
  have h1 := heap_alloc_new w (.cells #[.slice none 0 0] 37)
  have h2 := heap_alloc_new (w.alloc (.cells #[.slice none 0 0] 37)) (.cells #[.slice A l.length c, .bool true] 100)
  have h3 := heap_alloc_new ((w.alloc (.cells #[.slice none 0 0] 37)).alloc (.cells #[.slice A l.length c, .bool true] 100)) (.cells #[.slice none 0 0] 37)
  have hb3 := hb.ext (hx1.trans (hx2.trans hx3))
  replace h1 := ((hx2.trans hx3).block (Array.getElem?_eq_some_iff.1 h1).1).trans h1
  replace h2 := (hx3.block (Array.getElem?_eq_some_iff.1 h2).1).trans h2
  have hsz : (((w.alloc (.cells #[.slice none 0 0] 37)).alloc (.cells #[.slice A l.length c, .bool true] 100)).alloc (.cells #[.slice none 0 0] 37)).heap.size = w.heap.size + 3 := by simp
  rw [World.size_alloc] at h2
  rw [World.size_alloc, World.size_alloc] at h3
  replace hx1 := hid (hx1.trans (hx2.trans hx3))
  clear hx2 hx3 hb hr1
  replace hK := hid hK
  go_enter Try.func20, Try.ntmps20
  go_upto_region 3 with fail
  obtain ⟨q, hq⟩ : ∃ q, q = w.heap.size := ⟨_, rfl⟩
  obtain ⟨r, hr⟩ : ∃ r, r = q + 1 := ⟨_, rfl⟩
  obtain ⟨yi, hy⟩ : ∃ yi, yi = q + 2 := ⟨_, rfl⟩
  rw [← hq] at h1 h2 h3 hsz hA
  simp only [← hq]
  have e11 : q + 1 + 1 = q + 2 := rfl
  try simp only [e11]
  try rw [e11] at h3
  rw [← hr] at h2
  rw [← hy] at h3
  simp only [← hr, ← hy]
  generalize ((w.alloc (.cells #[.slice none 0 0] 37)).alloc (.cells #[.slice A l.length c, .bool true] 100)).alloc (.cells #[.slice none 0 0] 37) = w1 at *
  clear e11
  have hP0 : Hid (RQ yi w1 r ⟨l, true⟩) := ⟨A, c, h2, hb3, fun ad e hp => by have := hA ad e hp; omega, fun ad e hp => by have := hA ad e hp; omega, by omega⟩
  have hR0 : Hid (RDx w1 w1 r yi (.slice none 0 0) [] [] (fun _ => 0)) := ⟨h3, World.ownsRow_nil _ _ _ _, fun a => rfl, fun a => by
    rw [show ob (.slice none 0 0) a = 0 from if_neg (by intro e; cases e)]
    unfold one1
    split <;> split <;> omega, fun _ _ => rfl, FR.of_ext (Ext.refl _), by omega, by omega⟩
  have hqry : Hid (q < r ∧ r < yi ∧ w1.heap.size = yi + 1 ∧ q = w.heap.size) := by unfold Hid; omega
  replace h1 := hid h1
  have hT := hid (rtwo_any yi r ⟨l, true⟩ w1 hP0.out)
  rw [hK.out] at hT
  clear h2 h3 hb3 hA hq hr hy hsz
  go_wp2_with fail
  refine hT.out.mono ?_
  rintro e w2 ⟨rfl, hP2, hF2⟩
  replace hR0 := hid (hR0.out.up hF2)
  replace hP2 := hid hP2
  clear hT hP0 hF2
  go_wp2_with fail
  generalize hp0 : (([], (tk 2 ⟨l, true⟩).2) : List Nx × St) = p0 at *
  have hP2' : Hid (RQ yi w2 r p0.2) := by rw [← hp0]; exact hP2.out
  have hR0' : Hid (RDx w1 w2 r yi (.slice none 0 0) p0.1 [] (fun _ => 0)) := by rw [← hp0]; exact hR0.out
  have hpl : Hid (p0.1.length = 0) := by rw [← hp0]; rfl
  clear hP2 hR0 hp0
  go_loopw [6] (fun i wr => ∃ (j k : Nat) (z : Int) (v : Value) (vs : List V3) (g : Nat → Nat), j + k = K ∧ z = k ∧ i = .int .i64 z ∧ Hid (RDx w1 wr r yi v (itN true j p0).1 vs g) ∧ Hid (RQ yi wr r (itN true j p0).2)) (fun i _ => (intOf i).toNat)
  case atStart => exact ⟨0, K, _, _, _, _, by omega, rfl, rfl, hR0', hP2'⟩
  case round =>
    clear hP2' hR0'
    obtain ⟨j, k, z, v, vs, g, hjk, hz, rfl, hR, hP⟩ := hrel
    have hlen := itN_len (g := true) (p := p0) j
    rw [hpl.out] at hlen
    rcases Nat.eq_zero_or_pos k with hk9 | hk9
    · have hend : Hid (itN true K p0 = itN true j p0) := by rw [show j = K by omega]; rfl
      have hz3 : z = 0 := by omega
      clear hz
      subst hz3
      have hRFp := hRF.out.trans hend.out
      have hnB := hrd.out
      rw [hRFp] at hnB
      obtain ⟨A5, c5, hr5, hrb, -, -, -⟩ := hP.out
      have zr0 : wr.cell? ⟨r, 0, none⟩ = some (.slice A5 (itN true j p0).2.l.length c5) := by rw [Lib.cell_of_heap hr5]; rfl
      have zr1 : wr.cell? ⟨r, 1, none⟩ = some (.bool (itN true j p0).2.ok) := by rw [Lib.cell_of_heap hr5]; rfl
      have lr := (Array.getElem?_eq_some_iff.1 hr5).1
      have hrm := (Rd.max hrb.1).1
      obtain ⟨Av, cv, rfl, hRX⟩ := hR.out.reads
      have zy : wr.cell? ⟨yi, 0, none⟩ = some (.slice Av (itN true j p0).1.length cv) := by rw [Lib.cell_of_heap hR.out.hx]; rfl
      have ly := (Array.getElem?_eq_some_iff.1 hR.out.hx).1
      have hyy := hqry.out
      have hq5 := (hR.out.fr.2.2.2.2 q (by omega) (by show one1 r q + one1 yi q = 0; rw [show one1 r q = 0 from if_neg (by omega), show one1 yi q = 0 from if_neg (by omega)])).trans h1.out
      have zq : wr.cell? ⟨q, 0, none⟩ = some (.slice none 0 0) := by rw [Lib.cell_of_heap hq5]; rfl
      have fq := Lib.frozen_of_heap hq5 0
      have lq := (Array.getElem?_eq_some_iff.1 hq5).1
      have lq0 := lq
      have hRXq := hid (fun (w' : World) (u : Value) (hx : Ext wr w') => (⟨vs, Rd.of_own (own_set (hx.own hR.out.own) (fun e => by have := own_freshB hR.out.own _ e; omega) 0 u), (NL.set (by omega) (hR.out.nl.frame (f := fun _ => 0) (FR.of_ext hx) (fun _ _ => rfl))).reads⟩ : RX (w'.setCell ⟨q, 0, none⟩ u) Av (itN true j p0).1.length cv (itN true j p0).1))
      have hxw := hid (hx1.out.trans' hR.out.fr (fun a ha => by show one1 r a + one1 yi a = 0; rw [show one1 r a = 0 from if_neg (by omega), show one1 yi a = 0 from if_neg (by omega)]))
      have hq9 := hqry
      clear hr5 hrb hP hR hq5 hRFp hRF hyy
      generalize (itN true j p0).1 = xs at *
      generalize (itN true j p0).2.ok = ok at *
      generalize hrl : (itN true j p0).2.l = rl at *
      replace hrl := hid hrl
      have hCk := hid (fun w' (hx : Ext wr w') => rCheck_any Av xs.length cv xs w' (hRX.ext hx))
      cases ok with
      | false =>
        have hno : ¬ (false = true ∧ rl = [] ∧ wrongX xs = 0) := fun h => by cases h.1
        have hfin : Hid (∀ w', Ext w w' → q < w'.heap.size → GiveRx l w (.returned (.tuple #[.agg #[.slice none 0 0], .int .i64 11])) (w'.setCell ⟨q, 0, none⟩ (.slice none 0 0))) := fun w' hx hl => by
          rcases hnB with ⟨hc, -⟩ | ⟨-, e1, e2⟩
          · exact absurd hc hno
          · refine ⟨none, 0, ?_, ?_, hx.set (p := ⟨q, 0, none⟩) (by rw [hq9.out.2.2.2]; exact Nat.le_refl _) _⟩
            · rw [e1, e2]; rfl
            · rw [e1]; exact ⟨[], Rd.none_ _ 3, trivial⟩
        replace hnB := hid hnB
        clear hno
        generalize chkE xs = E at *
        clear hRX hRXq
        go_wp2_with fail
        refine (hCk.out _ (Ext.refl _)).mono ?_
        rintro e w7 ⟨rfl, hx7⟩
        replace zr0 := hx7.cell zr0
        replace zr1 := hx7.cell zr1
        replace zy := hx7.cell zy
        replace zq := hx7.cell zq
        replace lr := Nat.lt_of_lt_of_le lr hx7.size
        replace ly := Nat.lt_of_lt_of_le ly hx7.size
        replace lq := Nat.lt_of_lt_of_le lq hx7.size
        replace fq := (hx7.frozen (p := ⟨q, 0, none⟩) lq0).trans fq
        go_wp2
        exact bodyPost_ret (v := .tuple #[.agg #[.slice none 0 0], .int .i64 11]) (by simp [results, Try.results20, go_sem, set_get zq]) rfl (hfin.out _ (hxw.out.trans hx7) lq)
      | true =>
        rcases Nat.eq_zero_or_pos rl.length with hz9 | hz9
        · have hrn : rl = [] := List.eq_nil_of_length_eq_zero hz9
          rw [hz9] at zr0
          by_cases h0 : wrongX xs = 0
          · rw [show chkE xs = 0 from if_pos h0] at hCk
            have hfin : Hid (∀ w', Ext wr w' → q < w'.heap.size → GiveRx l w (.returned (.tuple #[.agg #[.slice Av xs.length cv], .int .i64 0])) (w'.setCell ⟨q, 0, none⟩ (.slice Av xs.length cv))) := fun w' hx hl => by
              rcases hnB with ⟨-, e1, e2⟩ | ⟨hc, -⟩
              · refine ⟨Av, cv, ?_, ?_, (hxw.out.trans hx).set (p := ⟨q, 0, none⟩) (by rw [hq9.out.2.2.2]; exact Nat.le_refl _) _⟩
                · rw [e1, e2]
                · rw [e1]; exact hRXq.out w' _ hx
              · exact absurd ⟨rfl, hrn, h0⟩ hc
            replace hnB := hid hnB
            replace hrn := hid hrn
            replace h0 := hid h0
            clear hRX hRXq
            go_wp2_with fail
            refine (hCk.out _ (Ext.refl _)).mono ?_
            rintro e w7 ⟨rfl, hx7⟩
            replace zr0 := hx7.cell zr0
            replace zr1 := hx7.cell zr1
            replace zy := hx7.cell zy
            replace zq := hx7.cell zq
            replace lr := Nat.lt_of_lt_of_le lr hx7.size
            replace ly := Nat.lt_of_lt_of_le ly hx7.size
            replace lq := Nat.lt_of_lt_of_le lq hx7.size
            replace fq := (hx7.frozen (p := ⟨q, 0, none⟩) lq0).trans fq
            go_wp2
            exact bodyPost_ret (v := .tuple #[.agg #[.slice Av xs.length cv], .int .i64 0]) (by simp [results, Try.results20, go_sem, set_get zq]) rfl (hfin.out _ hx7 lq)
          · rw [show chkE xs = 11 from if_neg h0] at hCk
            have hno : ¬ (true = true ∧ rl = [] ∧ wrongX xs = 0) := fun h => h0 h.2.2
            have hfin : Hid (∀ w', Ext w w' → q < w'.heap.size → GiveRx l w (.returned (.tuple #[.agg #[.slice none 0 0], .int .i64 11])) (w'.setCell ⟨q, 0, none⟩ (.slice none 0 0))) := fun w' hx hl => by
              rcases hnB with ⟨hc, -⟩ | ⟨-, e1, e2⟩
              · exact absurd hc hno
              · refine ⟨none, 0, ?_, ?_, hx.set (p := ⟨q, 0, none⟩) (by rw [hq9.out.2.2.2]; exact Nat.le_refl _) _⟩
                · rw [e1, e2]; rfl
                · rw [e1]; exact ⟨[], Rd.none_ _ 3, trivial⟩
            replace hnB := hid hnB
            clear hno
            replace hrn := hid hrn
            clear h0
            clear hRX hRXq
            go_wp2_with fail
            refine (hCk.out _ (Ext.refl _)).mono ?_
            rintro e w7 ⟨rfl, hx7⟩
            replace zr0 := hx7.cell zr0
            replace zr1 := hx7.cell zr1
            replace zy := hx7.cell zy
            replace zq := hx7.cell zq
            replace lr := Nat.lt_of_lt_of_le lr hx7.size
            replace ly := Nat.lt_of_lt_of_le ly hx7.size
            replace lq := Nat.lt_of_lt_of_le lq hx7.size
            replace fq := (hx7.frozen (p := ⟨q, 0, none⟩) lq0).trans fq
            go_wp2
            exact bodyPost_ret (v := .tuple #[.agg #[.slice none 0 0], .int .i64 11]) (by simp [results, Try.results20, go_sem, set_get zq]) rfl (hfin.out _ (hxw.out.trans hx7) lq)
        · have hz1 : (0 : Int) < (rl.length : Int) := by omega
          have hno : ¬ (true = true ∧ rl = [] ∧ wrongX xs = 0) := fun h => by rw [h.2.1] at hz9; exact absurd hz9 (by decide)
          have hfin : Hid (∀ w', Ext w w' → q < w'.heap.size → GiveRx l w (.returned (.tuple #[.agg #[.slice none 0 0], .int .i64 11])) (w'.setCell ⟨q, 0, none⟩ (.slice none 0 0))) := fun w' hx hl => by
            rcases hnB with ⟨hc, -⟩ | ⟨-, e1, e2⟩
            · exact absurd hc hno
            · refine ⟨none, 0, ?_, ?_, hx.set (p := ⟨q, 0, none⟩) (by rw [hq9.out.2.2.2]; exact Nat.le_refl _) _⟩
              · rw [e1, e2]; rfl
              · rw [e1]; exact ⟨[], Rd.none_ _ 3, trivial⟩
          replace hnB := hid hnB
          clear hno
          generalize chkE xs = E at *
          clear hRX hRXq
          go_wp2_with fail
          refine (hCk.out _ (Ext.refl _)).mono ?_
          rintro e w7 ⟨rfl, hx7⟩
          replace zr0 := hx7.cell zr0
          replace zr1 := hx7.cell zr1
          replace zy := hx7.cell zy
          replace zq := hx7.cell zq
          replace lr := Nat.lt_of_lt_of_le lr hx7.size
          replace ly := Nat.lt_of_lt_of_le ly hx7.size
          replace lq := Nat.lt_of_lt_of_le lq hx7.size
          replace fq := (hx7.frozen (p := ⟨q, 0, none⟩) lq0).trans fq
          go_wp2
          exact bodyPost_ret (v := .tuple #[.agg #[.slice none 0 0], .int .i64 11]) (by simp [results, Try.results20, go_sem, set_get zq]) rfl (hfin.out _ (hxw.out.trans hx7) lq)
    · have hz0 : (0 : Int) < z := by omega
      cases hok : (itN true j p0).2.ok with
      | false =>
        have hend : Hid (itN true K p0 = itN true j p0) := by
          have := itN_stay hok k
          rw [hjk] at this
          exact this
        replace hok := hid hok
        have hRFp := hRF.out.trans hend.out
        have hnB := hrd.out
        rw [hRFp] at hnB
        obtain ⟨A5, c5, hr5, hrb, -, -, -⟩ := hP.out
        have zr0 : wr.cell? ⟨r, 0, none⟩ = some (.slice A5 (itN true j p0).2.l.length c5) := by rw [Lib.cell_of_heap hr5]; rfl
        have zr1 : wr.cell? ⟨r, 1, none⟩ = some (.bool (itN true j p0).2.ok) := by rw [Lib.cell_of_heap hr5]; rfl
        have lr := (Array.getElem?_eq_some_iff.1 hr5).1
        have hrm := (Rd.max hrb.1).1
        obtain ⟨Av, cv, rfl, hRX⟩ := hR.out.reads
        have zy : wr.cell? ⟨yi, 0, none⟩ = some (.slice Av (itN true j p0).1.length cv) := by rw [Lib.cell_of_heap hR.out.hx]; rfl
        have ly := (Array.getElem?_eq_some_iff.1 hR.out.hx).1
        have hyy := hqry.out
        have hq5 := (hR.out.fr.2.2.2.2 q (by omega) (by show one1 r q + one1 yi q = 0; rw [show one1 r q = 0 from if_neg (by omega), show one1 yi q = 0 from if_neg (by omega)])).trans h1.out
        have zq : wr.cell? ⟨q, 0, none⟩ = some (.slice none 0 0) := by rw [Lib.cell_of_heap hq5]; rfl
        have fq := Lib.frozen_of_heap hq5 0
        have lq := (Array.getElem?_eq_some_iff.1 hq5).1
        have lq0 := lq
        have hRXq := hid (fun (w' : World) (u : Value) (hx : Ext wr w') => (⟨vs, Rd.of_own (own_set (hx.own hR.out.own) (fun e => by have := own_freshB hR.out.own _ e; omega) 0 u), (NL.set (by omega) (hR.out.nl.frame (f := fun _ => 0) (FR.of_ext hx) (fun _ _ => rfl))).reads⟩ : RX (w'.setCell ⟨q, 0, none⟩ u) Av (itN true j p0).1.length cv (itN true j p0).1))
        have hxw := hid (hx1.out.trans' hR.out.fr (fun a ha => by show one1 r a + one1 yi a = 0; rw [show one1 r a = 0 from if_neg (by omega), show one1 yi a = 0 from if_neg (by omega)]))
        have hq9 := hqry
        clear hr5 hrb hP hR hq5 hRFp hRF hyy
        generalize (itN true j p0).1 = xs at *
        generalize (itN true j p0).2.ok = ok at *
        generalize hrl : (itN true j p0).2.l = rl at *
        replace hrl := hid hrl
        have hCk := hid (fun w' (hx : Ext wr w') => rCheck_any Av xs.length cv xs w' (hRX.ext hx))
        cases ok with
        | false =>
          have hno : ¬ (false = true ∧ rl = [] ∧ wrongX xs = 0) := fun h => by cases h.1
          have hfin : Hid (∀ w', Ext w w' → q < w'.heap.size → GiveRx l w (.returned (.tuple #[.agg #[.slice none 0 0], .int .i64 11])) (w'.setCell ⟨q, 0, none⟩ (.slice none 0 0))) := fun w' hx hl => by
            rcases hnB with ⟨hc, -⟩ | ⟨-, e1, e2⟩
            · exact absurd hc hno
            · refine ⟨none, 0, ?_, ?_, hx.set (p := ⟨q, 0, none⟩) (by rw [hq9.out.2.2.2]; exact Nat.le_refl _) _⟩
              · rw [e1, e2]; rfl
              · rw [e1]; exact ⟨[], Rd.none_ _ 3, trivial⟩
          replace hnB := hid hnB
          clear hno
          generalize chkE xs = E at *
          clear hRX hRXq
          go_wp2_with fail
          refine (hCk.out _ (Ext.refl _)).mono ?_
          rintro e w7 ⟨rfl, hx7⟩
          replace zr0 := hx7.cell zr0
          replace zr1 := hx7.cell zr1
          replace zy := hx7.cell zy
          replace zq := hx7.cell zq
          replace lr := Nat.lt_of_lt_of_le lr hx7.size
          replace ly := Nat.lt_of_lt_of_le ly hx7.size
          replace lq := Nat.lt_of_lt_of_le lq hx7.size
          replace fq := (hx7.frozen (p := ⟨q, 0, none⟩) lq0).trans fq
          go_wp2
          exact bodyPost_ret (v := .tuple #[.agg #[.slice none 0 0], .int .i64 11]) (by simp [results, Try.results20, go_sem, set_get zq]) rfl (hfin.out _ (hxw.out.trans hx7) lq)
        | true => exact absurd hok.out (by decide)
      | true =>
        have hst : Hid (itN true (j + 1) p0 = ((itN true j p0).1 ++ [(nodeF true (itN true j p0).2).1], (nodeF true (itN true j p0).2).2)) := by unfold Hid; rw [itN, hok, if_neg (by decide)]
        obtain ⟨A5, c5, hr5, -, -, -, -⟩ := hP.out
        have z1 : wr.cell? ⟨r, 1, none⟩ = some (.bool (itN true j p0).2.ok) := by rw [Lib.cell_of_heap hr5]; rfl
        have lr := (Array.getElem?_eq_some_iff.1 hr5).1
        rw [hok] at z1
        clear hr5
        clear hok
        obtain ⟨xs, hxs⟩ : ∃ xs, xs = (itN true j p0).1 := ⟨_, rfl⟩
        obtain ⟨s, hs⟩ : ∃ s, s = (itN true j p0).2 := ⟨_, rfl⟩
        rw [← hxs, ← hs] at hst
        rw [← hxs] at hR hlen
        rw [← hs] at hP
        clear hxs hs
        obtain ⟨Av, cv, rfl, -⟩ := own_form hR.out.own
        obtain ⟨w0, rfl⟩ : ∃ w0, w0 = wr := ⟨_, rfl⟩
        have hisB := hP.out.isB
        have hr1 := one_rng hisB
        have hr2 := one_rng (tk_isB (n := 1) hisB).2
        obtain ⟨k1, hk1⟩ : ∃ k1, (oneV s).toNat = k1 := ⟨_, rfl⟩
        obtain ⟨k2, hk2⟩ : ∃ k2, (oneV (tk 1 s).2).toNat = k2 := ⟨_, rfl⟩
        have ho1 : oneV s = (k1 : Int) := by omega
        have ho2 : oneV (tk 1 s).2 = (k2 : Int) := by omega
        have hk1b : k1 ≤ 255 := by omega
        have hk2b : k2 ≤ 255 := by omega
        have hNF : Hid (nodeF true s = itG true dStep k2 (itG true kStep k1 (node0 s))) := by unfold Hid nodeF; rw [hk1, hk2]
        have hp0 : Hid ((node0 s).2 = (tk 1 (tk 1 s).2).2 ∧ (node0 s).1 = ⟨[], [], []⟩) := ⟨rfl, rfl⟩
        generalize node0 s = P0 at *
        have hB0 : yi ≤ w0.heap.size := by have := hR.out.fr.2.2.2.1; have := hqry.out; omega
        have hN0 := hid (NDx.start (r := r) w0 lr)
        have hxy := (Ext.refl w0).alloc_right (.cells #[.slice none 0 0, .slice none 0 0, .slice none 0 0] 69)
        have hO1 := rone_any yi r s _ (hP.out.ext hxy)
        rw [ho1] at hO1
        replace hO1 := hid hO1
        clear hk1 hk2 ho1 hr1 hr2 hisB hxy hP
        replace ho2 := hid ho2
        have hwz := IntWalk.i64_in (z - 1) (by omega)
        go_upto_region 7 with fail
        clear z1 lr
        obtain ⟨y, hy⟩ : ∃ y, y = w0.heap.size := ⟨_, rfl⟩
        rw [← hy] at hN0
        simp only [← hy]
        generalize w0.alloc (.cells #[.slice none 0 0, .slice none 0 0, .slice none 0 0] 69) = wn at *
        replace hy := hid hy
        go_wp2_with fail
        refine hO1.out.mono ?_
        rintro e w2 ⟨rfl, hP2, hF2⟩
        have hO2 := rone_any yi r _ w2 hP2
        rw [ho2.out, ← hp0.out.1] at hO2
        replace hN0 := hid (hN0.out.up hF2)
        replace hO2 := hid hO2
        clear hO1 hP2 hF2
        go_wp2_with fail
        refine hO2.out.mono ?_
        rintro e w3 ⟨rfl, hP3, hF3⟩
        replace hN0 := hid (hN0.out.up hF3)
        rw [← hp0.out.2] at hN0
        have hP0 := hid hP3
        clear hF3 hO2 hP3
        have hL1 := hid (fun q => it_len (g := true) (F := kStep) (Q := fun x => x.keys.length) (fun p => (k_len p).1) (p := P0) q)
        have hL2 := hid (fun q => it_len (g := true) (F := kStep) (Q := fun x => x.recs.length) (fun p => (k_len p).2.1) (p := P0) q)
        go_wp2_with fail
        go_loopw [8] (fun i wr => ∃ (jj kk : Nat) (z2 : Int) (kv rv dv : Value), jj + kk = k1 ∧ z2 = kk ∧ i = .int .i64 z2 ∧ Hid (NDx w0 wr r y kv rv dv (itG true kStep jj P0).1) ∧ Hid (RQ yi wr r (itG true kStep jj P0).2)) (fun i _ => (intOf i).toNat)
        case atStart => exact ⟨0, k1, _, _, _, _, by omega, rfl, rfl, hN0, hP0⟩
        case round =>
          clear hN0 hP0
          obtain ⟨jj, kk, z2, kv, rv, dv, hj, hz2, rfl, hN, hP⟩ := hrel
          rcases Nat.eq_zero_or_pos kk with hk0 | hk0
          · have hend : itG true kStep k1 P0 = itG true kStep jj P0 := by rw [show jj = k1 by omega]
            have hz3 : z2 = 0 := by omega
            subst hz3
            rw [← hend] at hN hP
            clear hend
            have hP1i : Hid ((itG true kStep k1 P0).1.kids.length = 0) := by
              unfold Hid
              rw [kids_it, hp0.out.2]
              rfl
            clear hL1 hL2
            generalize itG true kStep k1 P0 = P1 at *
            have hL3 := hid (fun q => it_len (g := true) (F := dStep) (Q := fun x => x.kids.length) (fun p => (d_len p).1) (p := P1) q)
            clear hj hz2
            go_wp2_with fail
            go_loopw [9] (fun i wr => ∃ (jj kk : Nat) (z2 : Int) (kv rv dv : Value), jj + kk = k2 ∧ z2 = kk ∧ i = .int .i64 z2 ∧ Hid (NDx w0 wr r y kv rv dv (itG true dStep jj P1).1) ∧ Hid (RQ yi wr r (itG true dStep jj P1).2)) (fun i _ => (intOf i).toNat)
            case atStart => exact ⟨0, k2, _, _, _, _, by omega, rfl, rfl, hN, hP⟩
            case round =>
              clear hN hP
              obtain ⟨jj, kk, z2, kv, rv, dv, hj, hz2, rfl, hN, hP⟩ := hrel
              rcases Nat.eq_zero_or_pos kk with hk0 | hk0
              · have hend : itG true dStep k2 P1 = itG true dStep jj P1 := by rw [show jj = k2 by omega]
                have hz3 : z2 = 0 := by omega
                clear hz2
                subst hz3
                rw [← hend, ← hNF.out] at hN hP
                clear hend
                obtain ⟨A7, c7, rfl, -⟩ := own_form hN.out.ok
                obtain ⟨A8, c8, rfl, -⟩ := own_form hN.out.or_
                obtain ⟨A9, c9, rfl, -⟩ := own_form hN.out.od
                obtain ⟨c0, c1, c2⟩ := nd3_c hN.out.hy
                have lyn := (Array.getElem?_eq_some_iff.1 hN.out.hy).1
                have hR10 := hR.out.up hN.out.fr
                have zyi : wr.cell? ⟨yi, 0, none⟩ = some (.slice Av xs.length cv) := by rw [Lib.cell_of_heap hR10.hx]; rfl
                have lyi := (Array.getElem?_eq_some_iff.1 hR10.hx).1
                have hNR : NR wr w0.heap.size ⟨.slice A7 (nodeF true s).1.keys.length c7, .slice A8 (nodeF true s).1.recs.length c8, .slice A9 (nodeF true s).1.kids.length c9⟩ (nodeF true s).1 (fun a => ob (.slice A7 (nodeF true s).1.keys.length c7) a + ob (.slice A8 (nodeF true s).1.recs.length c8) a + ob (.slice A9 (nodeF true s).1.kids.length c9) a) := ⟨hN.out.ok, hN.out.or_, hN.out.od, fun a => rfl⟩
                have hgu : ∀ a, (fun a => ob (.slice A7 (nodeF true s).1.keys.length c7) a + ob (.slice A8 (nodeF true s).1.recs.length c8) a + ob (.slice A9 (nodeF true s).1.kids.length c9) a) a ≤ 1 := fun a => by have := hN.out.nd a; show ob (.slice A7 (nodeF true s).1.keys.length c7) a + ob (.slice A8 (nodeF true s).1.recs.length c8) a + ob (.slice A9 (nodeF true s).1.kids.length c9) a ≤ 1; omega
                have hxb := (Ext.refl wr).alloc_right (.cells #[.slice A7 (nodeF true s).1.keys.length c7, .slice A8 (nodeF true s).1.recs.length c8, .slice A9 (nodeF true s).1.kids.length c9] 69)
                have hnew := heap_alloc_new wr (.cells #[.slice A7 (nodeF true s).1.keys.length c7, .slice A8 (nodeF true s).1.recs.length c8, .slice A9 (nodeF true s).1.kids.length c9] 69)
                have hRn : Rd (wr.alloc (.cells #[.slice A7 (nodeF true s).1.keys.length c7, .slice A8 (nodeF true s).1.recs.length c8, .slice A9 (nodeF true s).1.kids.length c9] 69)) 3 (some ⟨wr.heap.size, 0, none⟩) 1 1 [.slice A7 (nodeF true s).1.keys.length c7, .slice A8 (nodeF true s).1.recs.length c8, .slice A9 (nodeF true s).1.kids.length c9] := ⟨rfl, Nat.le_refl _, by decide, fun _ => ⟨_, rfl, fun j u hu => by
                  rw [lit_add, Nat.zero_add, Lib.cell_of_heap hnew]
                  simpa using hu⟩⟩
                obtain ⟨v', w12, happ, own3, hgr, hloc⟩ := app_at _ w1.heap.size 35 35 69 iN _ 3 72 Try.underlying35 hi0 hi1 hi2 hi3 rfl (by decide) _ _ _ (hxb.own hR10.own) _ 1 1 _ hRn (by simp [Value.oneCell']) (by unfold maxLen; omega) (by omega) (Nat.le_trans hR10.fr.2.2.2.1 hxb.size)
                obtain ⟨hRs, hFs, hy12⟩ := hR.out.add hN.out.fr hNR hgu hxb hgr own3 hloc
                have hPs := hid (hP.out.fr hFs (fun a ha => by
                  have h7 := own_freshB hR10.own
                  have hyy := hqry.out
                  show ob _ a + one1 yi a = 0
                  rw [show ob _ a = 0 from if_neg (fun e => by have := h7 a e; omega), show one1 yi a = 0 from if_neg (by omega)]))
                replace hRs := hid hRs
                obtain ⟨Ak', ck', rfl, -⟩ := own_form own3
                have z12 : w12.cell? ⟨yi, 0, none⟩ = some (.slice Av xs.length cv) := by rw [Lib.cell_of_heap hy12]; rfl
                have f12 := Lib.frozen_of_heap hy12 0
                have l12 := (Array.getElem?_eq_some_iff.1 hy12).1
                replace happ := hid happ
                have e9 : (itN true (j + 1) p0).1 = xs ++ [(nodeF true s).1] := by rw [hst.out]
                have e8 : (itN true (j + 1) p0).2 = (nodeF true s).2 := by rw [hst.out]
                have hNe := hRs.out
                have hPe := hPs.out
                rw [← e9] at hNe
                rw [← e8] at hPe
                replace hNe := hid hNe
                replace hPe := hid hPe
                clear e8 e9
                clear hRn own3 hgr hloc hFs hy12 hxb hnew hR10 hNR hgu hP hRs hPs hN hL3 hNF hst hR
                generalize (nodeF true s).1.keys.length = n7 at *
                generalize (nodeF true s).1.recs.length = n8 at *
                generalize (nodeF true s).1.kids.length = n9 at *
                go_upto_region 16 with fail
                go_wp2_with (at_builtin; refine wpList_app rfl _ _ 35 35 rfl _ _ rfl rfl _ happ.out ?_)
                go_wp2_with fail
                go_roundw
                case rel => exact ⟨j + 1, k - 1, _, _, _, _, by omega, by omega, rfl, hNe, hPe⟩
                case measure => simp [intOf]; omega
              · have hz0 : (0 : Int) < z2 := by omega
                cases hok : (itG true dStep jj P1).2.ok with
                | false =>
                  have hend : itG true dStep k2 P1 = itG true dStep jj P1 := by
                    have := it_stop hok kk
                    rw [hj] at this
                    exact this
                  obtain ⟨A5, c5, hr5, -, -, -, -⟩ := hP.out
                  have z1 : wr.cell? ⟨r, 1, none⟩ = some (.bool (itG true dStep jj P1).2.ok) := by rw [Lib.cell_of_heap hr5]; rfl
                  have lr := (Array.getElem?_eq_some_iff.1 hr5).1
                  rw [hok] at z1
                  clear hr5
                  replace hok := hid hok
                  rw [← hend, ← hNF.out] at hN hP
                  clear hend
                  obtain ⟨A7, c7, rfl, -⟩ := own_form hN.out.ok
                  obtain ⟨A8, c8, rfl, -⟩ := own_form hN.out.or_
                  obtain ⟨A9, c9, rfl, -⟩ := own_form hN.out.od
                  obtain ⟨c0, c1, c2⟩ := nd3_c hN.out.hy
                  have lyn := (Array.getElem?_eq_some_iff.1 hN.out.hy).1
                  have hR10 := hR.out.up hN.out.fr
                  have zyi : wr.cell? ⟨yi, 0, none⟩ = some (.slice Av xs.length cv) := by rw [Lib.cell_of_heap hR10.hx]; rfl
                  have lyi := (Array.getElem?_eq_some_iff.1 hR10.hx).1
                  have hNR : NR wr w0.heap.size ⟨.slice A7 (nodeF true s).1.keys.length c7, .slice A8 (nodeF true s).1.recs.length c8, .slice A9 (nodeF true s).1.kids.length c9⟩ (nodeF true s).1 (fun a => ob (.slice A7 (nodeF true s).1.keys.length c7) a + ob (.slice A8 (nodeF true s).1.recs.length c8) a + ob (.slice A9 (nodeF true s).1.kids.length c9) a) := ⟨hN.out.ok, hN.out.or_, hN.out.od, fun a => rfl⟩
                  have hgu : ∀ a, (fun a => ob (.slice A7 (nodeF true s).1.keys.length c7) a + ob (.slice A8 (nodeF true s).1.recs.length c8) a + ob (.slice A9 (nodeF true s).1.kids.length c9) a) a ≤ 1 := fun a => by have := hN.out.nd a; show ob (.slice A7 (nodeF true s).1.keys.length c7) a + ob (.slice A8 (nodeF true s).1.recs.length c8) a + ob (.slice A9 (nodeF true s).1.kids.length c9) a ≤ 1; omega
                  have hxb := (Ext.refl wr).alloc_right (.cells #[.slice A7 (nodeF true s).1.keys.length c7, .slice A8 (nodeF true s).1.recs.length c8, .slice A9 (nodeF true s).1.kids.length c9] 69)
                  have hnew := heap_alloc_new wr (.cells #[.slice A7 (nodeF true s).1.keys.length c7, .slice A8 (nodeF true s).1.recs.length c8, .slice A9 (nodeF true s).1.kids.length c9] 69)
                  have hRn : Rd (wr.alloc (.cells #[.slice A7 (nodeF true s).1.keys.length c7, .slice A8 (nodeF true s).1.recs.length c8, .slice A9 (nodeF true s).1.kids.length c9] 69)) 3 (some ⟨wr.heap.size, 0, none⟩) 1 1 [.slice A7 (nodeF true s).1.keys.length c7, .slice A8 (nodeF true s).1.recs.length c8, .slice A9 (nodeF true s).1.kids.length c9] := ⟨rfl, Nat.le_refl _, by decide, fun _ => ⟨_, rfl, fun j u hu => by
                    rw [lit_add, Nat.zero_add, Lib.cell_of_heap hnew]
                    simpa using hu⟩⟩
                  obtain ⟨v', w12, happ, own3, hgr, hloc⟩ := app_at _ w1.heap.size 35 35 69 iN _ 3 72 Try.underlying35 hi0 hi1 hi2 hi3 rfl (by decide) _ _ _ (hxb.own hR10.own) _ 1 1 _ hRn (by simp [Value.oneCell']) (by unfold maxLen; omega) (by omega) (Nat.le_trans hR10.fr.2.2.2.1 hxb.size)
                  obtain ⟨hRs, hFs, hy12⟩ := hR.out.add hN.out.fr hNR hgu hxb hgr own3 hloc
                  have hPs := hid (hP.out.fr hFs (fun a ha => by
                    have h7 := own_freshB hR10.own
                    have hyy := hqry.out
                    show ob _ a + one1 yi a = 0
                    rw [show ob _ a = 0 from if_neg (fun e => by have := h7 a e; omega), show one1 yi a = 0 from if_neg (by omega)]))
                  replace hRs := hid hRs
                  obtain ⟨Ak', ck', rfl, -⟩ := own_form own3
                  have z12 : w12.cell? ⟨yi, 0, none⟩ = some (.slice Av xs.length cv) := by rw [Lib.cell_of_heap hy12]; rfl
                  have f12 := Lib.frozen_of_heap hy12 0
                  have l12 := (Array.getElem?_eq_some_iff.1 hy12).1
                  replace happ := hid happ
                  have e9 : (itN true (j + 1) p0).1 = xs ++ [(nodeF true s).1] := by rw [hst.out]
                  have e8 : (itN true (j + 1) p0).2 = (nodeF true s).2 := by rw [hst.out]
                  have hNe := hRs.out
                  have hPe := hPs.out
                  rw [← e9] at hNe
                  rw [← e8] at hPe
                  replace hNe := hid hNe
                  replace hPe := hid hPe
                  clear e8 e9
                  clear hRn own3 hgr hloc hFs hy12 hxb hnew hR10 hNR hgu hP hRs hPs hN hL3 hNF hst hR
                  generalize (nodeF true s).1.keys.length = n7 at *
                  generalize (nodeF true s).1.recs.length = n8 at *
                  generalize (nodeF true s).1.kids.length = n9 at *
                  go_upto_region 16 with fail
                  go_wp2_with (at_builtin; refine wpList_app rfl _ _ 35 35 rfl _ _ rfl rfl _ happ.out ?_)
                  go_wp2_with fail
                  go_roundw
                  case rel => exact ⟨j + 1, k - 1, _, _, _, _, by omega, by omega, rfl, hNe, hPe⟩
                  case measure => simp [intOf]; omega
                | true =>
                  have hl3 := hL3.out jj
                  try dsimp only at hl3
                  rw [hP1i.out] at hl3
                  have hst2 : Hid (itG true dStep (jj + 1) P1 = dStep (itG true dStep jj P1)) := by unfold Hid; rw [itG]; unfold stepG; rw [hok]; rfl
                  obtain ⟨A5, c5, hr5, -, -, -, -⟩ := hP.out
                  have z1 : wr.cell? ⟨r, 1, none⟩ = some (.bool (itG true dStep jj P1).2.ok) := by rw [Lib.cell_of_heap hr5]; rfl
                  have lr := (Array.getElem?_eq_some_iff.1 hr5).1
                  rw [hok] at z1
                  clear hr5
                  clear hok
                  have hwz := IntWalk.i64_in (z2 - 1) (by omega)
                  generalize itG true dStep jj P1 = p at *
                  have hkS : Hid (dStep p = (⟨p.1.keys, p.1.recs, p.1.kids ++ [twoV p.2]⟩, (tk 2 p.2).2)) := rfl
                  obtain ⟨Ad, cd, rfl, -⟩ := own_form hN.out.od
                  go_upto_region 15 with fail
                  have I0 : (fun w' : World => w'.cell? ⟨y, 2, none⟩ = some (.slice Ad p.1.kids.length cd)) wr.drew := (nd3_c hN.out.hy).2.2
                  refine region_J (fun w' : World => w'.cell? ⟨y, 2, none⟩ = some (.slice Ad p.1.kids.length cd)) 7 (by kernel_rfl) ?_
                  replace hN := hid (hN.out.up (FR.of_ext ((Ext.refl wr).drew_right)))
                  replace hP := hid (hP.out.ext ((Ext.refl wr).drew_right))
                  clear z1 lr
                  generalize wr.drew = w9 at *
                  refine J_take 0 (v := ?vd120) rfl (by kernel_rfl) (by kernel_rfl) (by kernel_rfl) (by kernel_rfl) (fun _ _ _ h => h) (Or.inl ⟨by rfl, ?yd120⟩) I0 ?rd120
                  case yd120 => (intro w hSw; have := hSw; (go_simp; with_reducible rfl))
                  simp only [Act.put, List.getElem_toArray, List.getElem_cons_zero, List.getElem_cons_succ, List.setIfInBounds_toArray, List.set_cons_zero, List.set_cons_succ]
                  refine J_take 1 (v := ?vd121) rfl (by kernel_rfl) (by kernel_rfl) (by kernel_rfl) (by kernel_rfl) (fun _ _ _ h => h) (Or.inl ⟨by rfl, ?yd121⟩) I0 ?rd121
                  case yd121 => (intro w hSw; have := hSw; (go_simp; with_reducible rfl))
                  simp only [Act.put, List.getElem_toArray, List.getElem_cons_zero, List.getElem_cons_succ, List.setIfInBounds_toArray, List.set_cons_zero, List.set_cons_succ]
                  refine J_take 2 (v := ?vd122) rfl (by kernel_rfl) (by kernel_rfl) (by kernel_rfl) (by kernel_rfl) (fun _ _ _ h => h) (Or.inl ⟨by rfl, ?yd122⟩) I0 ?rd122
                  case yd122 => (intro w hSw; have := hSw; (go_simp; with_reducible rfl))
                  simp only [Act.put, List.getElem_toArray, List.getElem_cons_zero, List.getElem_cons_succ, List.setIfInBounds_toArray, List.set_cons_zero, List.set_cons_succ]
                  refine J_one 3 rfl (by kernel_rfl) (fun K hK => ?_)
                  go_simp
                  refine (rtwo_any yi r p.2 w9 hP.out).mono ?_
                  rintro e' w10 ⟨rfl, hP10, hF10⟩
                  have hN10 := hid (hN.out.up hF10)
                  replace hP10 := hid hP10
                  have I1 : (fun w' : World => w'.cell? ⟨y, 2, none⟩ = some (.slice Ad p.1.kids.length cd)) w10 := (nd3_c hN10.out.hy).2.2
                  clear hN hP I0 hF10
                  refine hK _ _ ⟨fun _ => I1, ?_⟩
                  clear hK K
                  try simp only [Act.put, List.getElem_toArray, List.getElem_cons_zero, List.getElem_cons_succ, List.setIfInBounds_toArray, List.set_cons_zero, List.set_cons_succ]
                  obtain ⟨Z9, hZ9⟩ : ∃ Z9, Z9 = twoV p.2 := ⟨_, rfl⟩
                  simp only [← hZ9]
                  replace hZ9 := hid hZ9
                  have hxb := (Ext.refl w10).alloc_right (.cells #[.int .i64 Z9] 3)
                  have hRn : RdI (w10.alloc (.cells #[.int .i64 Z9] 3)) (some ⟨w10.heap.size, 0, none⟩) 1 1 [Z9] := rd_new1 w10 _ _
                  have hB9 : w0.heap.size ≤ (w10.alloc (.cells #[.int .i64 Z9] 3)).heap.size := Nat.le_trans hN10.out.fr.2.2.2.1 hxb.size
                  have how9 : (w10.alloc (.cells #[.int .i64 Z9] 3)).ownsRow w0.heap.size 3 1 (.slice Ad p.1.kids.length cd) p.1.kids.length (ints p.1.kids) := hxb.own hN10.out.od
                  obtain ⟨v', w12, happ, own3, hgr, hloc⟩ := app_at _ w0.heap.size 23 23 3 iI _ 1 8 Try.underlying23 hI0 hI1 hI2 hI3 rfl (by decide) _ _ _ how9 _ 1 1 _ hRn (ints_one [Z9]) (by unfold maxLen; omega) (by omega) hB9
                  rw [← ints_append] at own3
                  have hlk : (p.1.kids ++ [Z9]).length = p.1.kids.length + 1 := by simp
                  obtain ⟨hNs, hFs, hy12⟩ := hN10.out.add2 (s := Z9) hxb hgr (by rw [hlk]; exact own3) hloc
                  have hPs := hid (hP10.out.fr hFs (fun a ha => by have h7 := own_freshB hN10.out.od; have h6 := hN10.out.yl; show ob _ a + one1 y a = 0; rw [show ob _ a = 0 from if_neg (fun e => by have := h7 a e; omega), show one1 y a = 0 from if_neg (by omega)]))
                  replace hNs := hid hNs
                  obtain ⟨A9, c9, rfl, -⟩ := own_form own3
                  have I2' : (fun w' : World => w'.cell? ⟨y, 2, none⟩ = some (.slice Ad p.1.kids.length cd)) (w10.alloc (.cells #[.int .i64 Z9] 3)) := hxb.cell I1
                  have z12 := (nd3_c hy12).2.2
                  have I3 : (fun w' : World => w'.cell? ⟨y, 2, none⟩ = some (.slice Ad p.1.kids.length cd)) w12 := z12
                  have f12 := Lib.frozen_of_heap hy12 2
                  have l12 := (Array.getElem?_eq_some_iff.1 hy12).1
                  replace happ := hid happ
                  clear hRn own3 hgr hloc hFs hy12 hxb hN10 hP10 hB9 how9
                  refine J_one 4 rfl (by kernel_rfl) (fun K hK => ?_)
                  go_simp
                  refine hK _ _ ⟨fun _ => I2', ?_⟩
                  clear hK K
                  try simp only [Act.put, List.getElem_toArray, List.getElem_cons_zero, List.getElem_cons_succ, List.setIfInBounds_toArray, List.set_cons_zero, List.set_cons_succ]
                  generalize w10.heap.size = qb at *
                  generalize w10.alloc (.cells #[.int .i64 Z9] 3) = w11' at *
                  refine J_one 5 rfl (by kernel_rfl) (fun K hK => ?_)
                  refine step_run rfl _ (ex_append _ _ _ _ rfl _ _ (by simp [Act.eval, Act.put]) (by simp [Act.eval, Act.put]) _ happ.out) ?_
                  refine hK _ _ ⟨fun _ => I3, ?_⟩
                  clear hK K happ I1 I2'
                  try simp only [Act.put, List.getElem_toArray, List.getElem_cons_zero, List.getElem_cons_succ, List.setIfInBounds_toArray, List.set_cons_zero, List.set_cons_succ]
                  refine J_one 6 rfl (by kernel_rfl) (fun K hK => ?_)
                  go_simp
                  refine hK _ _ ⟨fun _ => I3, ?_⟩
                  clear hK K
                  try simp only [Act.put, List.getElem_toArray, List.getElem_cons_zero, List.getElem_cons_succ, List.setIfInBounds_toArray, List.set_cons_zero, List.set_cons_succ]
                  refine J_one 7 rfl (by kernel_rfl) (fun K hK => ?_)
                  go_simp
                  refine hK _ _ ⟨fun h => absurd rfl h, ?_⟩
                  clear hK K
                  refine J_done (by kernel_rfl) (OnlyOn.normal ?_)
                  clear I3 z12 f12 l12
                  have hNe : Hid (NDx w0 (w12.setCell ⟨y, 2, none⟩ (.slice A9 (p.1.kids.length + 1) c9)) r y kv rv (.slice A9 (p.1.kids.length + 1) c9) (itG true dStep (jj + 1) P1).1) := by
                    rw [hst2.out, hkS.out, ← hZ9.out]
                    exact hNs
                  have hPe : Hid (RQ yi (w12.setCell ⟨y, 2, none⟩ (.slice A9 (p.1.kids.length + 1) c9)) r (itG true dStep (jj + 1) P1).2) := by
                    rw [hst2.out, hkS.out]
                    exact hPs
                  clear hNs hPs hZ9 hlk hkS hst2
                  go_wp2_with fail
                  go_roundw
                  case rel => exact ⟨jj + 1, kk - 1, _, _, _, _, by omega, by omega, rfl, hNe, hPe⟩
                  case measure => simp [intOf]; omega
          · have hz0 : (0 : Int) < z2 := by omega
            cases hok : (itG true kStep jj P0).2.ok with
            | false =>
              have hend : itG true kStep k1 P0 = itG true kStep jj P0 := by
                have := it_stop hok kk
                rw [hj] at this
                exact this
              obtain ⟨A5, c5, hr5, -, -, -, -⟩ := hP.out
              have z1 : wr.cell? ⟨r, 1, none⟩ = some (.bool (itG true kStep jj P0).2.ok) := by rw [Lib.cell_of_heap hr5]; rfl
              have lr := (Array.getElem?_eq_some_iff.1 hr5).1
              rw [hok] at z1
              clear hr5
              replace hok := hid hok
              rw [← hend] at hN hP
              clear hend
              have hP1i : Hid ((itG true kStep k1 P0).1.kids.length = 0) := by
                unfold Hid
                rw [kids_it, hp0.out.2]
                rfl
              clear hL1 hL2
              generalize itG true kStep k1 P0 = P1 at *
              have hL3 := hid (fun q => it_len (g := true) (F := dStep) (Q := fun x => x.kids.length) (fun p => (d_len p).1) (p := P1) q)
              clear hj hz2
              go_wp2_with fail
              go_loopw [9] (fun i wr => ∃ (jj kk : Nat) (z2 : Int) (kv rv dv : Value), jj + kk = k2 ∧ z2 = kk ∧ i = .int .i64 z2 ∧ Hid (NDx w0 wr r y kv rv dv (itG true dStep jj P1).1) ∧ Hid (RQ yi wr r (itG true dStep jj P1).2)) (fun i _ => (intOf i).toNat)
              case atStart => exact ⟨0, k2, _, _, _, _, by omega, rfl, rfl, hN, hP⟩
              case round =>
                clear hN hP
                obtain ⟨jj, kk, z2, kv, rv, dv, hj, hz2, rfl, hN, hP⟩ := hrel
                rcases Nat.eq_zero_or_pos kk with hk0 | hk0
                · have hend : itG true dStep k2 P1 = itG true dStep jj P1 := by rw [show jj = k2 by omega]
                  have hz3 : z2 = 0 := by omega
                  clear hz2
                  subst hz3
                  rw [← hend, ← hNF.out] at hN hP
                  clear hend
                  obtain ⟨A7, c7, rfl, -⟩ := own_form hN.out.ok
                  obtain ⟨A8, c8, rfl, -⟩ := own_form hN.out.or_
                  obtain ⟨A9, c9, rfl, -⟩ := own_form hN.out.od
                  obtain ⟨c0, c1, c2⟩ := nd3_c hN.out.hy
                  have lyn := (Array.getElem?_eq_some_iff.1 hN.out.hy).1
                  have hR10 := hR.out.up hN.out.fr
                  have zyi : wr.cell? ⟨yi, 0, none⟩ = some (.slice Av xs.length cv) := by rw [Lib.cell_of_heap hR10.hx]; rfl
                  have lyi := (Array.getElem?_eq_some_iff.1 hR10.hx).1
                  have hNR : NR wr w0.heap.size ⟨.slice A7 (nodeF true s).1.keys.length c7, .slice A8 (nodeF true s).1.recs.length c8, .slice A9 (nodeF true s).1.kids.length c9⟩ (nodeF true s).1 (fun a => ob (.slice A7 (nodeF true s).1.keys.length c7) a + ob (.slice A8 (nodeF true s).1.recs.length c8) a + ob (.slice A9 (nodeF true s).1.kids.length c9) a) := ⟨hN.out.ok, hN.out.or_, hN.out.od, fun a => rfl⟩
                  have hgu : ∀ a, (fun a => ob (.slice A7 (nodeF true s).1.keys.length c7) a + ob (.slice A8 (nodeF true s).1.recs.length c8) a + ob (.slice A9 (nodeF true s).1.kids.length c9) a) a ≤ 1 := fun a => by have := hN.out.nd a; show ob (.slice A7 (nodeF true s).1.keys.length c7) a + ob (.slice A8 (nodeF true s).1.recs.length c8) a + ob (.slice A9 (nodeF true s).1.kids.length c9) a ≤ 1; omega
                  have hxb := (Ext.refl wr).alloc_right (.cells #[.slice A7 (nodeF true s).1.keys.length c7, .slice A8 (nodeF true s).1.recs.length c8, .slice A9 (nodeF true s).1.kids.length c9] 69)
                  have hnew := heap_alloc_new wr (.cells #[.slice A7 (nodeF true s).1.keys.length c7, .slice A8 (nodeF true s).1.recs.length c8, .slice A9 (nodeF true s).1.kids.length c9] 69)
                  have hRn : Rd (wr.alloc (.cells #[.slice A7 (nodeF true s).1.keys.length c7, .slice A8 (nodeF true s).1.recs.length c8, .slice A9 (nodeF true s).1.kids.length c9] 69)) 3 (some ⟨wr.heap.size, 0, none⟩) 1 1 [.slice A7 (nodeF true s).1.keys.length c7, .slice A8 (nodeF true s).1.recs.length c8, .slice A9 (nodeF true s).1.kids.length c9] := ⟨rfl, Nat.le_refl _, by decide, fun _ => ⟨_, rfl, fun j u hu => by
                    rw [lit_add, Nat.zero_add, Lib.cell_of_heap hnew]
                    simpa using hu⟩⟩
                  obtain ⟨v', w12, happ, own3, hgr, hloc⟩ := app_at _ w1.heap.size 35 35 69 iN _ 3 72 Try.underlying35 hi0 hi1 hi2 hi3 rfl (by decide) _ _ _ (hxb.own hR10.own) _ 1 1 _ hRn (by simp [Value.oneCell']) (by unfold maxLen; omega) (by omega) (Nat.le_trans hR10.fr.2.2.2.1 hxb.size)
                  obtain ⟨hRs, hFs, hy12⟩ := hR.out.add hN.out.fr hNR hgu hxb hgr own3 hloc
                  have hPs := hid (hP.out.fr hFs (fun a ha => by
                    have h7 := own_freshB hR10.own
                    have hyy := hqry.out
                    show ob _ a + one1 yi a = 0
                    rw [show ob _ a = 0 from if_neg (fun e => by have := h7 a e; omega), show one1 yi a = 0 from if_neg (by omega)]))
                  replace hRs := hid hRs
                  obtain ⟨Ak', ck', rfl, -⟩ := own_form own3
                  have z12 : w12.cell? ⟨yi, 0, none⟩ = some (.slice Av xs.length cv) := by rw [Lib.cell_of_heap hy12]; rfl
                  have f12 := Lib.frozen_of_heap hy12 0
                  have l12 := (Array.getElem?_eq_some_iff.1 hy12).1
                  replace happ := hid happ
                  have e9 : (itN true (j + 1) p0).1 = xs ++ [(nodeF true s).1] := by rw [hst.out]
                  have e8 : (itN true (j + 1) p0).2 = (nodeF true s).2 := by rw [hst.out]
                  have hNe := hRs.out
                  have hPe := hPs.out
                  rw [← e9] at hNe
                  rw [← e8] at hPe
                  replace hNe := hid hNe
                  replace hPe := hid hPe
                  clear e8 e9
                  clear hRn own3 hgr hloc hFs hy12 hxb hnew hR10 hNR hgu hP hRs hPs hN hL3 hNF hst hR
                  generalize (nodeF true s).1.keys.length = n7 at *
                  generalize (nodeF true s).1.recs.length = n8 at *
                  generalize (nodeF true s).1.kids.length = n9 at *
                  go_upto_region 16 with fail
                  go_wp2_with (at_builtin; refine wpList_app rfl _ _ 35 35 rfl _ _ rfl rfl _ happ.out ?_)
                  go_wp2_with fail
                  go_roundw
                  case rel => exact ⟨j + 1, k - 1, _, _, _, _, by omega, by omega, rfl, hNe, hPe⟩
                  case measure => simp [intOf]; omega
                · have hz0 : (0 : Int) < z2 := by omega
                  cases hok : (itG true dStep jj P1).2.ok with
                  | false =>
                    have hend : itG true dStep k2 P1 = itG true dStep jj P1 := by
                      have := it_stop hok kk
                      rw [hj] at this
                      exact this
                    obtain ⟨A5, c5, hr5, -, -, -, -⟩ := hP.out
                    have z1 : wr.cell? ⟨r, 1, none⟩ = some (.bool (itG true dStep jj P1).2.ok) := by rw [Lib.cell_of_heap hr5]; rfl
                    have lr := (Array.getElem?_eq_some_iff.1 hr5).1
                    rw [hok] at z1
                    clear hr5
                    replace hok := hid hok
                    rw [← hend, ← hNF.out] at hN hP
                    clear hend
                    obtain ⟨A7, c7, rfl, -⟩ := own_form hN.out.ok
                    obtain ⟨A8, c8, rfl, -⟩ := own_form hN.out.or_
                    obtain ⟨A9, c9, rfl, -⟩ := own_form hN.out.od
                    obtain ⟨c0, c1, c2⟩ := nd3_c hN.out.hy
                    have lyn := (Array.getElem?_eq_some_iff.1 hN.out.hy).1
                    have hR10 := hR.out.up hN.out.fr
                    have zyi : wr.cell? ⟨yi, 0, none⟩ = some (.slice Av xs.length cv) := by rw [Lib.cell_of_heap hR10.hx]; rfl
                    have lyi := (Array.getElem?_eq_some_iff.1 hR10.hx).1
                    have hNR : NR wr w0.heap.size ⟨.slice A7 (nodeF true s).1.keys.length c7, .slice A8 (nodeF true s).1.recs.length c8, .slice A9 (nodeF true s).1.kids.length c9⟩ (nodeF true s).1 (fun a => ob (.slice A7 (nodeF true s).1.keys.length c7) a + ob (.slice A8 (nodeF true s).1.recs.length c8) a + ob (.slice A9 (nodeF true s).1.kids.length c9) a) := ⟨hN.out.ok, hN.out.or_, hN.out.od, fun a => rfl⟩
                    have hgu : ∀ a, (fun a => ob (.slice A7 (nodeF true s).1.keys.length c7) a + ob (.slice A8 (nodeF true s).1.recs.length c8) a + ob (.slice A9 (nodeF true s).1.kids.length c9) a) a ≤ 1 := fun a => by have := hN.out.nd a; show ob (.slice A7 (nodeF true s).1.keys.length c7) a + ob (.slice A8 (nodeF true s).1.recs.length c8) a + ob (.slice A9 (nodeF true s).1.kids.length c9) a ≤ 1; omega
                    have hxb := (Ext.refl wr).alloc_right (.cells #[.slice A7 (nodeF true s).1.keys.length c7, .slice A8 (nodeF true s).1.recs.length c8, .slice A9 (nodeF true s).1.kids.length c9] 69)
                    have hnew := heap_alloc_new wr (.cells #[.slice A7 (nodeF true s).1.keys.length c7, .slice A8 (nodeF true s).1.recs.length c8, .slice A9 (nodeF true s).1.kids.length c9] 69)
                    have hRn : Rd (wr.alloc (.cells #[.slice A7 (nodeF true s).1.keys.length c7, .slice A8 (nodeF true s).1.recs.length c8, .slice A9 (nodeF true s).1.kids.length c9] 69)) 3 (some ⟨wr.heap.size, 0, none⟩) 1 1 [.slice A7 (nodeF true s).1.keys.length c7, .slice A8 (nodeF true s).1.recs.length c8, .slice A9 (nodeF true s).1.kids.length c9] := ⟨rfl, Nat.le_refl _, by decide, fun _ => ⟨_, rfl, fun j u hu => by
                      rw [lit_add, Nat.zero_add, Lib.cell_of_heap hnew]
                      simpa using hu⟩⟩
                    obtain ⟨v', w12, happ, own3, hgr, hloc⟩ := app_at _ w1.heap.size 35 35 69 iN _ 3 72 Try.underlying35 hi0 hi1 hi2 hi3 rfl (by decide) _ _ _ (hxb.own hR10.own) _ 1 1 _ hRn (by simp [Value.oneCell']) (by unfold maxLen; omega) (by omega) (Nat.le_trans hR10.fr.2.2.2.1 hxb.size)
                    obtain ⟨hRs, hFs, hy12⟩ := hR.out.add hN.out.fr hNR hgu hxb hgr own3 hloc
                    have hPs := hid (hP.out.fr hFs (fun a ha => by
                      have h7 := own_freshB hR10.own
                      have hyy := hqry.out
                      show ob _ a + one1 yi a = 0
                      rw [show ob _ a = 0 from if_neg (fun e => by have := h7 a e; omega), show one1 yi a = 0 from if_neg (by omega)]))
                    replace hRs := hid hRs
                    obtain ⟨Ak', ck', rfl, -⟩ := own_form own3
                    have z12 : w12.cell? ⟨yi, 0, none⟩ = some (.slice Av xs.length cv) := by rw [Lib.cell_of_heap hy12]; rfl
                    have f12 := Lib.frozen_of_heap hy12 0
                    have l12 := (Array.getElem?_eq_some_iff.1 hy12).1
                    replace happ := hid happ
                    have e9 : (itN true (j + 1) p0).1 = xs ++ [(nodeF true s).1] := by rw [hst.out]
                    have e8 : (itN true (j + 1) p0).2 = (nodeF true s).2 := by rw [hst.out]
                    have hNe := hRs.out
                    have hPe := hPs.out
                    rw [← e9] at hNe
                    rw [← e8] at hPe
                    replace hNe := hid hNe
                    replace hPe := hid hPe
                    clear e8 e9
                    clear hRn own3 hgr hloc hFs hy12 hxb hnew hR10 hNR hgu hP hRs hPs hN hL3 hNF hst hR
                    generalize (nodeF true s).1.keys.length = n7 at *
                    generalize (nodeF true s).1.recs.length = n8 at *
                    generalize (nodeF true s).1.kids.length = n9 at *
                    go_upto_region 16 with fail
                    go_wp2_with (at_builtin; refine wpList_app rfl _ _ 35 35 rfl _ _ rfl rfl _ happ.out ?_)
                    go_wp2_with fail
                    go_roundw
                    case rel => exact ⟨j + 1, k - 1, _, _, _, _, by omega, by omega, rfl, hNe, hPe⟩
                    case measure => simp [intOf]; omega
                  | true =>
                    have hl3 := hL3.out jj
                    try dsimp only at hl3
                    rw [hP1i.out] at hl3
                    have hst2 : Hid (itG true dStep (jj + 1) P1 = dStep (itG true dStep jj P1)) := by unfold Hid; rw [itG]; unfold stepG; rw [hok]; rfl
                    obtain ⟨A5, c5, hr5, -, -, -, -⟩ := hP.out
                    have z1 : wr.cell? ⟨r, 1, none⟩ = some (.bool (itG true dStep jj P1).2.ok) := by rw [Lib.cell_of_heap hr5]; rfl
                    have lr := (Array.getElem?_eq_some_iff.1 hr5).1
                    rw [hok] at z1
                    clear hr5
                    clear hok
                    have hwz := IntWalk.i64_in (z2 - 1) (by omega)
                    generalize itG true dStep jj P1 = p at *
                    have hkS : Hid (dStep p = (⟨p.1.keys, p.1.recs, p.1.kids ++ [twoV p.2]⟩, (tk 2 p.2).2)) := rfl
                    obtain ⟨Ad, cd, rfl, -⟩ := own_form hN.out.od
                    go_upto_region 15 with fail
                    have I0 : (fun w' : World => w'.cell? ⟨y, 2, none⟩ = some (.slice Ad p.1.kids.length cd)) wr.drew := (nd3_c hN.out.hy).2.2
                    refine region_J (fun w' : World => w'.cell? ⟨y, 2, none⟩ = some (.slice Ad p.1.kids.length cd)) 7 (by kernel_rfl) ?_
                    replace hN := hid (hN.out.up (FR.of_ext ((Ext.refl wr).drew_right)))
                    replace hP := hid (hP.out.ext ((Ext.refl wr).drew_right))
                    clear z1 lr
                    generalize wr.drew = w9 at *
                    refine J_take 0 (v := ?vd140) rfl (by kernel_rfl) (by kernel_rfl) (by kernel_rfl) (by kernel_rfl) (fun _ _ _ h => h) (Or.inl ⟨by rfl, ?yd140⟩) I0 ?rd140
                    case yd140 => (intro w hSw; have := hSw; (go_simp; with_reducible rfl))
                    simp only [Act.put, List.getElem_toArray, List.getElem_cons_zero, List.getElem_cons_succ, List.setIfInBounds_toArray, List.set_cons_zero, List.set_cons_succ]
                    refine J_take 1 (v := ?vd141) rfl (by kernel_rfl) (by kernel_rfl) (by kernel_rfl) (by kernel_rfl) (fun _ _ _ h => h) (Or.inl ⟨by rfl, ?yd141⟩) I0 ?rd141
                    case yd141 => (intro w hSw; have := hSw; (go_simp; with_reducible rfl))
                    simp only [Act.put, List.getElem_toArray, List.getElem_cons_zero, List.getElem_cons_succ, List.setIfInBounds_toArray, List.set_cons_zero, List.set_cons_succ]
                    refine J_take 2 (v := ?vd142) rfl (by kernel_rfl) (by kernel_rfl) (by kernel_rfl) (by kernel_rfl) (fun _ _ _ h => h) (Or.inl ⟨by rfl, ?yd142⟩) I0 ?rd142
                    case yd142 => (intro w hSw; have := hSw; (go_simp; with_reducible rfl))
                    simp only [Act.put, List.getElem_toArray, List.getElem_cons_zero, List.getElem_cons_succ, List.setIfInBounds_toArray, List.set_cons_zero, List.set_cons_succ]
                    refine J_one 3 rfl (by kernel_rfl) (fun K hK => ?_)
                    go_simp
                    refine (rtwo_any yi r p.2 w9 hP.out).mono ?_
                    rintro e' w10 ⟨rfl, hP10, hF10⟩
                    have hN10 := hid (hN.out.up hF10)
                    replace hP10 := hid hP10
                    have I1 : (fun w' : World => w'.cell? ⟨y, 2, none⟩ = some (.slice Ad p.1.kids.length cd)) w10 := (nd3_c hN10.out.hy).2.2
                    clear hN hP I0 hF10
                    refine hK _ _ ⟨fun _ => I1, ?_⟩
                    clear hK K
                    try simp only [Act.put, List.getElem_toArray, List.getElem_cons_zero, List.getElem_cons_succ, List.setIfInBounds_toArray, List.set_cons_zero, List.set_cons_succ]
                    obtain ⟨Z9, hZ9⟩ : ∃ Z9, Z9 = twoV p.2 := ⟨_, rfl⟩
                    simp only [← hZ9]
                    replace hZ9 := hid hZ9
                    have hxb := (Ext.refl w10).alloc_right (.cells #[.int .i64 Z9] 3)
                    have hRn : RdI (w10.alloc (.cells #[.int .i64 Z9] 3)) (some ⟨w10.heap.size, 0, none⟩) 1 1 [Z9] := rd_new1 w10 _ _
                    have hB9 : w0.heap.size ≤ (w10.alloc (.cells #[.int .i64 Z9] 3)).heap.size := Nat.le_trans hN10.out.fr.2.2.2.1 hxb.size
                    have how9 : (w10.alloc (.cells #[.int .i64 Z9] 3)).ownsRow w0.heap.size 3 1 (.slice Ad p.1.kids.length cd) p.1.kids.length (ints p.1.kids) := hxb.own hN10.out.od
                    obtain ⟨v', w12, happ, own3, hgr, hloc⟩ := app_at _ w0.heap.size 23 23 3 iI _ 1 8 Try.underlying23 hI0 hI1 hI2 hI3 rfl (by decide) _ _ _ how9 _ 1 1 _ hRn (ints_one [Z9]) (by unfold maxLen; omega) (by omega) hB9
                    rw [← ints_append] at own3
                    have hlk : (p.1.kids ++ [Z9]).length = p.1.kids.length + 1 := by simp
                    obtain ⟨hNs, hFs, hy12⟩ := hN10.out.add2 (s := Z9) hxb hgr (by rw [hlk]; exact own3) hloc
                    have hPs := hid (hP10.out.fr hFs (fun a ha => by have h7 := own_freshB hN10.out.od; have h6 := hN10.out.yl; show ob _ a + one1 y a = 0; rw [show ob _ a = 0 from if_neg (fun e => by have := h7 a e; omega), show one1 y a = 0 from if_neg (by omega)]))
                    replace hNs := hid hNs
                    obtain ⟨A9, c9, rfl, -⟩ := own_form own3
                    have I2' : (fun w' : World => w'.cell? ⟨y, 2, none⟩ = some (.slice Ad p.1.kids.length cd)) (w10.alloc (.cells #[.int .i64 Z9] 3)) := hxb.cell I1
                    have z12 := (nd3_c hy12).2.2
                    have I3 : (fun w' : World => w'.cell? ⟨y, 2, none⟩ = some (.slice Ad p.1.kids.length cd)) w12 := z12
                    have f12 := Lib.frozen_of_heap hy12 2
                    have l12 := (Array.getElem?_eq_some_iff.1 hy12).1
                    replace happ := hid happ
                    clear hRn own3 hgr hloc hFs hy12 hxb hN10 hP10 hB9 how9
                    refine J_one 4 rfl (by kernel_rfl) (fun K hK => ?_)
                    go_simp
                    refine hK _ _ ⟨fun _ => I2', ?_⟩
                    clear hK K
                    try simp only [Act.put, List.getElem_toArray, List.getElem_cons_zero, List.getElem_cons_succ, List.setIfInBounds_toArray, List.set_cons_zero, List.set_cons_succ]
                    generalize w10.heap.size = qb at *
                    generalize w10.alloc (.cells #[.int .i64 Z9] 3) = w11' at *
                    refine J_one 5 rfl (by kernel_rfl) (fun K hK => ?_)
                    refine step_run rfl _ (ex_append _ _ _ _ rfl _ _ (by simp [Act.eval, Act.put]) (by simp [Act.eval, Act.put]) _ happ.out) ?_
                    refine hK _ _ ⟨fun _ => I3, ?_⟩
                    clear hK K happ I1 I2'
                    try simp only [Act.put, List.getElem_toArray, List.getElem_cons_zero, List.getElem_cons_succ, List.setIfInBounds_toArray, List.set_cons_zero, List.set_cons_succ]
                    refine J_one 6 rfl (by kernel_rfl) (fun K hK => ?_)
                    go_simp
                    refine hK _ _ ⟨fun _ => I3, ?_⟩
                    clear hK K
                    try simp only [Act.put, List.getElem_toArray, List.getElem_cons_zero, List.getElem_cons_succ, List.setIfInBounds_toArray, List.set_cons_zero, List.set_cons_succ]
                    refine J_one 7 rfl (by kernel_rfl) (fun K hK => ?_)
                    go_simp
                    refine hK _ _ ⟨fun h => absurd rfl h, ?_⟩
                    clear hK K
                    refine J_done (by kernel_rfl) (OnlyOn.normal ?_)
                    clear I3 z12 f12 l12
                    have hNe : Hid (NDx w0 (w12.setCell ⟨y, 2, none⟩ (.slice A9 (p.1.kids.length + 1) c9)) r y kv rv (.slice A9 (p.1.kids.length + 1) c9) (itG true dStep (jj + 1) P1).1) := by
                      rw [hst2.out, hkS.out, ← hZ9.out]
                      exact hNs
                    have hPe : Hid (RQ yi (w12.setCell ⟨y, 2, none⟩ (.slice A9 (p.1.kids.length + 1) c9)) r (itG true dStep (jj + 1) P1).2) := by
                      rw [hst2.out, hkS.out]
                      exact hPs
                    clear hNs hPs hZ9 hlk hkS hst2
                    go_wp2_with fail
                    go_roundw
                    case rel => exact ⟨jj + 1, kk - 1, _, _, _, _, by omega, by omega, rfl, hNe, hPe⟩
                    case measure => simp [intOf]; omega
            | true =>
              have hl1 := hL1.out jj
              have hl2 := hL2.out jj
              rw [hp0.out.2] at hl1 hl2
              dsimp only [List.length_nil] at hl1 hl2
              have hst2 : Hid (itG true kStep (jj + 1) P0 = kStep (itG true kStep jj P0)) := by unfold Hid; rw [itG]; unfold stepG; rw [hok]; rfl
              obtain ⟨A5, c5, hr5, -, -, -, -⟩ := hP.out
              have z1 : wr.cell? ⟨r, 1, none⟩ = some (.bool (itG true kStep jj P0).2.ok) := by rw [Lib.cell_of_heap hr5]; rfl
              have lr := (Array.getElem?_eq_some_iff.1 hr5).1
              rw [hok] at z1
              clear hr5
              clear hok
              have hwz := IntWalk.i64_in (z2 - 1) (by omega)
              obtain ⟨s00, rfl⟩ : ∃ s00, s00 = s := ⟨_, rfl⟩
              generalize itG true kStep jj P0 = p at *
              obtain ⟨s, hs⟩ : ∃ s, s = p.2 := ⟨_, rfl⟩
              have hr9 := one_rng (hP.out.isB)
              rw [← hs] at hr9 hP
              obtain ⟨m, hm⟩ : ∃ m : Nat, oneV s = (m : Int) := ⟨(oneV s).toNat, by omega⟩
              have hmb : m ≤ 255 := by omega
              have hkS : Hid (kStep p = (⟨p.1.keys ++ [strI (tk m (tk 1 s).2).1], p.1.recs ++ [twoV (tk m (tk 1 s).2).2], p.1.kids⟩, (tk 2 (tk m (tk 1 s).2).2).2)) := by
                have e : (oneV p.2).toNat = m := by rw [← hs]; omega
                unfold Hid kStep
                rw [e, ← hs]
              replace hm := hid hm
              replace hs := hid hs
              obtain ⟨Ak, ck, rfl, -⟩ := own_form hN.out.ok
              obtain ⟨Ar, cr, rfl, -⟩ := own_form hN.out.or_
              clear hr9
              go_upto_region 11 with fail
              have I0 : (fun w' : World => w'.cell? ⟨y, 0, none⟩ = some (.slice Ak p.1.keys.length ck)) wr.drew := (nd3_c hN.out.hy).1
              refine region_J (fun w' : World => w'.cell? ⟨y, 0, none⟩ = some (.slice Ak p.1.keys.length ck)) 10 (by kernel_rfl) ?_
              replace hN := hid (hN.out.up (FR.of_ext ((Ext.refl wr).drew_right)))
              replace hP := hid (hP.out.ext ((Ext.refl wr).drew_right))
              clear z1 lr
              generalize wr.drew = w9 at *
              refine J_take 0 (v := ?vk80) rfl (by kernel_rfl) (by kernel_rfl) (by kernel_rfl) (by kernel_rfl) (fun _ _ _ h => h) (Or.inl ⟨by rfl, ?yk80⟩) I0 ?rk80
              case yk80 => (intro w hSw; have := hSw; (go_simp; with_reducible rfl))
              simp only [Act.put, List.getElem_toArray, List.getElem_cons_zero, List.getElem_cons_succ, List.setIfInBounds_toArray, List.set_cons_zero, List.set_cons_succ]
              refine J_take 1 (v := ?vk81) rfl (by kernel_rfl) (by kernel_rfl) (by kernel_rfl) (by kernel_rfl) (fun _ _ _ h => h) (Or.inl ⟨by rfl, ?yk81⟩) I0 ?rk81
              case yk81 => (intro w hSw; have := hSw; (go_simp; with_reducible rfl))
              simp only [Act.put, List.getElem_toArray, List.getElem_cons_zero, List.getElem_cons_succ, List.setIfInBounds_toArray, List.set_cons_zero, List.set_cons_succ]
              refine J_take 2 (v := ?vk82) rfl (by kernel_rfl) (by kernel_rfl) (by kernel_rfl) (by kernel_rfl) (fun _ _ _ h => h) (Or.inl ⟨by rfl, ?yk82⟩) I0 ?rk82
              case yk82 => (intro w hSw; have := hSw; (go_simp; with_reducible rfl))
              simp only [Act.put, List.getElem_toArray, List.getElem_cons_zero, List.getElem_cons_succ, List.setIfInBounds_toArray, List.set_cons_zero, List.set_cons_succ]
              refine J_take 3 (v := ?vk83) rfl (by kernel_rfl) (by kernel_rfl) (by kernel_rfl) (by kernel_rfl) (fun _ _ _ h => h) (Or.inl ⟨by rfl, ?yk83⟩) I0 ?rk83
              case yk83 => (intro w hSw; have := hSw; (go_simp; with_reducible rfl))
              simp only [Act.put, List.getElem_toArray, List.getElem_cons_zero, List.getElem_cons_succ, List.setIfInBounds_toArray, List.set_cons_zero, List.set_cons_succ]
              refine J_one 4 rfl (by kernel_rfl) (fun K hK => ?_)
              go_simp
              have hO := rone_any yi r s w9 hP.out
              rw [hm.out] at hO
              refine hO.mono ?_
              rintro e' w10 ⟨rfl, hP10, hF10⟩
              clear hO
              have hN10 := hid (hN.out.up hF10)
              have I1 : (fun w' : World => w'.cell? ⟨y, 0, none⟩ = some (.slice Ak p.1.keys.length ck)) w10 := (nd3_c hN10.out.hy).1
              clear hN hP I0 hF10
              refine hK _ _ ⟨fun _ => I1, ?_⟩
              clear hK K
              try simp only [Act.put, List.getElem_toArray, List.getElem_cons_zero, List.getElem_cons_succ, List.setIfInBounds_toArray, List.set_cons_zero, List.set_cons_succ]
              refine J_one 5 rfl (by kernel_rfl) (fun K hK => ?_)
              go_simp
              refine (rtake_any yi r m _ w10 hP10 (by omega)).mono ?_
              rintro e' w11 ⟨Ab, cb, rfl, hRb, hP11, hF11, -⟩
              have hN11 := hid (hN10.out.up hF11)
              have I2 : (fun w' : World => w'.cell? ⟨y, 0, none⟩ = some (.slice Ak p.1.keys.length ck)) w11 := (nd3_c hN11.out.hy).1
              have hcv := conv_any hRb
              replace hP11 := hid hP11
              clear hN10 hP10 I1 hF11 hRb
              refine hK _ _ ⟨fun _ => I2, ?_⟩
              clear hK K
              try simp only [Act.put, List.getElem_toArray, List.getElem_cons_zero, List.getElem_cons_succ, List.setIfInBounds_toArray, List.set_cons_zero, List.set_cons_succ]
              refine J_one 6 rfl (by kernel_rfl) (fun K hK => ?_)
              go_simp
              refine hK _ _ ⟨fun _ => I2, ?_⟩
              clear hK K hcv
              try simp only [Act.put, List.getElem_toArray, List.getElem_cons_zero, List.getElem_cons_succ, List.setIfInBounds_toArray, List.set_cons_zero, List.set_cons_succ]
              obtain ⟨S9, hS9⟩ : ∃ S9, S9 = strI (tk m (tk 1 s).2).1 := ⟨_, rfl⟩
              simp only [← hS9]
              replace hS9 := hid hS9
              have hxb := (Ext.refl w11).alloc_right (.cells #[.string S9] 9)
              have hRn : Rd (w11.alloc (.cells #[.string S9] 9)) 1 (some ⟨w11.heap.size, 0, none⟩) 1 1 (strv [S9]) := rd_new1 w11 _ _
              have hB9 : w0.heap.size ≤ (w11.alloc (.cells #[.string S9] 9)).heap.size := Nat.le_trans hN11.out.fr.2.2.2.1 hxb.size
              obtain ⟨kv', w12, happ, own3, hgr, hloc⟩ := app_at _ w0.heap.size 22 22 9 iS _ 1 16 Try.underlying22 hS0 hS1 hS2 hS3 rfl (by decide) _ _ _ (hxb.own hN11.out.ok) _ 1 1 _ hRn (strv_one [S9]) (by unfold maxLen; omega) (by omega) hB9
              rw [← strv_app] at own3
              have hlk : (p.1.keys ++ [S9]).length = p.1.keys.length + 1 := by simp
              obtain ⟨hNs, hFs, hy12⟩ := hN11.out.add0 (s := S9) hxb hgr (by rw [hlk]; exact own3) hloc
              have hPs := hid (hP11.out.fr hFs (fun a ha => by have h7 := own_freshB hN11.out.ok; have h6 := hN11.out.yl; show ob _ a + one1 y a = 0; rw [show ob _ a = 0 from if_neg (fun e => by have := h7 a e; omega), show one1 y a = 0 from if_neg (by omega)]))
              replace hNs := hid hNs
              obtain ⟨Ak', ck', rfl, -⟩ := own_form own3
              have I2' : (fun w' : World => w'.cell? ⟨y, 0, none⟩ = some (.slice Ak p.1.keys.length ck)) (w11.alloc (.cells #[.string S9] 9)) := hxb.cell I2
              have z12 := nd3_c hy12
              have I3 : (fun w' : World => w'.cell? ⟨y, 0, none⟩ = some (.slice Ak p.1.keys.length ck)) w12 := z12.1
              have f12 := Lib.frozen_of_heap hy12 0
              have l12 := (Array.getElem?_eq_some_iff.1 hy12).1
              replace happ := hid happ
              clear hRn own3 hgr hloc hFs hy12 hxb hN11 hP11 hB9
              refine J_one 7 rfl (by kernel_rfl) (fun K hK => ?_)
              go_simp
              refine hK _ _ ⟨fun _ => I2', ?_⟩
              clear hK K
              try simp only [Act.put, List.getElem_toArray, List.getElem_cons_zero, List.getElem_cons_succ, List.setIfInBounds_toArray, List.set_cons_zero, List.set_cons_succ]
              generalize w11.heap.size = qb at *
              generalize w11.alloc (.cells #[.string S9] 9) = w11' at *
              refine J_one 8 rfl (by kernel_rfl) (fun K hK => ?_)
              refine step_run rfl _ (ex_append _ _ _ _ rfl _ _ (by simp [Act.eval, Act.put]) (by simp [Act.eval, Act.put]) _ happ.out) ?_
              refine hK _ _ ⟨fun _ => I3, ?_⟩
              clear hK K happ I2 I2'
              try simp only [Act.put, List.getElem_toArray, List.getElem_cons_zero, List.getElem_cons_succ, List.setIfInBounds_toArray, List.set_cons_zero, List.set_cons_succ]
              refine J_one 9 rfl (by kernel_rfl) (fun K hK => ?_)
              go_simp
              refine hK _ _ ⟨fun _ => I3, ?_⟩
              clear hK K
              try simp only [Act.put, List.getElem_toArray, List.getElem_cons_zero, List.getElem_cons_succ, List.setIfInBounds_toArray, List.set_cons_zero, List.set_cons_succ]
              obtain ⟨z12, -, -⟩ := z12
              refine J_one 10 rfl (by kernel_rfl) (fun K hK => ?_)
              go_simp
              refine hK _ _ ⟨fun h => absurd rfl h, ?_⟩
              clear hK K
              refine J_done (by kernel_rfl) (OnlyOn.normal ?_)
              clear I3 z12 f12 l12
              have hN := hNs
              have hP := hPs
              clear hNs hPs
              generalize w12.setCell ⟨y, 0, none⟩ (.slice Ak' (p.1.keys.length + 1) ck') = wr at *
              clear hlk
              go_upto_region 12 with fail
              have I0 : (fun w' : World => w'.cell? ⟨y, 1, none⟩ = some (.slice Ar p.1.recs.length cr)) wr.drew := (nd3_c hN.out.hy).2.1
              refine region_J (fun w' : World => w'.cell? ⟨y, 1, none⟩ = some (.slice Ar p.1.recs.length cr)) 7 (by kernel_rfl) ?_
              replace hN := hid (hN.out.up (FR.of_ext ((Ext.refl wr).drew_right)))
              replace hP := hid (hP.out.ext ((Ext.refl wr).drew_right))
              generalize wr.drew = w9 at *
              refine J_take 0 (v := ?vr80) rfl (by kernel_rfl) (by kernel_rfl) (by kernel_rfl) (by kernel_rfl) (fun _ _ _ h => h) (Or.inl ⟨by rfl, ?yr80⟩) I0 ?rr80
              case yr80 => (intro w hSw; have := hSw; (go_simp; with_reducible rfl))
              simp only [Act.put, List.getElem_toArray, List.getElem_cons_zero, List.getElem_cons_succ, List.setIfInBounds_toArray, List.set_cons_zero, List.set_cons_succ]
              refine J_take 1 (v := ?vr81) rfl (by kernel_rfl) (by kernel_rfl) (by kernel_rfl) (by kernel_rfl) (fun _ _ _ h => h) (Or.inl ⟨by rfl, ?yr81⟩) I0 ?rr81
              case yr81 => (intro w hSw; have := hSw; (go_simp; with_reducible rfl))
              simp only [Act.put, List.getElem_toArray, List.getElem_cons_zero, List.getElem_cons_succ, List.setIfInBounds_toArray, List.set_cons_zero, List.set_cons_succ]
              refine J_take 2 (v := ?vr82) rfl (by kernel_rfl) (by kernel_rfl) (by kernel_rfl) (by kernel_rfl) (fun _ _ _ h => h) (Or.inl ⟨by rfl, ?yr82⟩) I0 ?rr82
              case yr82 => (intro w hSw; have := hSw; (go_simp; with_reducible rfl))
              simp only [Act.put, List.getElem_toArray, List.getElem_cons_zero, List.getElem_cons_succ, List.setIfInBounds_toArray, List.set_cons_zero, List.set_cons_succ]
              refine J_one 3 rfl (by kernel_rfl) (fun K hK => ?_)
              go_simp
              refine (rtwo_any yi r (tk m (tk 1 s).2).2 w9 hP.out).mono ?_
              rintro e' w10 ⟨rfl, hP10, hF10⟩
              have hN10 := hid (hN.out.up hF10)
              replace hP10 := hid hP10
              have I1 : (fun w' : World => w'.cell? ⟨y, 1, none⟩ = some (.slice Ar p.1.recs.length cr)) w10 := (nd3_c hN10.out.hy).2.1
              clear hN hP I0 hF10
              refine hK _ _ ⟨fun _ => I1, ?_⟩
              clear hK K
              try simp only [Act.put, List.getElem_toArray, List.getElem_cons_zero, List.getElem_cons_succ, List.setIfInBounds_toArray, List.set_cons_zero, List.set_cons_succ]
              obtain ⟨Z9, hZ9⟩ : ∃ Z9, Z9 = twoV (tk m (tk 1 s).2).2 := ⟨_, rfl⟩
              simp only [← hZ9]
              replace hZ9 := hid hZ9
              have hxb := (Ext.refl w10).alloc_right (.cells #[.int .i64 Z9] 3)
              have hRn : RdI (w10.alloc (.cells #[.int .i64 Z9] 3)) (some ⟨w10.heap.size, 0, none⟩) 1 1 [Z9] := rd_new1 w10 _ _
              have hB9 : w0.heap.size ≤ (w10.alloc (.cells #[.int .i64 Z9] 3)).heap.size := Nat.le_trans hN10.out.fr.2.2.2.1 hxb.size
              have how9 : (w10.alloc (.cells #[.int .i64 Z9] 3)).ownsRow w0.heap.size 3 1 (.slice Ar p.1.recs.length cr) p.1.recs.length (ints p.1.recs) := hxb.own hN10.out.or_
              obtain ⟨v', w12, happ, own3, hgr, hloc⟩ := app_at _ w0.heap.size 23 23 3 iI _ 1 8 Try.underlying23 hI0 hI1 hI2 hI3 rfl (by decide) _ _ _ how9 _ 1 1 _ hRn (ints_one [Z9]) (by unfold maxLen; omega) (by omega) hB9
              rw [← ints_append] at own3
              have hlk : (p.1.recs ++ [Z9]).length = p.1.recs.length + 1 := by simp
              obtain ⟨hNs, hFs, hy12⟩ := hN10.out.add1 (s := Z9) hxb hgr (by rw [hlk]; exact own3) hloc
              have hPs := hid (hP10.out.fr hFs (fun a ha => by have h7 := own_freshB hN10.out.or_; have h6 := hN10.out.yl; show ob _ a + one1 y a = 0; rw [show ob _ a = 0 from if_neg (fun e => by have := h7 a e; omega), show one1 y a = 0 from if_neg (by omega)]))
              replace hNs := hid hNs
              obtain ⟨A9, c9, rfl, -⟩ := own_form own3
              have I2' : (fun w' : World => w'.cell? ⟨y, 1, none⟩ = some (.slice Ar p.1.recs.length cr)) (w10.alloc (.cells #[.int .i64 Z9] 3)) := hxb.cell I1
              have z12 := (nd3_c hy12).2.1
              have I3 : (fun w' : World => w'.cell? ⟨y, 1, none⟩ = some (.slice Ar p.1.recs.length cr)) w12 := z12
              have f12 := Lib.frozen_of_heap hy12 1
              have l12 := (Array.getElem?_eq_some_iff.1 hy12).1
              replace happ := hid happ
              clear hRn own3 hgr hloc hFs hy12 hxb hN10 hP10 hB9 how9
              refine J_one 4 rfl (by kernel_rfl) (fun K hK => ?_)
              go_simp
              refine hK _ _ ⟨fun _ => I2', ?_⟩
              clear hK K
              try simp only [Act.put, List.getElem_toArray, List.getElem_cons_zero, List.getElem_cons_succ, List.setIfInBounds_toArray, List.set_cons_zero, List.set_cons_succ]
              generalize w10.heap.size = qb at *
              generalize w10.alloc (.cells #[.int .i64 Z9] 3) = w11' at *
              refine J_one 5 rfl (by kernel_rfl) (fun K hK => ?_)
              refine step_run rfl _ (ex_append _ _ _ _ rfl _ _ (by simp [Act.eval, Act.put]) (by simp [Act.eval, Act.put]) _ happ.out) ?_
              refine hK _ _ ⟨fun _ => I3, ?_⟩
              clear hK K happ I1 I2'
              try simp only [Act.put, List.getElem_toArray, List.getElem_cons_zero, List.getElem_cons_succ, List.setIfInBounds_toArray, List.set_cons_zero, List.set_cons_succ]
              refine J_one 6 rfl (by kernel_rfl) (fun K hK => ?_)
              go_simp
              refine hK _ _ ⟨fun _ => I3, ?_⟩
              clear hK K
              try simp only [Act.put, List.getElem_toArray, List.getElem_cons_zero, List.getElem_cons_succ, List.setIfInBounds_toArray, List.set_cons_zero, List.set_cons_succ]
              refine J_one 7 rfl (by kernel_rfl) (fun K hK => ?_)
              go_simp
              refine hK _ _ ⟨fun h => absurd rfl h, ?_⟩
              clear hK K
              refine J_done (by kernel_rfl) (OnlyOn.normal ?_)
              clear I3 z12 f12 l12
              have hNe : Hid (NDx w0 (w12.setCell ⟨y, 1, none⟩ (.slice A9 (p.1.recs.length + 1) c9)) r y (.slice Ak' (p.1.keys.length + 1) ck') (.slice A9 (p.1.recs.length + 1) c9) dv (itG true kStep (jj + 1) P0).1) := by
                rw [hst2.out, hkS.out, ← hS9.out, ← hZ9.out]
                exact hNs
              have hPe : Hid (RQ yi (w12.setCell ⟨y, 1, none⟩ (.slice A9 (p.1.recs.length + 1) c9)) r (itG true kStep (jj + 1) P0).2) := by
                rw [hst2.out, hkS.out]
                exact hPs
              clear hNs hPs hS9 hZ9 hlk hkS hst2
              go_wp2_with fail
              go_roundw
              case rel => exact ⟨jj + 1, kk - 1, _, _, _, _, by omega, by omega, rfl, hNe, hPe⟩
              case measure => simp [intOf]; omega
end Go.Proofs.Ytpijfiaecicpfaa
