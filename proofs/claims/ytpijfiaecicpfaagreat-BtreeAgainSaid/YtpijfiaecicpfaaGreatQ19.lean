/-
  An act played against another state of the reference; several trees side by side; Two indexes that are the same.
-/
import Derived.Test.YtpijfiaecicpfaaGreatQ9
import Derived.Test.YtpijfiaecicpfaaGreatQ17
import Derived.Test.YtpijfiaecicpfaaGreatQ18
set_option maxRecDepth 100000
set_option maxHeartbeats 40000000
set_option linter.unusedVariables false
set_option linter.unusedSimpArgs false
namespace Go.Proofs.YtpijfiaecicpfaaGreat
open Go.RowKit Go.Shelf
theorem nd3_set2 {w : World} {p : Nat} {a b c : Value} {t : TypeId} (h : w.heap[p]? = some (.cells #[a, b, c] t (0, 0))) (u : Value) : (w.setCell ⟨p, 2, none⟩ u).heap[p]? = some (.cells #[a, b, u] t (0, 0)) := by
  simp [World.setCell, Array.getElem?_modify, h]
theorem put3 {w : World} {b : Nat} {a0 a1 a2 : Value} {t : TypeId} (h : w.heap[b]? = some (.cells #[a0, a1, a2] t (0, 0))) (v0 v1 v2 : Value) : (((w.setCell ⟨b, 0, none⟩ v0).setCell ⟨b, 1, none⟩ v1).setCell ⟨b, 2, none⟩ v2).heap[b]? = some (.cells #[v0, v1, v2] t (0, 0)) := nd3_set2 (nd3_set1 (nd3_set0 h v0) v1) v2
theorem put3_far {w : World} {b p : Nat} {o : Obj} (hne : p ≠ b) (h : w.heap[p]? = some o) (v0 v1 v2 : Value) : (((w.setCell ⟨b, 0, none⟩ v0).setCell ⟨b, 1, none⟩ v1).setCell ⟨b, 2, none⟩ v2).heap[p]? = some o := by
  have hne' : b ≠ p := fun e => hne e.symm
  simp [World.setCell, Array.getElem?_modify, hne', h]
theorem sameI_any (A A' : Option Addr) (n c c' : Nat) (xs : List Nx) (w : World) (hr : RX w A n c xs) (hr' : RX w A' n c' xs) : Calls Tryz.prog 11 #[.agg #[.slice A n c], .agg #[.slice A' n c']] w (Give (.bool true) w) := by
  have hm := RX.max hr
  have hm' := RX.max hr'
  have hx1 := (Ext.refl w).alloc_right (.cells #[.slice A n c] 40)
  have hx2 := (Ext.refl (w.alloc (.cells #[.slice A n c] 40))).alloc_right (.cells #[.slice A' n c'] 40)
  have h1 := heap_alloc_new w (.cells #[.slice A n c] 40)
  have h2 := heap_alloc_new (w.alloc (.cells #[.slice A n c] 40)) (.cells #[.slice A' n c'] 40)
  replace h1 := (hx2.block (Array.getElem?_eq_some_iff.1 h1).1).trans h1
  rw [World.size_alloc] at h2
  replace hx1 := hid (hx1.trans hx2)
  clear hx2
  replace hr := hid hr
  replace hr' := hid hr'
  go_enter Tryz.func11, Tryz.ntmps11
  go_upto_region 1 with fail
  obtain ⟨b0, hb0⟩ : ∃ b0, b0 = w.heap.size := ⟨_, rfl⟩
  obtain ⟨b1, hb1⟩ : ∃ b1, b1 = b0 + 1 := ⟨_, rfl⟩
  try simp only [World.size_alloc]
  rw [← hb0] at h1 h2
  simp only [← hb0]
  rw [← hb1] at h2
  simp only [← hb1]
  replace hb0 := hid hb0
  replace hb1 := hid hb1
  generalize (w.alloc (.cells #[.slice A n c] 40)).alloc (.cells #[.slice A' n c'] 40) = w1 at *
  have hcell : Hid (∀ w', Ext w1 w' → w'.cell? ⟨b0, 0, none⟩ = some (.slice A n c) ∧ w'.cell? ⟨b1, 0, none⟩ = some (.slice A' n c') ∧ b0 < w'.heap.size ∧ b1 < w'.heap.size) := fun w' hx => ⟨hx.cell (by rw [Lib.cell_of_heap h1]; rfl), hx.cell (by rw [Lib.cell_of_heap h2]; rfl), Nat.lt_of_lt_of_le (Array.getElem?_eq_some_iff.1 h1).1 hx.size, Nat.lt_of_lt_of_le (Array.getElem?_eq_some_iff.1 h2).1 hx.size⟩
  clear h1 h2
  obtain ⟨za, zb, la, lb⟩ := hcell.out _ (Ext.refl _)
  go_wp2_with fail
  clear za zb la lb
  go_loopw [5] (fun i wr => ∃ k : Nat, k ≤ n ∧ i = .int .i64 k ∧ Hid (Ext w1 wr)) (fun i _ => n - (intOf i).toNat)
  case atStart => exact ⟨0, by omega, rfl, Ext.refl _⟩
  case round =>
    obtain ⟨k, hk, rfl, hx⟩ := hrel
    obtain ⟨za, zb, la, lb⟩ := hcell.out _ hx.out
    by_cases hlt : k < n
    · obtain ⟨ad0, A1, c1, A2, c2, A3, c3, rfl, a0, a1, a2, r1, r2, r3⟩ := hr.out.at_ hlt
      obtain ⟨bd0, D1, e1, D2, e2, D3, e3, rfl, d0, d1, d2, g1, g2, g3⟩ := hr'.out.at_ hlt
      have hki : (k : Int) < (n : Int) := by omega
      have q1 := (Rd.max r1).1
      have q2 := (Rd.max r2).1
      have q3 := (Rd.max r3).1
      obtain ⟨m1, hm1⟩ : ∃ m1, (xth xs k).keys.length = m1 := ⟨_, rfl⟩
      obtain ⟨m2, hm2⟩ : ∃ m2, (xth xs k).recs.length = m2 := ⟨_, rfl⟩
      obtain ⟨m3, hm3⟩ : ∃ m3, (xth xs k).kids.length = m3 := ⟨_, rfl⟩
      replace r1 := hid r1
      replace r2 := hid r2
      replace r3 := hid r3
      replace g1 := hid g1
      replace g2 := hid g2
      replace g3 := hid g3
      rw [hm1] at a0 d0 q1
      rw [hm2] at a1 d1 q2
      rw [hm3] at a2 d2 q3
      replace hm1 := hid hm1
      replace hm2 := hid hm2
      replace hm3 := hid hm3
      have hxw := hx1.out.trans hx.out
      replace a0 := hxw.cell a0
      replace a1 := hxw.cell a1
      replace a2 := hxw.cell a2
      replace d0 := hxw.cell d0
      replace d1 := hxw.cell d1
      replace d2 := hxw.cell d2
      clear hxw
      go_upto_region 6 with fail
      have hS : Hid (∀ w', Ext wr.drew w' → (fun w' : World => w'.cell? ⟨b0, 0, none⟩ = some (.slice (some ad0) n c) ∧ w'.cell? ⟨b1, 0, none⟩ = some (.slice (some bd0) n c') ∧ w'.cell? (ad0.add (k * 3)) = some (.slice A1 m1 c1) ∧ w'.cell? ⟨(ad0.add (k * 3)).block, (ad0.add (k * 3)).off + 1, none⟩ = some (.slice A2 m2 c2) ∧ w'.cell? ⟨(ad0.add (k * 3)).block, (ad0.add (k * 3)).off + 2, none⟩ = some (.slice A3 m3 c3) ∧ w'.cell? (bd0.add (k * 3)) = some (.slice D1 m1 e1) ∧ w'.cell? ⟨(bd0.add (k * 3)).block, (bd0.add (k * 3)).off + 1, none⟩ = some (.slice D2 m2 e2) ∧ w'.cell? ⟨(bd0.add (k * 3)).block, (bd0.add (k * 3)).off + 2, none⟩ = some (.slice D3 m3 e3)) w') := fun w' hx => by
        have h9 := ((Ext.refl wr).drew_right).trans hx
        exact ⟨h9.cell za, h9.cell zb, h9.cell a0, h9.cell a1, h9.cell a2, h9.cell d0, h9.cell d1, h9.cell d2⟩
      have I0 : (fun w' : World => w'.cell? ⟨b0, 0, none⟩ = some (.slice (some ad0) n c) ∧ w'.cell? ⟨b1, 0, none⟩ = some (.slice (some bd0) n c') ∧ w'.cell? (ad0.add (k * 3)) = some (.slice A1 m1 c1) ∧ w'.cell? ⟨(ad0.add (k * 3)).block, (ad0.add (k * 3)).off + 1, none⟩ = some (.slice A2 m2 c2) ∧ w'.cell? ⟨(ad0.add (k * 3)).block, (ad0.add (k * 3)).off + 2, none⟩ = some (.slice A3 m3 c3) ∧ w'.cell? (bd0.add (k * 3)) = some (.slice D1 m1 e1) ∧ w'.cell? ⟨(bd0.add (k * 3)).block, (bd0.add (k * 3)).off + 1, none⟩ = some (.slice D2 m2 e2) ∧ w'.cell? ⟨(bd0.add (k * 3)).block, (bd0.add (k * 3)).off + 2, none⟩ = some (.slice D3 m3 e3)) wr.drew := hS.out _ (Ext.refl _)
      refine region_J (fun w' : World => w'.cell? ⟨b0, 0, none⟩ = some (.slice (some ad0) n c) ∧ w'.cell? ⟨b1, 0, none⟩ = some (.slice (some bd0) n c') ∧ w'.cell? (ad0.add (k * 3)) = some (.slice A1 m1 c1) ∧ w'.cell? ⟨(ad0.add (k * 3)).block, (ad0.add (k * 3)).off + 1, none⟩ = some (.slice A2 m2 c2) ∧ w'.cell? ⟨(ad0.add (k * 3)).block, (ad0.add (k * 3)).off + 2, none⟩ = some (.slice A3 m3 c3) ∧ w'.cell? (bd0.add (k * 3)) = some (.slice D1 m1 e1) ∧ w'.cell? ⟨(bd0.add (k * 3)).block, (bd0.add (k * 3)).off + 1, none⟩ = some (.slice D2 m2 e2) ∧ w'.cell? ⟨(bd0.add (k * 3)).block, (bd0.add (k * 3)).off + 2, none⟩ = some (.slice D3 m3 e3)) 14 (by kernel_rfl) ?_
      have hx9 := hid hx.out.drew_right
      clear za zb a0 a1 a2 d0 d1 d2 la lb hx
      generalize wr.drew = w9 at *
      refine JO 0 (v := ?vr0) I0 ?yr0 ?rr0
      case yr0 => (intro w h; obtain ⟨_, _, _, _, _, _, _, _⟩ := h; go_simp; with_reducible rfl)
      simp only [Act.put, lyA, lyB, lyC, lyD, lyE, lyF]
      refine JO 1 (v := ?vr1) I0 ?yr1 ?rr1
      case yr1 => (intro w h; obtain ⟨_, _, _, _, _, _, _, _⟩ := h; go_simp; with_reducible rfl)
      simp only [Act.put, lyA, lyB, lyC, lyD, lyE, lyF]
      refine JO 2 (v := ?vr2) I0 ?yr2 ?rr2
      case yr2 => (intro w h; obtain ⟨_, _, _, _, _, _, _, _⟩ := h; go_simp; with_reducible rfl)
      simp only [Act.put, lyA, lyB, lyC, lyD, lyE, lyF]
      refine JO 3 (v := ?vr3) I0 ?yr3 ?rr3
      case yr3 => (intro w h; obtain ⟨_, _, _, _, _, _, _, _⟩ := h; go_simp; with_reducible rfl)
      simp only [Act.put, lyA, lyB, lyC, lyD, lyE, lyF]
      refine JO 4 (v := ?vr4) I0 ?yr4 ?rr4
      case yr4 => (intro w h; obtain ⟨_, _, _, _, _, _, _, _⟩ := h; go_simp; with_reducible rfl)
      simp only [Act.put, lyA, lyB, lyC, lyD, lyE, lyF]
      refine JO 5 (v := ?vr5) I0 ?yr5 ?rr5
      case yr5 => (intro w h; obtain ⟨_, _, _, _, _, _, _, _⟩ := h; go_simp; with_reducible rfl)
      simp only [Act.put, lyA, lyB, lyC, lyD, lyE, lyF]
      refine JO 6 (v := ?vr6) I0 ?yr6 ?rr6
      case yr6 => (intro w h; obtain ⟨_, _, _, _, _, _, _, _⟩ := h; go_simp; with_reducible rfl)
      simp only [Act.put, lyA, lyB, lyC, lyD, lyE, lyF]
      refine JO 7 (v := ?vr7) I0 ?yr7 ?rr7
      case yr7 => (intro w h; obtain ⟨_, _, _, _, _, _, _, _⟩ := h; go_simp; with_reducible rfl)
      simp only [Act.put, lyA, lyB, lyC, lyD, lyE, lyF]
      refine JO 8 (v := ?vr8) I0 ?yr8 ?rr8
      case yr8 => (intro w h; obtain ⟨_, _, _, _, _, _, _, _⟩ := h; go_simp; with_reducible rfl)
      simp only [Act.put, lyA, lyB, lyC, lyD, lyE, lyF]
      refine JO 9 (v := ?vr9) I0 ?yr9 ?rr9
      case yr9 => (intro w h; obtain ⟨_, _, _, _, _, _, _, _⟩ := h; go_simp; with_reducible rfl)
      simp only [Act.put, lyA, lyB, lyC, lyD, lyE, lyF]
      clear I0
      refine J_two 10 11 rfl rfl (by kernel_rfl) (fun K hK => ?_) (fun K hK => ?_)
      ·
        go_simp
        have x1 := (Ext.refl w9).alloc_right (.cells #[.slice none 0 0, .slice none 0 0, .slice none 0 0] 48)
        refine hK _ _ ⟨fun _ => hS.out _ x1, ?_⟩
        clear hK K
        try simp only [Act.put, lyA, lyB, lyC, lyD, lyE, lyF]
        refine J_one 11 rfl (by kernel_rfl) (fun K hK => ?_)
        go_simp
        have x2 := hid (x1.trans ((Ext.refl (w9.alloc (.cells #[.slice none 0 0, .slice none 0 0, .slice none 0 0] 48))).alloc_right (.cells #[.slice none 0 0, .slice none 0 0, .slice none 0 0] 48)))
        refine hK _ _ ⟨fun _ => hS.out _ x2.out, ?_⟩
        clear hK K x1
        try simp only [Act.put, lyA, lyB, lyC, lyD, lyE, lyF]
        have hn1 := heap_alloc_new w9 (.cells #[.slice none 0 0, .slice none 0 0, .slice none 0 0] 48)
        have hn2 := heap_alloc_new (w9.alloc (.cells #[.slice none 0 0, .slice none 0 0, .slice none 0 0] 48)) (.cells #[.slice none 0 0, .slice none 0 0, .slice none 0 0] 48)
        replace hn1 := (((Ext.refl (w9.alloc (.cells #[.slice none 0 0, .slice none 0 0, .slice none 0 0] 48))).alloc_right (.cells #[.slice none 0 0, .slice none 0 0, .slice none 0 0] 48)).block (Array.getElem?_eq_some_iff.1 hn1).1).trans hn1
        rw [World.size_alloc] at hn2
        try simp only [World.size_alloc]
        obtain ⟨pa, hpa⟩ : ∃ pa, pa = w9.heap.size := ⟨_, rfl⟩
        obtain ⟨pb, hpb⟩ : ∃ pb, pb = w9.heap.size + 1 := ⟨_, rfl⟩
        rw [← hpa] at hn1
        rw [← hpb] at hn2
        simp only [← hpb]
        try simp only [← hpa]
        generalize (w9.alloc (.cells #[.slice none 0 0, .slice none 0 0, .slice none 0 0] 48)).alloc (.cells #[.slice none 0 0, .slice none 0 0, .slice none 0 0] 48) = wA at *
        have hab : pa ≠ pb := by omega
        have hga : w9.heap.size ≤ pa ∧ w9.heap.size ≤ pb := by omega
        have hA : wA.heap[pa]? = some (.cells #[.slice none 0 0, .slice none 0 0, .slice none 0 0] 48 (0, 0)) := by assumption
        have hB : wA.heap[pb]? = some (.cells #[.slice none 0 0, .slice none 0 0, .slice none 0 0] 48 (0, 0)) := by assumption
        clear hn1 hn2 hpa hpb
        obtain ⟨wB, hwB⟩ : ∃ wB, wB = ((wA.setCell ⟨pa, 0, none⟩ (.slice A1 m1 c1)).setCell ⟨pa, 1, none⟩ (.slice A2 m2 c2)).setCell ⟨pa, 2, none⟩ (.slice A3 m3 c3) := ⟨_, rfl⟩
        have hA2 := put3 hA (.slice A1 m1 c1) (.slice A2 m2 c2) (.slice A3 m3 c3)
        have hB2 : wB.heap[pb]? = some (.cells #[.slice none 0 0, .slice none 0 0, .slice none 0 0] 48 (0, 0)) := by
          rw [hwB]
          exact put3_far hab.symm hB _ _ _
        have x3 : Ext w9 wB := by
          rw [hwB]
          exact ((x2.out.set (p := ⟨pa, 0, none⟩) hga.1 _).set (p := ⟨pa, 1, none⟩) hga.1 _).set (p := ⟨pa, 2, none⟩) hga.1 _
        rw [← hwB] at hA2
        have fq0 := Lib.frozen_of_heap hA 0
        have fq1 := Lib.frozen_of_heap hA 1
        have fq2 := Lib.frozen_of_heap hA 2
        have lq := (Array.getElem?_eq_some_iff.1 hA).1
        obtain ⟨g0, g1', g2'⟩ := nd3_c hA
        replace hwB := hid hwB
        replace hA2 := hid hA2
        replace hB2 := hid hB2
        replace x3 := hid x3
        clear x2 hA hB
        refine J_one 12 rfl (by kernel_rfl) (fun K hK => ?_)
        go_simp
        rw [← hwB.out]
        refine hK _ _ ⟨fun _ => hS.out _ x3.out, ?_⟩
        clear hK K
        try simp only [Act.put, lyA, lyB, lyC, lyD, lyE, lyF]
        clear hwB fq0 fq1 fq2 lq g0 g1' g2'
        clear wA
        have fq0 := Lib.frozen_of_heap hB2.out 0
        have fq1 := Lib.frozen_of_heap hB2.out 1
        have fq2 := Lib.frozen_of_heap hB2.out 2
        have lq := (Array.getElem?_eq_some_iff.1 hB2.out).1
        obtain ⟨g0, g1', g2'⟩ := nd3_c hB2.out
        obtain ⟨wC, hwC⟩ : ∃ wC, wC = ((wB.setCell ⟨pb, 0, none⟩ (.slice D1 m1 e1)).setCell ⟨pb, 1, none⟩ (.slice D2 m2 e2)).setCell ⟨pb, 2, none⟩ (.slice D3 m3 e3) := ⟨_, rfl⟩
        have hA3 : wC.heap[pa]? = some (.cells #[.slice A1 m1 c1, .slice A2 m2 c2, .slice A3 m3 c3] 48 (0, 0)) := by
          rw [hwC]
          exact put3_far hab hA2.out _ _ _
        have hB3 := put3 hB2.out (.slice D1 m1 e1) (.slice D2 m2 e2) (.slice D3 m3 e3)
        rw [← hwC] at hB3
        have x4 : Ext w9 wC := by
          rw [hwC]
          exact ((x3.out.set (p := ⟨pb, 0, none⟩) hga.2 _).set (p := ⟨pb, 1, none⟩) hga.2 _).set (p := ⟨pb, 2, none⟩) hga.2 _
        replace hwC := hid hwC
        replace x4 := hid x4
        have hcl : Hid (∀ w', Ext wC w' → w'.cell? ⟨pa, 0, none⟩ = some (.slice A1 m1 c1) ∧ w'.cell? ⟨pa, 1, none⟩ = some (.slice A2 m2 c2) ∧ w'.cell? ⟨pa, 2, none⟩ = some (.slice A3 m3 c3) ∧ w'.cell? ⟨pb, 0, none⟩ = some (.slice D1 m1 e1) ∧ w'.cell? ⟨pb, 1, none⟩ = some (.slice D2 m2 e2) ∧ w'.cell? ⟨pb, 2, none⟩ = some (.slice D3 m3 e3) ∧ pa < w'.heap.size ∧ pb < w'.heap.size) := fun w' hx => by
          obtain ⟨a0, a1, a2⟩ := nd3_c hA3
          obtain ⟨b0', b1', b2'⟩ := nd3_c hB3
          exact ⟨hx.cell a0, hx.cell a1, hx.cell a2, hx.cell b0', hx.cell b1', hx.cell b2', Nat.lt_of_lt_of_le (Array.getElem?_eq_some_iff.1 hA3).1 hx.size, Nat.lt_of_lt_of_le (Array.getElem?_eq_some_iff.1 hB3).1 hx.size⟩
        clear hA2 hB2 hA3 hB3
        refine J_one 13 rfl (by kernel_rfl) (fun K hK => ?_)
        go_simp
        rw [← hwC.out]
        refine hK _ _ ⟨fun _ => hS.out _ x4.out, ?_⟩
        clear hK K
        try simp only [Act.put, lyA, lyB, lyC, lyD, lyE, lyF]
        refine J_done (by kernel_rfl) (OnlyOn.normal ?_)
        clear hwC fq0 fq1 fq2 lq g0 g1' g2' x3 hS hab hga
        clear wB
        have hxC := hid (hx9.out.trans x4.out)
        clear x4 hx9
        obtain ⟨z0, z1, z2, y0, y1, y2, la, lb⟩ := hcl.out _ (Ext.refl _)
        go_wp2_with fail
        go_loopw [8] (fun i wr => ∃ q : Nat, q ≤ m1 ∧ i = .int .i64 q ∧ Hid (Ext wC wr)) (fun i _ => m1 - (intOf i).toNat)
        case atStart => exact ⟨0, by omega, rfl, Ext.refl _⟩
        case round =>
          obtain ⟨q, hq, rfl, hx⟩ := hrel
          obtain ⟨z0, z1, z2, y0, y1, y2, la, lb⟩ := hcl.out _ hx.out
          by_cases hqt : q < m1
          · replace hx := hx.out
            obtain ⟨kad, rfl, zk⟩ := rds_at (r1.out.ext (hx1.out.trans (hxC.out.trans hx))) (k := q) (by rw [hm1.out]; exact hqt)
            obtain ⟨kbd, rfl, zl⟩ := rds_at (g1.out.ext (hx1.out.trans (hxC.out.trans hx))) (k := q) (by rw [hm1.out]; exact hqt)
            have hqi : (q : Int) < (m1 : Int) := by omega
            generalize sth (xth xs k).keys q = s9 at *
            go_upto_region 12 with fail
            have I0 : (fun w' : World => w'.cell? ⟨pa, 0, none⟩ = some (.slice (some kad) m1 c1) ∧ w'.cell? ⟨pb, 0, none⟩ = some (.slice (some kbd) m1 e1) ∧ w'.cell? (kad.add q) = some (.string s9) ∧ w'.cell? (kbd.add q) = some (.string s9)) wr.drew := ⟨z0, y0, zk, zl⟩
            refine region_J (fun w' : World => w'.cell? ⟨pa, 0, none⟩ = some (.slice (some kad) m1 c1) ∧ w'.cell? ⟨pb, 0, none⟩ = some (.slice (some kbd) m1 e1) ∧ w'.cell? (kad.add q) = some (.string s9) ∧ w'.cell? (kbd.add q) = some (.string s9)) 11 (by kernel_rfl) ?_
            replace hx := hid hx.drew_right
            clear z0 z1 z2 y0 y1 y2 zk zl la lb
            generalize wr.drew = w9 at *
            refine JO 0 (v := ?vta0) I0 ?yta0 ?rta0
            case yta0 => (intro w h; obtain ⟨_, _, _, _⟩ := h; go_simp; with_reducible rfl)
            simp only [Act.put, lyA, lyB, lyC, lyD, lyE, lyF]
            refine JO 1 (v := ?vta1) I0 ?yta1 ?rta1
            case yta1 => (intro w h; obtain ⟨_, _, _, _⟩ := h; go_simp; with_reducible rfl)
            simp only [Act.put, lyA, lyB, lyC, lyD, lyE, lyF]
            refine JO 2 (v := ?vta2) I0 ?yta2 ?rta2
            case yta2 => (intro w h; obtain ⟨_, _, _, _⟩ := h; go_simp; with_reducible rfl)
            simp only [Act.put, lyA, lyB, lyC, lyD, lyE, lyF]
            refine JO 3 (v := ?vta3) I0 ?yta3 ?rta3
            case yta3 => (intro w h; obtain ⟨_, _, _, _⟩ := h; go_simp; with_reducible rfl)
            simp only [Act.put, lyA, lyB, lyC, lyD, lyE, lyF]
            refine JO 4 (v := ?vta4) I0 ?yta4 ?rta4
            case yta4 => (intro w h; obtain ⟨_, _, _, _⟩ := h; go_simp; with_reducible rfl)
            simp only [Act.put, lyA, lyB, lyC, lyD, lyE, lyF]
            refine JO 5 (v := ?vta5) I0 ?yta5 ?rta5
            case yta5 => (intro w h; obtain ⟨_, _, _, _⟩ := h; go_simp; with_reducible rfl)
            simp only [Act.put, lyA, lyB, lyC, lyD, lyE, lyF]
            refine JO 6 (v := ?vta6) I0 ?yta6 ?rta6
            case yta6 => (intro w h; obtain ⟨_, _, _, _⟩ := h; go_simp; with_reducible rfl)
            simp only [Act.put, lyA, lyB, lyC, lyD, lyE, lyF]
            refine JO 7 (v := ?vta7) I0 ?yta7 ?rta7
            case yta7 => (intro w h; obtain ⟨_, _, _, _⟩ := h; go_simp; with_reducible rfl)
            simp only [Act.put, lyA, lyB, lyC, lyD, lyE, lyF]
            refine JO 8 (v := ?vta8) I0 ?yta8 ?rta8
            case yta8 => (intro w h; obtain ⟨_, _, _, _⟩ := h; go_simp; with_reducible rfl)
            simp only [Act.put, lyA, lyB, lyC, lyD, lyE, lyF]
            refine JO 9 (v := ?vta9) I0 ?yta9 ?rta9
            case yta9 => (intro w h; obtain ⟨_, _, _, _⟩ := h; go_simp; with_reducible rfl)
            simp only [Act.put, lyA, lyB, lyC, lyD, lyE, lyF]
            refine J_one 10 rfl (by kernel_rfl) (fun K hK => ?_)
            go_simp
            refine hK _ _ ⟨fun _ => I0, ?_⟩
            clear hK K
            try simp only [Act.put, lyD, lyE, lyF]
            refine J_done (by kernel_rfl) (OnlyOn.normal ?_)
            go_wp2_with fail
            go_roundw
            case rel => exact ⟨q + 1, by omega, by go_num, hx⟩
            case measure => simp [intOf]; omega
          · obtain rfl : q = m1 := by omega
            have hxe := hx
            clear hx
            go_wp2_with fail
            go_loopw [9] (fun i wr => ∃ q : Nat, q ≤ m2 ∧ i = .int .i64 q ∧ Hid (Ext wC wr)) (fun i _ => m2 - (intOf i).toNat)
            case atStart => exact ⟨0, by omega, rfl, hxe⟩
            case round =>
              obtain ⟨q, hq, rfl, hx⟩ := hrel
              obtain ⟨z0, z1, z2, y0, y1, y2, la, lb⟩ := hcl.out _ hx.out
              by_cases hqt : q < m2
              · replace hx := hx.out
                obtain ⟨kad, rfl, zk⟩ := RdI.at_ (r2.out.ext (hx1.out.trans (hxC.out.trans hx))) (k := q) (by rw [hm2.out]; exact hqt)
                obtain ⟨kbd, rfl, zl⟩ := RdI.at_ (g2.out.ext (hx1.out.trans (hxC.out.trans hx))) (k := q) (by rw [hm2.out]; exact hqt)
                have hqi : (q : Int) < (m2 : Int) := by omega
                generalize nth (xth xs k).recs q = s9 at *
                go_upto_region 17 with fail
                have I0 : (fun w' : World => w'.cell? ⟨pa, 1, none⟩ = some (.slice (some kad) m2 c2) ∧ w'.cell? ⟨pb, 1, none⟩ = some (.slice (some kbd) m2 e2) ∧ w'.cell? (kad.add q) = some (.int .i64 s9) ∧ w'.cell? (kbd.add q) = some (.int .i64 s9)) wr.drew := ⟨z1, y1, zk, zl⟩
                refine region_J (fun w' : World => w'.cell? ⟨pa, 1, none⟩ = some (.slice (some kad) m2 c2) ∧ w'.cell? ⟨pb, 1, none⟩ = some (.slice (some kbd) m2 e2) ∧ w'.cell? (kad.add q) = some (.int .i64 s9) ∧ w'.cell? (kbd.add q) = some (.int .i64 s9)) 11 (by kernel_rfl) ?_
                replace hx := hid hx.drew_right
                clear z0 z1 z2 y0 y1 y2 zk zl la lb
                generalize wr.drew = w9 at *
                refine JO 0 (v := ?vua0) I0 ?yua0 ?rua0
                case yua0 => (intro w h; obtain ⟨_, _, _, _⟩ := h; go_simp; with_reducible rfl)
                simp only [Act.put, lyA, lyB, lyC, lyD, lyE, lyF]
                refine JO 1 (v := ?vua1) I0 ?yua1 ?rua1
                case yua1 => (intro w h; obtain ⟨_, _, _, _⟩ := h; go_simp; with_reducible rfl)
                simp only [Act.put, lyA, lyB, lyC, lyD, lyE, lyF]
                refine JO 2 (v := ?vua2) I0 ?yua2 ?rua2
                case yua2 => (intro w h; obtain ⟨_, _, _, _⟩ := h; go_simp; with_reducible rfl)
                simp only [Act.put, lyA, lyB, lyC, lyD, lyE, lyF]
                refine JO 3 (v := ?vua3) I0 ?yua3 ?rua3
                case yua3 => (intro w h; obtain ⟨_, _, _, _⟩ := h; go_simp; with_reducible rfl)
                simp only [Act.put, lyA, lyB, lyC, lyD, lyE, lyF]
                refine JO 4 (v := ?vua4) I0 ?yua4 ?rua4
                case yua4 => (intro w h; obtain ⟨_, _, _, _⟩ := h; go_simp; with_reducible rfl)
                simp only [Act.put, lyA, lyB, lyC, lyD, lyE, lyF]
                refine JO 5 (v := ?vua5) I0 ?yua5 ?rua5
                case yua5 => (intro w h; obtain ⟨_, _, _, _⟩ := h; go_simp; with_reducible rfl)
                simp only [Act.put, lyA, lyB, lyC, lyD, lyE, lyF]
                refine JO 6 (v := ?vua6) I0 ?yua6 ?rua6
                case yua6 => (intro w h; obtain ⟨_, _, _, _⟩ := h; go_simp; with_reducible rfl)
                simp only [Act.put, lyA, lyB, lyC, lyD, lyE, lyF]
                refine JO 7 (v := ?vua7) I0 ?yua7 ?rua7
                case yua7 => (intro w h; obtain ⟨_, _, _, _⟩ := h; go_simp; with_reducible rfl)
                simp only [Act.put, lyA, lyB, lyC, lyD, lyE, lyF]
                refine JO 8 (v := ?vua8) I0 ?yua8 ?rua8
                case yua8 => (intro w h; obtain ⟨_, _, _, _⟩ := h; go_simp; with_reducible rfl)
                simp only [Act.put, lyA, lyB, lyC, lyD, lyE, lyF]
                refine JO 9 (v := ?vua9) I0 ?yua9 ?rua9
                case yua9 => (intro w h; obtain ⟨_, _, _, _⟩ := h; go_simp; with_reducible rfl)
                simp only [Act.put, lyA, lyB, lyC, lyD, lyE, lyF]
                refine J_one 10 rfl (by kernel_rfl) (fun K hK => ?_)
                go_simp
                refine hK _ _ ⟨fun _ => I0, ?_⟩
                clear hK K
                try simp only [Act.put, lyD, lyE, lyF]
                refine J_done (by kernel_rfl) (OnlyOn.normal ?_)
                go_wp2_with fail
                go_roundw
                case rel => exact ⟨q + 1, by omega, by go_num, hx⟩
                case measure => simp [intOf]; omega
              · obtain rfl : q = m2 := by omega
                have hxe := hx
                clear hx
                go_wp2_with fail
                go_loopw [10] (fun i wr => ∃ q : Nat, q ≤ m3 ∧ i = .int .i64 q ∧ Hid (Ext wC wr)) (fun i _ => m3 - (intOf i).toNat)
                case atStart => exact ⟨0, by omega, rfl, hxe⟩
                case round =>
                  obtain ⟨q, hq, rfl, hx⟩ := hrel
                  obtain ⟨z0, z1, z2, y0, y1, y2, la, lb⟩ := hcl.out _ hx.out
                  by_cases hqt : q < m3
                  · replace hx := hx.out
                    obtain ⟨kad, rfl, zk⟩ := RdI.at_ (r3.out.ext (hx1.out.trans (hxC.out.trans hx))) (k := q) (by rw [hm3.out]; exact hqt)
                    obtain ⟨kbd, rfl, zl⟩ := RdI.at_ (g3.out.ext (hx1.out.trans (hxC.out.trans hx))) (k := q) (by rw [hm3.out]; exact hqt)
                    have hqi : (q : Int) < (m3 : Int) := by omega
                    generalize nth (xth xs k).kids q = s9 at *
                    go_upto_region 22 with fail
                    have I0 : (fun w' : World => w'.cell? ⟨pa, 2, none⟩ = some (.slice (some kad) m3 c3) ∧ w'.cell? ⟨pb, 2, none⟩ = some (.slice (some kbd) m3 e3) ∧ w'.cell? (kad.add q) = some (.int .i64 s9) ∧ w'.cell? (kbd.add q) = some (.int .i64 s9)) wr.drew := ⟨z2, y2, zk, zl⟩
                    refine region_J (fun w' : World => w'.cell? ⟨pa, 2, none⟩ = some (.slice (some kad) m3 c3) ∧ w'.cell? ⟨pb, 2, none⟩ = some (.slice (some kbd) m3 e3) ∧ w'.cell? (kad.add q) = some (.int .i64 s9) ∧ w'.cell? (kbd.add q) = some (.int .i64 s9)) 11 (by kernel_rfl) ?_
                    replace hx := hid hx.drew_right
                    clear z0 z1 z2 y0 y1 y2 zk zl la lb
                    generalize wr.drew = w9 at *
                    refine JO 0 (v := ?vva0) I0 ?yva0 ?rva0
                    case yva0 => (intro w h; obtain ⟨_, _, _, _⟩ := h; go_simp; with_reducible rfl)
                    simp only [Act.put, lyA, lyB, lyC, lyD, lyE, lyF]
                    refine JO 1 (v := ?vva1) I0 ?yva1 ?rva1
                    case yva1 => (intro w h; obtain ⟨_, _, _, _⟩ := h; go_simp; with_reducible rfl)
                    simp only [Act.put, lyA, lyB, lyC, lyD, lyE, lyF]
                    refine JO 2 (v := ?vva2) I0 ?yva2 ?rva2
                    case yva2 => (intro w h; obtain ⟨_, _, _, _⟩ := h; go_simp; with_reducible rfl)
                    simp only [Act.put, lyA, lyB, lyC, lyD, lyE, lyF]
                    refine JO 3 (v := ?vva3) I0 ?yva3 ?rva3
                    case yva3 => (intro w h; obtain ⟨_, _, _, _⟩ := h; go_simp; with_reducible rfl)
                    simp only [Act.put, lyA, lyB, lyC, lyD, lyE, lyF]
                    refine JO 4 (v := ?vva4) I0 ?yva4 ?rva4
                    case yva4 => (intro w h; obtain ⟨_, _, _, _⟩ := h; go_simp; with_reducible rfl)
                    simp only [Act.put, lyA, lyB, lyC, lyD, lyE, lyF]
                    refine JO 5 (v := ?vva5) I0 ?yva5 ?rva5
                    case yva5 => (intro w h; obtain ⟨_, _, _, _⟩ := h; go_simp; with_reducible rfl)
                    simp only [Act.put, lyA, lyB, lyC, lyD, lyE, lyF]
                    refine JO 6 (v := ?vva6) I0 ?yva6 ?rva6
                    case yva6 => (intro w h; obtain ⟨_, _, _, _⟩ := h; go_simp; with_reducible rfl)
                    simp only [Act.put, lyA, lyB, lyC, lyD, lyE, lyF]
                    refine JO 7 (v := ?vva7) I0 ?yva7 ?rva7
                    case yva7 => (intro w h; obtain ⟨_, _, _, _⟩ := h; go_simp; with_reducible rfl)
                    simp only [Act.put, lyA, lyB, lyC, lyD, lyE, lyF]
                    refine JO 8 (v := ?vva8) I0 ?yva8 ?rva8
                    case yva8 => (intro w h; obtain ⟨_, _, _, _⟩ := h; go_simp; with_reducible rfl)
                    simp only [Act.put, lyA, lyB, lyC, lyD, lyE, lyF]
                    refine JO 9 (v := ?vva9) I0 ?yva9 ?rva9
                    case yva9 => (intro w h; obtain ⟨_, _, _, _⟩ := h; go_simp; with_reducible rfl)
                    simp only [Act.put, lyA, lyB, lyC, lyD, lyE, lyF]
                    refine J_one 10 rfl (by kernel_rfl) (fun K hK => ?_)
                    go_simp
                    refine hK _ _ ⟨fun _ => I0, ?_⟩
                    clear hK K
                    try simp only [Act.put, lyD, lyE, lyF]
                    refine J_done (by kernel_rfl) (OnlyOn.normal ?_)
                    go_wp2_with fail
                    go_roundw
                    case rel => exact ⟨q + 1, by omega, by go_num, hx⟩
                    case measure => simp [intOf]; omega
                  · obtain rfl : q = m3 := by omega
                    have hxe := hx
                    clear hx
                    go_wp2_with fail
                    go_roundw
                    case rel => exact ⟨k + 1, by omega, by go_num, hid (hxC.out.trans hxe.out)⟩
                    case measure => simp [intOf]; omega
      ·
        go_simp
        have x1 := (Ext.refl w9).alloc_right (.cells #[.slice none 0 0, .slice none 0 0, .slice none 0 0] 48)
        refine hK _ _ ⟨fun _ => hS.out _ x1, ?_⟩
        clear hK K
        try simp only [Act.put, lyA, lyB, lyC, lyD, lyE, lyF]
        refine J_one 10 rfl (by kernel_rfl) (fun K hK => ?_)
        go_simp
        have x2 := hid (x1.trans ((Ext.refl (w9.alloc (.cells #[.slice none 0 0, .slice none 0 0, .slice none 0 0] 48))).alloc_right (.cells #[.slice none 0 0, .slice none 0 0, .slice none 0 0] 48)))
        refine hK _ _ ⟨fun _ => hS.out _ x2.out, ?_⟩
        clear hK K x1
        try simp only [Act.put, lyA, lyB, lyC, lyD, lyE, lyF]
        have hn1 := heap_alloc_new w9 (.cells #[.slice none 0 0, .slice none 0 0, .slice none 0 0] 48)
        have hn2 := heap_alloc_new (w9.alloc (.cells #[.slice none 0 0, .slice none 0 0, .slice none 0 0] 48)) (.cells #[.slice none 0 0, .slice none 0 0, .slice none 0 0] 48)
        replace hn1 := (((Ext.refl (w9.alloc (.cells #[.slice none 0 0, .slice none 0 0, .slice none 0 0] 48))).alloc_right (.cells #[.slice none 0 0, .slice none 0 0, .slice none 0 0] 48)).block (Array.getElem?_eq_some_iff.1 hn1).1).trans hn1
        rw [World.size_alloc] at hn2
        try simp only [World.size_alloc]
        obtain ⟨pa, hpa⟩ : ∃ pa, pa = w9.heap.size + 1 := ⟨_, rfl⟩
        obtain ⟨pb, hpb⟩ : ∃ pb, pb = w9.heap.size := ⟨_, rfl⟩
        rw [← hpb] at hn1
        rw [← hpa] at hn2
        simp only [← hpa]
        try simp only [← hpb]
        generalize (w9.alloc (.cells #[.slice none 0 0, .slice none 0 0, .slice none 0 0] 48)).alloc (.cells #[.slice none 0 0, .slice none 0 0, .slice none 0 0] 48) = wA at *
        have hab : pa ≠ pb := by omega
        have hga : w9.heap.size ≤ pa ∧ w9.heap.size ≤ pb := by omega
        have hA : wA.heap[pa]? = some (.cells #[.slice none 0 0, .slice none 0 0, .slice none 0 0] 48 (0, 0)) := by assumption
        have hB : wA.heap[pb]? = some (.cells #[.slice none 0 0, .slice none 0 0, .slice none 0 0] 48 (0, 0)) := by assumption
        clear hn1 hn2 hpa hpb
        obtain ⟨wB, hwB⟩ : ∃ wB, wB = ((wA.setCell ⟨pa, 0, none⟩ (.slice A1 m1 c1)).setCell ⟨pa, 1, none⟩ (.slice A2 m2 c2)).setCell ⟨pa, 2, none⟩ (.slice A3 m3 c3) := ⟨_, rfl⟩
        have hA2 := put3 hA (.slice A1 m1 c1) (.slice A2 m2 c2) (.slice A3 m3 c3)
        have hB2 : wB.heap[pb]? = some (.cells #[.slice none 0 0, .slice none 0 0, .slice none 0 0] 48 (0, 0)) := by
          rw [hwB]
          exact put3_far hab.symm hB _ _ _
        have x3 : Ext w9 wB := by
          rw [hwB]
          exact ((x2.out.set (p := ⟨pa, 0, none⟩) hga.1 _).set (p := ⟨pa, 1, none⟩) hga.1 _).set (p := ⟨pa, 2, none⟩) hga.1 _
        rw [← hwB] at hA2
        have fq0 := Lib.frozen_of_heap hA 0
        have fq1 := Lib.frozen_of_heap hA 1
        have fq2 := Lib.frozen_of_heap hA 2
        have lq := (Array.getElem?_eq_some_iff.1 hA).1
        obtain ⟨g0, g1', g2'⟩ := nd3_c hA
        replace hwB := hid hwB
        replace hA2 := hid hA2
        replace hB2 := hid hB2
        replace x3 := hid x3
        clear x2 hA hB
        refine J_one 12 rfl (by kernel_rfl) (fun K hK => ?_)
        go_simp
        rw [← hwB.out]
        refine hK _ _ ⟨fun _ => hS.out _ x3.out, ?_⟩
        clear hK K
        try simp only [Act.put, lyA, lyB, lyC, lyD, lyE, lyF]
        clear hwB fq0 fq1 fq2 lq g0 g1' g2'
        clear wA
        have fq0 := Lib.frozen_of_heap hB2.out 0
        have fq1 := Lib.frozen_of_heap hB2.out 1
        have fq2 := Lib.frozen_of_heap hB2.out 2
        have lq := (Array.getElem?_eq_some_iff.1 hB2.out).1
        obtain ⟨g0, g1', g2'⟩ := nd3_c hB2.out
        obtain ⟨wC, hwC⟩ : ∃ wC, wC = ((wB.setCell ⟨pb, 0, none⟩ (.slice D1 m1 e1)).setCell ⟨pb, 1, none⟩ (.slice D2 m2 e2)).setCell ⟨pb, 2, none⟩ (.slice D3 m3 e3) := ⟨_, rfl⟩
        have hA3 : wC.heap[pa]? = some (.cells #[.slice A1 m1 c1, .slice A2 m2 c2, .slice A3 m3 c3] 48 (0, 0)) := by
          rw [hwC]
          exact put3_far hab hA2.out _ _ _
        have hB3 := put3 hB2.out (.slice D1 m1 e1) (.slice D2 m2 e2) (.slice D3 m3 e3)
        rw [← hwC] at hB3
        have x4 : Ext w9 wC := by
          rw [hwC]
          exact ((x3.out.set (p := ⟨pb, 0, none⟩) hga.2 _).set (p := ⟨pb, 1, none⟩) hga.2 _).set (p := ⟨pb, 2, none⟩) hga.2 _
        replace hwC := hid hwC
        replace x4 := hid x4
        have hcl : Hid (∀ w', Ext wC w' → w'.cell? ⟨pa, 0, none⟩ = some (.slice A1 m1 c1) ∧ w'.cell? ⟨pa, 1, none⟩ = some (.slice A2 m2 c2) ∧ w'.cell? ⟨pa, 2, none⟩ = some (.slice A3 m3 c3) ∧ w'.cell? ⟨pb, 0, none⟩ = some (.slice D1 m1 e1) ∧ w'.cell? ⟨pb, 1, none⟩ = some (.slice D2 m2 e2) ∧ w'.cell? ⟨pb, 2, none⟩ = some (.slice D3 m3 e3) ∧ pa < w'.heap.size ∧ pb < w'.heap.size) := fun w' hx => by
          obtain ⟨a0, a1, a2⟩ := nd3_c hA3
          obtain ⟨b0', b1', b2'⟩ := nd3_c hB3
          exact ⟨hx.cell a0, hx.cell a1, hx.cell a2, hx.cell b0', hx.cell b1', hx.cell b2', Nat.lt_of_lt_of_le (Array.getElem?_eq_some_iff.1 hA3).1 hx.size, Nat.lt_of_lt_of_le (Array.getElem?_eq_some_iff.1 hB3).1 hx.size⟩
        clear hA2 hB2 hA3 hB3
        refine J_one 13 rfl (by kernel_rfl) (fun K hK => ?_)
        go_simp
        rw [← hwC.out]
        refine hK _ _ ⟨fun _ => hS.out _ x4.out, ?_⟩
        clear hK K
        try simp only [Act.put, lyA, lyB, lyC, lyD, lyE, lyF]
        refine J_done (by kernel_rfl) (OnlyOn.normal ?_)
        clear hwC fq0 fq1 fq2 lq g0 g1' g2' x3 hS hab hga
        clear wB
        have hxC := hid (hx9.out.trans x4.out)
        clear x4 hx9
        obtain ⟨z0, z1, z2, y0, y1, y2, la, lb⟩ := hcl.out _ (Ext.refl _)
        go_wp2_with fail
        go_loopw [8] (fun i wr => ∃ q : Nat, q ≤ m1 ∧ i = .int .i64 q ∧ Hid (Ext wC wr)) (fun i _ => m1 - (intOf i).toNat)
        case atStart => exact ⟨0, by omega, rfl, Ext.refl _⟩
        case round =>
          obtain ⟨q, hq, rfl, hx⟩ := hrel
          obtain ⟨z0, z1, z2, y0, y1, y2, la, lb⟩ := hcl.out _ hx.out
          by_cases hqt : q < m1
          · replace hx := hx.out
            obtain ⟨kad, rfl, zk⟩ := rds_at (r1.out.ext (hx1.out.trans (hxC.out.trans hx))) (k := q) (by rw [hm1.out]; exact hqt)
            obtain ⟨kbd, rfl, zl⟩ := rds_at (g1.out.ext (hx1.out.trans (hxC.out.trans hx))) (k := q) (by rw [hm1.out]; exact hqt)
            have hqi : (q : Int) < (m1 : Int) := by omega
            generalize sth (xth xs k).keys q = s9 at *
            go_upto_region 12 with fail
            have I0 : (fun w' : World => w'.cell? ⟨pa, 0, none⟩ = some (.slice (some kad) m1 c1) ∧ w'.cell? ⟨pb, 0, none⟩ = some (.slice (some kbd) m1 e1) ∧ w'.cell? (kad.add q) = some (.string s9) ∧ w'.cell? (kbd.add q) = some (.string s9)) wr.drew := ⟨z0, y0, zk, zl⟩
            refine region_J (fun w' : World => w'.cell? ⟨pa, 0, none⟩ = some (.slice (some kad) m1 c1) ∧ w'.cell? ⟨pb, 0, none⟩ = some (.slice (some kbd) m1 e1) ∧ w'.cell? (kad.add q) = some (.string s9) ∧ w'.cell? (kbd.add q) = some (.string s9)) 11 (by kernel_rfl) ?_
            replace hx := hid hx.drew_right
            clear z0 z1 z2 y0 y1 y2 zk zl la lb
            generalize wr.drew = w9 at *
            refine JO 0 (v := ?vtb0) I0 ?ytb0 ?rtb0
            case ytb0 => (intro w h; obtain ⟨_, _, _, _⟩ := h; go_simp; with_reducible rfl)
            simp only [Act.put, lyA, lyB, lyC, lyD, lyE, lyF]
            refine JO 1 (v := ?vtb1) I0 ?ytb1 ?rtb1
            case ytb1 => (intro w h; obtain ⟨_, _, _, _⟩ := h; go_simp; with_reducible rfl)
            simp only [Act.put, lyA, lyB, lyC, lyD, lyE, lyF]
            refine JO 2 (v := ?vtb2) I0 ?ytb2 ?rtb2
            case ytb2 => (intro w h; obtain ⟨_, _, _, _⟩ := h; go_simp; with_reducible rfl)
            simp only [Act.put, lyA, lyB, lyC, lyD, lyE, lyF]
            refine JO 3 (v := ?vtb3) I0 ?ytb3 ?rtb3
            case ytb3 => (intro w h; obtain ⟨_, _, _, _⟩ := h; go_simp; with_reducible rfl)
            simp only [Act.put, lyA, lyB, lyC, lyD, lyE, lyF]
            refine JO 4 (v := ?vtb4) I0 ?ytb4 ?rtb4
            case ytb4 => (intro w h; obtain ⟨_, _, _, _⟩ := h; go_simp; with_reducible rfl)
            simp only [Act.put, lyA, lyB, lyC, lyD, lyE, lyF]
            refine JO 5 (v := ?vtb5) I0 ?ytb5 ?rtb5
            case ytb5 => (intro w h; obtain ⟨_, _, _, _⟩ := h; go_simp; with_reducible rfl)
            simp only [Act.put, lyA, lyB, lyC, lyD, lyE, lyF]
            refine JO 6 (v := ?vtb6) I0 ?ytb6 ?rtb6
            case ytb6 => (intro w h; obtain ⟨_, _, _, _⟩ := h; go_simp; with_reducible rfl)
            simp only [Act.put, lyA, lyB, lyC, lyD, lyE, lyF]
            refine JO 7 (v := ?vtb7) I0 ?ytb7 ?rtb7
            case ytb7 => (intro w h; obtain ⟨_, _, _, _⟩ := h; go_simp; with_reducible rfl)
            simp only [Act.put, lyA, lyB, lyC, lyD, lyE, lyF]
            refine JO 8 (v := ?vtb8) I0 ?ytb8 ?rtb8
            case ytb8 => (intro w h; obtain ⟨_, _, _, _⟩ := h; go_simp; with_reducible rfl)
            simp only [Act.put, lyA, lyB, lyC, lyD, lyE, lyF]
            refine JO 9 (v := ?vtb9) I0 ?ytb9 ?rtb9
            case ytb9 => (intro w h; obtain ⟨_, _, _, _⟩ := h; go_simp; with_reducible rfl)
            simp only [Act.put, lyA, lyB, lyC, lyD, lyE, lyF]
            refine J_one 10 rfl (by kernel_rfl) (fun K hK => ?_)
            go_simp
            refine hK _ _ ⟨fun _ => I0, ?_⟩
            clear hK K
            try simp only [Act.put, lyD, lyE, lyF]
            refine J_done (by kernel_rfl) (OnlyOn.normal ?_)
            go_wp2_with fail
            go_roundw
            case rel => exact ⟨q + 1, by omega, by go_num, hx⟩
            case measure => simp [intOf]; omega
          · obtain rfl : q = m1 := by omega
            have hxe := hx
            clear hx
            go_wp2_with fail
            go_loopw [9] (fun i wr => ∃ q : Nat, q ≤ m2 ∧ i = .int .i64 q ∧ Hid (Ext wC wr)) (fun i _ => m2 - (intOf i).toNat)
            case atStart => exact ⟨0, by omega, rfl, hxe⟩
            case round =>
              obtain ⟨q, hq, rfl, hx⟩ := hrel
              obtain ⟨z0, z1, z2, y0, y1, y2, la, lb⟩ := hcl.out _ hx.out
              by_cases hqt : q < m2
              · replace hx := hx.out
                obtain ⟨kad, rfl, zk⟩ := RdI.at_ (r2.out.ext (hx1.out.trans (hxC.out.trans hx))) (k := q) (by rw [hm2.out]; exact hqt)
                obtain ⟨kbd, rfl, zl⟩ := RdI.at_ (g2.out.ext (hx1.out.trans (hxC.out.trans hx))) (k := q) (by rw [hm2.out]; exact hqt)
                have hqi : (q : Int) < (m2 : Int) := by omega
                generalize nth (xth xs k).recs q = s9 at *
                go_upto_region 17 with fail
                have I0 : (fun w' : World => w'.cell? ⟨pa, 1, none⟩ = some (.slice (some kad) m2 c2) ∧ w'.cell? ⟨pb, 1, none⟩ = some (.slice (some kbd) m2 e2) ∧ w'.cell? (kad.add q) = some (.int .i64 s9) ∧ w'.cell? (kbd.add q) = some (.int .i64 s9)) wr.drew := ⟨z1, y1, zk, zl⟩
                refine region_J (fun w' : World => w'.cell? ⟨pa, 1, none⟩ = some (.slice (some kad) m2 c2) ∧ w'.cell? ⟨pb, 1, none⟩ = some (.slice (some kbd) m2 e2) ∧ w'.cell? (kad.add q) = some (.int .i64 s9) ∧ w'.cell? (kbd.add q) = some (.int .i64 s9)) 11 (by kernel_rfl) ?_
                replace hx := hid hx.drew_right
                clear z0 z1 z2 y0 y1 y2 zk zl la lb
                generalize wr.drew = w9 at *
                refine JO 0 (v := ?vub0) I0 ?yub0 ?rub0
                case yub0 => (intro w h; obtain ⟨_, _, _, _⟩ := h; go_simp; with_reducible rfl)
                simp only [Act.put, lyA, lyB, lyC, lyD, lyE, lyF]
                refine JO 1 (v := ?vub1) I0 ?yub1 ?rub1
                case yub1 => (intro w h; obtain ⟨_, _, _, _⟩ := h; go_simp; with_reducible rfl)
                simp only [Act.put, lyA, lyB, lyC, lyD, lyE, lyF]
                refine JO 2 (v := ?vub2) I0 ?yub2 ?rub2
                case yub2 => (intro w h; obtain ⟨_, _, _, _⟩ := h; go_simp; with_reducible rfl)
                simp only [Act.put, lyA, lyB, lyC, lyD, lyE, lyF]
                refine JO 3 (v := ?vub3) I0 ?yub3 ?rub3
                case yub3 => (intro w h; obtain ⟨_, _, _, _⟩ := h; go_simp; with_reducible rfl)
                simp only [Act.put, lyA, lyB, lyC, lyD, lyE, lyF]
                refine JO 4 (v := ?vub4) I0 ?yub4 ?rub4
                case yub4 => (intro w h; obtain ⟨_, _, _, _⟩ := h; go_simp; with_reducible rfl)
                simp only [Act.put, lyA, lyB, lyC, lyD, lyE, lyF]
                refine JO 5 (v := ?vub5) I0 ?yub5 ?rub5
                case yub5 => (intro w h; obtain ⟨_, _, _, _⟩ := h; go_simp; with_reducible rfl)
                simp only [Act.put, lyA, lyB, lyC, lyD, lyE, lyF]
                refine JO 6 (v := ?vub6) I0 ?yub6 ?rub6
                case yub6 => (intro w h; obtain ⟨_, _, _, _⟩ := h; go_simp; with_reducible rfl)
                simp only [Act.put, lyA, lyB, lyC, lyD, lyE, lyF]
                refine JO 7 (v := ?vub7) I0 ?yub7 ?rub7
                case yub7 => (intro w h; obtain ⟨_, _, _, _⟩ := h; go_simp; with_reducible rfl)
                simp only [Act.put, lyA, lyB, lyC, lyD, lyE, lyF]
                refine JO 8 (v := ?vub8) I0 ?yub8 ?rub8
                case yub8 => (intro w h; obtain ⟨_, _, _, _⟩ := h; go_simp; with_reducible rfl)
                simp only [Act.put, lyA, lyB, lyC, lyD, lyE, lyF]
                refine JO 9 (v := ?vub9) I0 ?yub9 ?rub9
                case yub9 => (intro w h; obtain ⟨_, _, _, _⟩ := h; go_simp; with_reducible rfl)
                simp only [Act.put, lyA, lyB, lyC, lyD, lyE, lyF]
                refine J_one 10 rfl (by kernel_rfl) (fun K hK => ?_)
                go_simp
                refine hK _ _ ⟨fun _ => I0, ?_⟩
                clear hK K
                try simp only [Act.put, lyD, lyE, lyF]
                refine J_done (by kernel_rfl) (OnlyOn.normal ?_)
                go_wp2_with fail
                go_roundw
                case rel => exact ⟨q + 1, by omega, by go_num, hx⟩
                case measure => simp [intOf]; omega
              · obtain rfl : q = m2 := by omega
                have hxe := hx
                clear hx
                go_wp2_with fail
                go_loopw [10] (fun i wr => ∃ q : Nat, q ≤ m3 ∧ i = .int .i64 q ∧ Hid (Ext wC wr)) (fun i _ => m3 - (intOf i).toNat)
                case atStart => exact ⟨0, by omega, rfl, hxe⟩
                case round =>
                  obtain ⟨q, hq, rfl, hx⟩ := hrel
                  obtain ⟨z0, z1, z2, y0, y1, y2, la, lb⟩ := hcl.out _ hx.out
                  by_cases hqt : q < m3
                  · replace hx := hx.out
                    obtain ⟨kad, rfl, zk⟩ := RdI.at_ (r3.out.ext (hx1.out.trans (hxC.out.trans hx))) (k := q) (by rw [hm3.out]; exact hqt)
                    obtain ⟨kbd, rfl, zl⟩ := RdI.at_ (g3.out.ext (hx1.out.trans (hxC.out.trans hx))) (k := q) (by rw [hm3.out]; exact hqt)
                    have hqi : (q : Int) < (m3 : Int) := by omega
                    generalize nth (xth xs k).kids q = s9 at *
                    go_upto_region 22 with fail
                    have I0 : (fun w' : World => w'.cell? ⟨pa, 2, none⟩ = some (.slice (some kad) m3 c3) ∧ w'.cell? ⟨pb, 2, none⟩ = some (.slice (some kbd) m3 e3) ∧ w'.cell? (kad.add q) = some (.int .i64 s9) ∧ w'.cell? (kbd.add q) = some (.int .i64 s9)) wr.drew := ⟨z2, y2, zk, zl⟩
                    refine region_J (fun w' : World => w'.cell? ⟨pa, 2, none⟩ = some (.slice (some kad) m3 c3) ∧ w'.cell? ⟨pb, 2, none⟩ = some (.slice (some kbd) m3 e3) ∧ w'.cell? (kad.add q) = some (.int .i64 s9) ∧ w'.cell? (kbd.add q) = some (.int .i64 s9)) 11 (by kernel_rfl) ?_
                    replace hx := hid hx.drew_right
                    clear z0 z1 z2 y0 y1 y2 zk zl la lb
                    generalize wr.drew = w9 at *
                    refine JO 0 (v := ?vvb0) I0 ?yvb0 ?rvb0
                    case yvb0 => (intro w h; obtain ⟨_, _, _, _⟩ := h; go_simp; with_reducible rfl)
                    simp only [Act.put, lyA, lyB, lyC, lyD, lyE, lyF]
                    refine JO 1 (v := ?vvb1) I0 ?yvb1 ?rvb1
                    case yvb1 => (intro w h; obtain ⟨_, _, _, _⟩ := h; go_simp; with_reducible rfl)
                    simp only [Act.put, lyA, lyB, lyC, lyD, lyE, lyF]
                    refine JO 2 (v := ?vvb2) I0 ?yvb2 ?rvb2
                    case yvb2 => (intro w h; obtain ⟨_, _, _, _⟩ := h; go_simp; with_reducible rfl)
                    simp only [Act.put, lyA, lyB, lyC, lyD, lyE, lyF]
                    refine JO 3 (v := ?vvb3) I0 ?yvb3 ?rvb3
                    case yvb3 => (intro w h; obtain ⟨_, _, _, _⟩ := h; go_simp; with_reducible rfl)
                    simp only [Act.put, lyA, lyB, lyC, lyD, lyE, lyF]
                    refine JO 4 (v := ?vvb4) I0 ?yvb4 ?rvb4
                    case yvb4 => (intro w h; obtain ⟨_, _, _, _⟩ := h; go_simp; with_reducible rfl)
                    simp only [Act.put, lyA, lyB, lyC, lyD, lyE, lyF]
                    refine JO 5 (v := ?vvb5) I0 ?yvb5 ?rvb5
                    case yvb5 => (intro w h; obtain ⟨_, _, _, _⟩ := h; go_simp; with_reducible rfl)
                    simp only [Act.put, lyA, lyB, lyC, lyD, lyE, lyF]
                    refine JO 6 (v := ?vvb6) I0 ?yvb6 ?rvb6
                    case yvb6 => (intro w h; obtain ⟨_, _, _, _⟩ := h; go_simp; with_reducible rfl)
                    simp only [Act.put, lyA, lyB, lyC, lyD, lyE, lyF]
                    refine JO 7 (v := ?vvb7) I0 ?yvb7 ?rvb7
                    case yvb7 => (intro w h; obtain ⟨_, _, _, _⟩ := h; go_simp; with_reducible rfl)
                    simp only [Act.put, lyA, lyB, lyC, lyD, lyE, lyF]
                    refine JO 8 (v := ?vvb8) I0 ?yvb8 ?rvb8
                    case yvb8 => (intro w h; obtain ⟨_, _, _, _⟩ := h; go_simp; with_reducible rfl)
                    simp only [Act.put, lyA, lyB, lyC, lyD, lyE, lyF]
                    refine JO 9 (v := ?vvb9) I0 ?yvb9 ?rvb9
                    case yvb9 => (intro w h; obtain ⟨_, _, _, _⟩ := h; go_simp; with_reducible rfl)
                    simp only [Act.put, lyA, lyB, lyC, lyD, lyE, lyF]
                    refine J_one 10 rfl (by kernel_rfl) (fun K hK => ?_)
                    go_simp
                    refine hK _ _ ⟨fun _ => I0, ?_⟩
                    clear hK K
                    try simp only [Act.put, lyD, lyE, lyF]
                    refine J_done (by kernel_rfl) (OnlyOn.normal ?_)
                    go_wp2_with fail
                    go_roundw
                    case rel => exact ⟨q + 1, by omega, by go_num, hx⟩
                    case measure => simp [intOf]; omega
                  · obtain rfl : q = m3 := by omega
                    have hxe := hx
                    clear hx
                    go_wp2_with fail
                    go_roundw
                    case rel => exact ⟨k + 1, by omega, by go_num, hid (hxC.out.trans hxe.out)⟩
                    case measure => simp [intOf]; omega
    · obtain rfl : k = n := by omega
      go_wp2
      go_ret
      exact ⟨rfl, hx1.out.trans hx.out⟩
open Go.RowKit Go.Shelf
def GiveU (x : Ac) (L : List Te) (X : Nat × BT) (F G : Nat → Nat) (t : Nat) (w : World) (e : Ending) (w' : World) : Prop := ∃ b F', e = .returned (.bool b) ∧ PTo w' t (actL x L) (actX x L X) F' ∧ (∀ a, a < w.heap.size → F' a ≠ 0 → F a ≠ 0) ∧ FR (fun a => F a + G a) w w'
theorem GiveU.turn {x : Ac} {L L' M : List Te} {X X' : Nat × BT} {F F' G : Nat → Nat} {t r : Nat} {w w1 w2 w3 : World} (eL : actL x L = L') (eX : actX x L X = X') (hr : RTo w r M G) (hD : Dj F G) (hx1 : Ext w w1) (hP2 : PTo w2 t L' X' F') (k2 : ∀ a, a < w1.heap.size → F' a ≠ 0 → F a ≠ 0) (hF2 : FR F w1 w2) {M' : List Te} (hR3 : RTurned w2 w3 r G M') : ∃ F', PTo w3 t (actL x L) (actX x L X) F' ∧ (∀ a, a < w.heap.size → F' a ≠ 0 → F a ≠ 0) ∧ FR (fun a => F a + G a) w w3 := by
  rw [eL, eX]
  obtain ⟨G', h1, h2, h3⟩ := hR3
  have s1 := hx1.size
  have s2 := hF2.2.2.2.1
  have d1 : Dj F' G := hD.left (n := w1.heap.size) k2 (fun a ha => hr.bound a (by omega))
  have hGr := hr.own
  have hfr : ∀ a, F' a ≠ 0 → one1 r a = 0 := fun a ha => if_neg (fun e => by rcases d1 a with h | h; exact ha h; exact hGr (e ▸ h))
  refine ⟨F', hP2.frame h3 hfr, fun a ha h => k2 a (by omega) h, ?_⟩
  refine ((FR.of_ext (f := fun a => F a + G a) hx1).trans hF2 (fun k _ h0 => by have : F k + G k = 0 := h0; omega)).trans h3 (fun k _ h0 => if_neg (fun e => ?_))
  have : F k + G k = 0 := h0
  rw [e] at this
  omega
theorem playU_0 (t r : Nat) (x : Ac) (L : List Te) (X : Nat × BT) (F G : Nat → Nat) (w : World) (hP : PTo w t L X F) (M : List Te) (hR : RTo w r M G) (hS : Srt M) (hD : Dj F G) (hl : M.length ≤ 1200) (h : x.op = 0) : Calls Tryz.prog 8 #[.pointer (some ⟨t, 0, none⟩), .pointer (some ⟨r, 0, none⟩), .agg #[.int .i64 x.op, .int .i64 x.a, .int .i64 x.b, .int .i64 x.c, .string x.s, .string x.t]] w (GiveU x L X F G t w) := by
  have hop : x.op = 0 := h
  have d0 : (x.op == 0) = true := by rw [hop]; rfl
  have hgo := hid hP
  have hP' := hP
  obtain ⟨p, fT, H, hF⟩ := hP'
  have eL : Hid (actL x L = putLs L ⟨x.s, x.a⟩) := by unfold Hid actL; rw [if_pos h]
  have eX : Hid (actX x L X = putX X.1 X.2 L ⟨x.s, x.a⟩) := by unfold Hid actX; rw [if_pos h]
  obtain ⟨er, hE⟩ : ∃ er, Hid (er = putEr L ⟨x.s, x.a⟩) := ⟨_, rfl⟩
  obtain ⟨L', hL'⟩ : ∃ L', Hid (L' = putLs L ⟨x.s, x.a⟩) := ⟨_, rfl⟩
  obtain ⟨er2, hE2⟩ : ∃ er2, Hid (er2 = putEr M ⟨x.s, x.a⟩) := ⟨_, rfl⟩
  obtain ⟨M', hM'⟩ : ∃ M', Hid (M' = putLs M ⟨x.s, x.a⟩) := ⟨_, rfl⟩
  obtain ⟨X', hX'⟩ : ∃ X', Hid (X' = putX X.1 X.2 L ⟨x.s, x.a⟩) := ⟨_, rfl⟩
  rw [← hL'.out] at eL
  rw [← hX'.out] at eX
  have hC1 : Hid (∀ w1, Ext w w1 → Calls Tryz.prog 16 #[.pointer (some ⟨t, 0, none⟩), .string x.s, .int .i64 x.a] w1 fun e w' => e = .returned (.int .i64 er) ∧ TreeTurnedX X' 0 w1 w' t fT L') := fun w1 hx => by
    rw [hE.out, hL'.out, hX'.out]; exact PutX_any t L X.1 p X.2 fT x.s x.a w1 (H.ext hx)
  have hC2 : Hid (∀ w1 w2, Ext w w1 → FR F w1 w2 → Calls Tryz.prog 19 #[.pointer (some ⟨r, 0, none⟩), .string x.s, .int .i64 x.a] w2 fun e w' => e = .returned (.int .i64 er2) ∧ RTurned w2 w' r G M') := fun w1 w2 hx hF => rPut_any r M G x.s x.a w2 ((hR.ext hx).frame hF (fun a h => (hD a).resolve_right h)) hS hl er2 M' hE2.out hM'.out
  have hlt := hid H.lt
  have hfin := hid (fun (w1 w2 w3 : World) (F' : Nat → Nat) (hx : Ext w w1) (h1 : PTo w2 t L' X' F') h2 h3 (h4 : RTurned w2 w3 r G M') => GiveU.turn (w1 := w1) (w2 := w2) (w3 := w3) (F' := F') eL.out eX.out hR hD hx h1 h2 h3 h4)
  have hFb := hid hgo.out.bound
  have hrlt := hid hR.lt
  replace hF := hid hF
  clear H hE hE2 hM' hL' hX' eL eX hgo
  have hx1 := hid ((Ext.refl w).alloc_right (.cells #[.int .i64 x.op, .int .i64 x.a, .int .i64 x.b, .int .i64 x.c, .string x.s, .string x.t] 34))
  have ha := heap_alloc_new w (.cells #[.int .i64 x.op, .int .i64 x.a, .int .i64 x.b, .int .i64 x.c, .string x.s, .string x.t] 34)
  have z0 : (w.alloc (.cells #[.int .i64 x.op, .int .i64 x.a, .int .i64 x.b, .int .i64 x.c, .string x.s, .string x.t] 34)).cell? ⟨w.heap.size, 0, none⟩ = some (.int .i64 x.op) := by rw [Lib.cell_of_heap ha]; rfl
  have z1 : (w.alloc (.cells #[.int .i64 x.op, .int .i64 x.a, .int .i64 x.b, .int .i64 x.c, .string x.s, .string x.t] 34)).cell? ⟨w.heap.size, 1, none⟩ = some (.int .i64 x.a) := by rw [Lib.cell_of_heap ha]; rfl
  have z4 : (w.alloc (.cells #[.int .i64 x.op, .int .i64 x.a, .int .i64 x.b, .int .i64 x.c, .string x.s, .string x.t] 34)).cell? ⟨w.heap.size, 4, none⟩ = some (.string x.s) := by rw [Lib.cell_of_heap ha]; rfl
  have z5 : (w.alloc (.cells #[.int .i64 x.op, .int .i64 x.a, .int .i64 x.b, .int .i64 x.c, .string x.s, .string x.t] 34)).cell? ⟨w.heap.size, 5, none⟩ = some (.string x.t) := by rw [Lib.cell_of_heap ha]; rfl
  have lb := (Array.getElem?_eq_some_iff.1 ha).1
  clear ha
  clear hop h
  clear hP hR hD
  go_enter Tryz.func8, Tryz.ntmps8
  go_upto_region 1 with fail
  obtain ⟨b, hb⟩ : ∃ b, b = w.heap.size := ⟨_, rfl⟩
  rw [← hb] at z0 z1 z4 z5 lb
  simp only [← hb]
  replace hb := hid hb
  generalize w.alloc (.cells #[.int .i64 x.op, .int .i64 x.a, .int .i64 x.b, .int .i64 x.c, .string x.s, .string x.t] 34) = W1 at *
  go_upto_region 3 with fail
  have I0 : (fun w' : World => w'.cell? ⟨b, 1, none⟩ = some (.int .i64 x.a) ∧ w'.cell? ⟨b, 4, none⟩ = some (.string x.s) ∧ w'.cell? ⟨b, 5, none⟩ = some (.string x.t)) W1.drew := ⟨z1, z4, z5⟩
  refine region_J (fun w' : World => w'.cell? ⟨b, 1, none⟩ = some (.int .i64 x.a) ∧ w'.cell? ⟨b, 4, none⟩ = some (.string x.s) ∧ w'.cell? ⟨b, 5, none⟩ = some (.string x.t)) 14 (by kernel_rfl) ?_
  replace hx1 := hid (hx1.out.drew_right)
  clear z0 z1 z4 z5 lb
  generalize W1.drew = W1 at *
  refine JO 0 (v := ?vc0) I0 ?yc0 ?rc0
  case yc0 => (intro w h; obtain ⟨_, _, _⟩ := h; go_simp; with_reducible rfl)
  simp only [Act.put, lyA, lyB, lyC, lyD, lyE, lyF]
  refine JO 1 (v := ?vc1) I0 ?yc1 ?rc1
  case yc1 => (intro w h; obtain ⟨_, _, _⟩ := h; go_simp; with_reducible rfl)
  simp only [Act.put, lyA, lyB, lyC, lyD, lyE, lyF]
  refine JO 2 (v := ?vc2) I0 ?yc2 ?rc2
  case yc2 => (intro w h; obtain ⟨_, _, _⟩ := h; go_simp; with_reducible rfl)
  simp only [Act.put, lyA, lyB, lyC, lyD, lyE, lyF]
  refine JO 3 (v := ?vc3) I0 ?yc3 ?rc3
  case yc3 => (intro w h; obtain ⟨_, _, _⟩ := h; go_simp; with_reducible rfl)
  simp only [Act.put, lyA, lyB, lyC, lyD, lyE, lyF]
  refine JO 4 (v := ?vc4) I0 ?yc4 ?rc4
  case yc4 => (intro w h; obtain ⟨_, _, _⟩ := h; go_simp; with_reducible rfl)
  simp only [Act.put, lyA, lyB, lyC, lyD, lyE, lyF]
  refine JO 6 (v := ?vc6) I0 ?yc6 ?rc6
  case yc6 => (intro w h; obtain ⟨_, _, _⟩ := h; go_simp; with_reducible rfl)
  simp only [Act.put, lyA, lyB, lyC, lyD, lyE, lyF]
  refine JO 7 (v := ?vc7) I0 ?yc7 ?rc7
  case yc7 => (intro w h; obtain ⟨_, _, _⟩ := h; go_simp; with_reducible rfl)
  simp only [Act.put, lyA, lyB, lyC, lyD, lyE, lyF]
  refine JO 8 (v := ?vc8) I0 ?yc8 ?rc8
  case yc8 => (intro w h; obtain ⟨_, _, _⟩ := h; go_simp; with_reducible rfl)
  simp only [Act.put, lyA, lyB, lyC, lyD, lyE, lyF]
  refine JO 9 (v := ?vc9) I0 ?yc9 ?rc9
  case yc9 => (intro w h; obtain ⟨_, _, _⟩ := h; go_simp; with_reducible rfl)
  simp only [Act.put, lyA, lyB, lyC, lyD, lyE, lyF]
  refine JO 10 (v := ?vc10) I0 ?yc10 ?rc10
  case yc10 => (intro w h; obtain ⟨_, _, _⟩ := h; go_simp; with_reducible rfl)
  simp only [Act.put, lyA, lyB, lyC, lyD, lyE, lyF]
  refine J_one 5 rfl (by kernel_rfl) (fun K hK => ?_)
  go_simp
  refine (hC1.out W1 hx1.out).mono ?_
  rintro e w2 ⟨rfl, ht⟩
  have hsz1 := hx1.out.size
  obtain ⟨F', hP2, k2, hF2⟩ := PTo.turn hF.out (Nat.lt_of_lt_of_le hlt.out hsz1) ht
  have hkeep : ∀ (j : Nat) (u : Value), W1.cell? ⟨b, j, none⟩ = some u → w2.cell? ⟨b, j, none⟩ = some u := fun j u hu => by
    rw [World.cell?_of_block (hF2.2.2.2.2 b (World.block_lt_of_cell? _ _ hu) (hFb.out b (by have := hb.out; omega)))]
    exact hu
  have I2 : (fun w' : World => w'.cell? ⟨b, 1, none⟩ = some (.int .i64 x.a) ∧ w'.cell? ⟨b, 4, none⟩ = some (.string x.s) ∧ w'.cell? ⟨b, 5, none⟩ = some (.string x.t)) w2 := ⟨hkeep 1 _ I0.1, hkeep 4 _ I0.2.1, hkeep 5 _ I0.2.2⟩
  replace hP2 := hid hP2
  replace k2 := hid k2
  replace hF2 := hid hF2
  clear ht hkeep
  refine hK _ _ ⟨fun _ => I2, ?_⟩
  clear hK K
  try simp only [Act.put, lyA, lyB, lyC, lyD, lyE, lyF]
  refine J_one 11 rfl (by kernel_rfl) (fun K hK => ?_)
  go_simp
  refine (hC2.out W1 w2 hx1.out hF2.out).mono ?_
  rintro e w3 ⟨rfl, ht⟩
  have hres := hid (hfin.out W1 w2 w3 F' hx1.out hP2.out k2.out hF2.out ht)
  have hsz1 := hx1.out.size
  have hsz2 := hF2.out.2.2.2.1
  have hkeep : ∀ (j : Nat) (u : Value), w2.cell? ⟨b, j, none⟩ = some u → w3.cell? ⟨b, j, none⟩ = some u := fun j u hu => by
    obtain ⟨G', -, -, h3⟩ := ht
    rw [World.cell?_of_block (h3.2.2.2.2 b (World.block_lt_of_cell? _ _ hu) (if_neg (fun e => by have := hrlt.out; have := hb.out; omega)))]
    exact hu
  have I3 : (fun w' : World => w'.cell? ⟨b, 1, none⟩ = some (.int .i64 x.a) ∧ w'.cell? ⟨b, 4, none⟩ = some (.string x.s) ∧ w'.cell? ⟨b, 5, none⟩ = some (.string x.t)) w3 := ⟨hkeep 1 _ I2.1, hkeep 4 _ I2.2.1, hkeep 5 _ I2.2.2⟩
  clear ht hkeep hsz1 hsz2
  refine hK _ _ ⟨fun _ => I3, ?_⟩
  clear hK K
  try simp only [Act.put, lyA, lyB, lyC, lyD, lyE, lyF]
  refine J_one 12 rfl (by kernel_rfl) (fun K hK => ?_)
  go_simp
  refine hK _ _ ⟨fun _ => I3, ?_⟩
  clear hK K
  try simp only [Act.put, lyD, lyE, lyF]
  refine J_one 13 rfl (by kernel_rfl) (fun K hK => ?_)
  go_simp
  refine hK _ _ ⟨fun _ => I3, ?_⟩
  clear hK K
  try simp only [Act.put, lyD, lyE, lyF]
  refine J_done (by kernel_rfl) (OnlyOn.normal ?_)
  go_wp2
  go_ret
  obtain ⟨F9, q1, q2, q3⟩ := hres.out
  exact ⟨_, F9, rfl, q1, q2, q3⟩
theorem playU_1 (t r : Nat) (x : Ac) (L : List Te) (X : Nat × BT) (F G : Nat → Nat) (w : World) (hP : PTo w t L X F) (M : List Te) (hR : RTo w r M G) (hS : Srt M) (hD : Dj F G) (hl : M.length ≤ 1200) (h : x.op = 1) : Calls Tryz.prog 8 #[.pointer (some ⟨t, 0, none⟩), .pointer (some ⟨r, 0, none⟩), .agg #[.int .i64 x.op, .int .i64 x.a, .int .i64 x.b, .int .i64 x.c, .string x.s, .string x.t]] w (GiveU x L X F G t w) := by
  have hop : x.op = 1 := h
  have d0 : (x.op == 0) = false := by rw [beq_eq_false_iff_ne, hop]; decide
  have d1 : (x.op == 1) = true := by rw [hop]; rfl
  have hgo := hid hP
  have hP' := hP
  obtain ⟨p, fT, H, hF⟩ := hP'
  have eL : Hid (actL x L = takeLs L ⟨x.s, x.a⟩) := by unfold Hid actL; rw [if_neg (by rw [h]; decide), if_pos h]
  have eX : Hid (actX x L X = takeX X.1 X.2 L ⟨x.s, x.a⟩) := by unfold Hid actX; rw [if_neg (by rw [h]; decide), if_pos h]
  obtain ⟨er, hE⟩ : ∃ er, Hid (er = takeEr L ⟨x.s, x.a⟩) := ⟨_, rfl⟩
  obtain ⟨L', hL'⟩ : ∃ L', Hid (L' = takeLs L ⟨x.s, x.a⟩) := ⟨_, rfl⟩
  obtain ⟨er2, hE2⟩ : ∃ er2, Hid (er2 = takeEr M ⟨x.s, x.a⟩) := ⟨_, rfl⟩
  obtain ⟨M', hM'⟩ : ∃ M', Hid (M' = takeLs M ⟨x.s, x.a⟩) := ⟨_, rfl⟩
  obtain ⟨X', hX'⟩ : ∃ X', Hid (X' = takeX X.1 X.2 L ⟨x.s, x.a⟩) := ⟨_, rfl⟩
  rw [← hL'.out] at eL
  rw [← hX'.out] at eX
  have hC1 : Hid (∀ w1, Ext w w1 → Calls Tryz.prog 20 #[.pointer (some ⟨t, 0, none⟩), .string x.s, .int .i64 x.a] w1 fun e w' => e = .returned (.int .i64 er) ∧ TreeTurnedX X' 0 w1 w' t fT L') := fun w1 hx => by
    exact TakeX_any t L X.1 p X.2 fT x.s x.a w1 (H.ext hx) er L' hE.out hL'.out X' hX'.out
  have hC2 : Hid (∀ w1 w2, Ext w w1 → FR F w1 w2 → Calls Tryz.prog 21 #[.pointer (some ⟨r, 0, none⟩), .string x.s, .int .i64 x.a] w2 fun e w' => e = .returned (.int .i64 er2) ∧ RTurned w2 w' r G M') := fun w1 w2 hx hF => rTake_any r M G x.s x.a w2 ((hR.ext hx).frame hF (fun a h => (hD a).resolve_right h)) hS hl er2 M' hE2.out hM'.out
  have hlt := hid H.lt
  have hfin := hid (fun (w1 w2 w3 : World) (F' : Nat → Nat) (hx : Ext w w1) (h1 : PTo w2 t L' X' F') h2 h3 (h4 : RTurned w2 w3 r G M') => GiveU.turn (w1 := w1) (w2 := w2) (w3 := w3) (F' := F') eL.out eX.out hR hD hx h1 h2 h3 h4)
  have hFb := hid hgo.out.bound
  have hrlt := hid hR.lt
  replace hF := hid hF
  clear H hE hE2 hM' hL' hX' eL eX hgo
  have hx1 := hid ((Ext.refl w).alloc_right (.cells #[.int .i64 x.op, .int .i64 x.a, .int .i64 x.b, .int .i64 x.c, .string x.s, .string x.t] 34))
  have ha := heap_alloc_new w (.cells #[.int .i64 x.op, .int .i64 x.a, .int .i64 x.b, .int .i64 x.c, .string x.s, .string x.t] 34)
  have z0 : (w.alloc (.cells #[.int .i64 x.op, .int .i64 x.a, .int .i64 x.b, .int .i64 x.c, .string x.s, .string x.t] 34)).cell? ⟨w.heap.size, 0, none⟩ = some (.int .i64 x.op) := by rw [Lib.cell_of_heap ha]; rfl
  have z1 : (w.alloc (.cells #[.int .i64 x.op, .int .i64 x.a, .int .i64 x.b, .int .i64 x.c, .string x.s, .string x.t] 34)).cell? ⟨w.heap.size, 1, none⟩ = some (.int .i64 x.a) := by rw [Lib.cell_of_heap ha]; rfl
  have z4 : (w.alloc (.cells #[.int .i64 x.op, .int .i64 x.a, .int .i64 x.b, .int .i64 x.c, .string x.s, .string x.t] 34)).cell? ⟨w.heap.size, 4, none⟩ = some (.string x.s) := by rw [Lib.cell_of_heap ha]; rfl
  have z5 : (w.alloc (.cells #[.int .i64 x.op, .int .i64 x.a, .int .i64 x.b, .int .i64 x.c, .string x.s, .string x.t] 34)).cell? ⟨w.heap.size, 5, none⟩ = some (.string x.t) := by rw [Lib.cell_of_heap ha]; rfl
  have lb := (Array.getElem?_eq_some_iff.1 ha).1
  clear ha
  clear hop h
  clear hP hR hD
  go_enter Tryz.func8, Tryz.ntmps8
  go_upto_region 1 with fail
  obtain ⟨b, hb⟩ : ∃ b, b = w.heap.size := ⟨_, rfl⟩
  rw [← hb] at z0 z1 z4 z5 lb
  simp only [← hb]
  replace hb := hid hb
  generalize w.alloc (.cells #[.int .i64 x.op, .int .i64 x.a, .int .i64 x.b, .int .i64 x.c, .string x.s, .string x.t] 34) = W1 at *
  go_upto_region 5 with fail
  have I0 : (fun w' : World => w'.cell? ⟨b, 1, none⟩ = some (.int .i64 x.a) ∧ w'.cell? ⟨b, 4, none⟩ = some (.string x.s) ∧ w'.cell? ⟨b, 5, none⟩ = some (.string x.t)) W1.drew := ⟨z1, z4, z5⟩
  refine region_J (fun w' : World => w'.cell? ⟨b, 1, none⟩ = some (.int .i64 x.a) ∧ w'.cell? ⟨b, 4, none⟩ = some (.string x.s) ∧ w'.cell? ⟨b, 5, none⟩ = some (.string x.t)) 14 (by kernel_rfl) ?_
  replace hx1 := hid (hx1.out.drew_right)
  clear z0 z1 z4 z5 lb
  generalize W1.drew = W1 at *
  refine JO 0 (v := ?vc0) I0 ?yc0 ?rc0
  case yc0 => (intro w h; obtain ⟨_, _, _⟩ := h; go_simp; with_reducible rfl)
  simp only [Act.put, lyA, lyB, lyC, lyD, lyE, lyF]
  refine JO 1 (v := ?vc1) I0 ?yc1 ?rc1
  case yc1 => (intro w h; obtain ⟨_, _, _⟩ := h; go_simp; with_reducible rfl)
  simp only [Act.put, lyA, lyB, lyC, lyD, lyE, lyF]
  refine JO 2 (v := ?vc2) I0 ?yc2 ?rc2
  case yc2 => (intro w h; obtain ⟨_, _, _⟩ := h; go_simp; with_reducible rfl)
  simp only [Act.put, lyA, lyB, lyC, lyD, lyE, lyF]
  refine JO 3 (v := ?vc3) I0 ?yc3 ?rc3
  case yc3 => (intro w h; obtain ⟨_, _, _⟩ := h; go_simp; with_reducible rfl)
  simp only [Act.put, lyA, lyB, lyC, lyD, lyE, lyF]
  refine JO 4 (v := ?vc4) I0 ?yc4 ?rc4
  case yc4 => (intro w h; obtain ⟨_, _, _⟩ := h; go_simp; with_reducible rfl)
  simp only [Act.put, lyA, lyB, lyC, lyD, lyE, lyF]
  refine JO 6 (v := ?vc6) I0 ?yc6 ?rc6
  case yc6 => (intro w h; obtain ⟨_, _, _⟩ := h; go_simp; with_reducible rfl)
  simp only [Act.put, lyA, lyB, lyC, lyD, lyE, lyF]
  refine JO 7 (v := ?vc7) I0 ?yc7 ?rc7
  case yc7 => (intro w h; obtain ⟨_, _, _⟩ := h; go_simp; with_reducible rfl)
  simp only [Act.put, lyA, lyB, lyC, lyD, lyE, lyF]
  refine JO 8 (v := ?vc8) I0 ?yc8 ?rc8
  case yc8 => (intro w h; obtain ⟨_, _, _⟩ := h; go_simp; with_reducible rfl)
  simp only [Act.put, lyA, lyB, lyC, lyD, lyE, lyF]
  refine JO 9 (v := ?vc9) I0 ?yc9 ?rc9
  case yc9 => (intro w h; obtain ⟨_, _, _⟩ := h; go_simp; with_reducible rfl)
  simp only [Act.put, lyA, lyB, lyC, lyD, lyE, lyF]
  refine JO 10 (v := ?vc10) I0 ?yc10 ?rc10
  case yc10 => (intro w h; obtain ⟨_, _, _⟩ := h; go_simp; with_reducible rfl)
  simp only [Act.put, lyA, lyB, lyC, lyD, lyE, lyF]
  refine J_one 5 rfl (by kernel_rfl) (fun K hK => ?_)
  go_simp
  refine (hC1.out W1 hx1.out).mono ?_
  rintro e w2 ⟨rfl, ht⟩
  have hsz1 := hx1.out.size
  obtain ⟨F', hP2, k2, hF2⟩ := PTo.turn hF.out (Nat.lt_of_lt_of_le hlt.out hsz1) ht
  have hkeep : ∀ (j : Nat) (u : Value), W1.cell? ⟨b, j, none⟩ = some u → w2.cell? ⟨b, j, none⟩ = some u := fun j u hu => by
    rw [World.cell?_of_block (hF2.2.2.2.2 b (World.block_lt_of_cell? _ _ hu) (hFb.out b (by have := hb.out; omega)))]
    exact hu
  have I2 : (fun w' : World => w'.cell? ⟨b, 1, none⟩ = some (.int .i64 x.a) ∧ w'.cell? ⟨b, 4, none⟩ = some (.string x.s) ∧ w'.cell? ⟨b, 5, none⟩ = some (.string x.t)) w2 := ⟨hkeep 1 _ I0.1, hkeep 4 _ I0.2.1, hkeep 5 _ I0.2.2⟩
  replace hP2 := hid hP2
  replace k2 := hid k2
  replace hF2 := hid hF2
  clear ht hkeep
  refine hK _ _ ⟨fun _ => I2, ?_⟩
  clear hK K
  try simp only [Act.put, lyA, lyB, lyC, lyD, lyE, lyF]
  refine J_one 11 rfl (by kernel_rfl) (fun K hK => ?_)
  go_simp
  refine (hC2.out W1 w2 hx1.out hF2.out).mono ?_
  rintro e w3 ⟨rfl, ht⟩
  have hres := hid (hfin.out W1 w2 w3 F' hx1.out hP2.out k2.out hF2.out ht)
  have hsz1 := hx1.out.size
  have hsz2 := hF2.out.2.2.2.1
  have hkeep : ∀ (j : Nat) (u : Value), w2.cell? ⟨b, j, none⟩ = some u → w3.cell? ⟨b, j, none⟩ = some u := fun j u hu => by
    obtain ⟨G', -, -, h3⟩ := ht
    rw [World.cell?_of_block (h3.2.2.2.2 b (World.block_lt_of_cell? _ _ hu) (if_neg (fun e => by have := hrlt.out; have := hb.out; omega)))]
    exact hu
  have I3 : (fun w' : World => w'.cell? ⟨b, 1, none⟩ = some (.int .i64 x.a) ∧ w'.cell? ⟨b, 4, none⟩ = some (.string x.s) ∧ w'.cell? ⟨b, 5, none⟩ = some (.string x.t)) w3 := ⟨hkeep 1 _ I2.1, hkeep 4 _ I2.2.1, hkeep 5 _ I2.2.2⟩
  clear ht hkeep hsz1 hsz2
  refine hK _ _ ⟨fun _ => I3, ?_⟩
  clear hK K
  try simp only [Act.put, lyA, lyB, lyC, lyD, lyE, lyF]
  refine J_one 12 rfl (by kernel_rfl) (fun K hK => ?_)
  go_simp
  refine hK _ _ ⟨fun _ => I3, ?_⟩
  clear hK K
  try simp only [Act.put, lyD, lyE, lyF]
  refine J_one 13 rfl (by kernel_rfl) (fun K hK => ?_)
  go_simp
  refine hK _ _ ⟨fun _ => I3, ?_⟩
  clear hK K
  try simp only [Act.put, lyD, lyE, lyF]
  refine J_done (by kernel_rfl) (OnlyOn.normal ?_)
  go_wp2
  go_ret
  obtain ⟨F9, q1, q2, q3⟩ := hres.out
  exact ⟨_, F9, rfl, q1, q2, q3⟩
theorem playedU_any (t r : Nat) (x : Ac) (L M : List Te) (X : Nat × BT) (F G : Nat → Nat) (w : World) (hP : PTo w t L X F) (hR : RTo w r M G) (hD : Dj F G) (hS : Srt M) (hl : M.length ≤ 1200) (hM : M = actL x L) : Calls Tryz.prog 8 #[.pointer (some ⟨t, 0, none⟩), .pointer (some ⟨r, 0, none⟩), .agg #[.int .i64 x.op, .int .i64 x.a, .int .i64 x.b, .int .i64 x.c, .string x.s, .string x.t]] w (GiveU x L X F G t w) := by
  by_cases h0 : x.op = 0
  · exact playU_0 t r x L X F G w hP M hR hS hD hl h0
  · by_cases h1 : x.op = 1
    · exact playU_1 t r x L X F G w hP M hR hS hD hl h1
    · have hML : M = L := by rw [hM]; unfold actL; rw [if_neg h0, if_neg h1]
      subst hML
      refine (played_any t r x M X F G w hP hR hD hl).mono ?_
      rintro e w' ⟨rfl, F', G', h2, -, -, h3, -, h4⟩
      exact ⟨true, F', rfl, h2, h3, h4⟩
def lowB (w0 : World) (a : Nat) : Nat := if a < w0.heap.size then 1 else 0
theorem low_zero {w0 : World} {F : Nat → Nat} (h : Dj F (lowB w0)) : ∀ a, a < w0.heap.size → F a = 0 := fun a ha => by
  rcases h a with h1 | h1
  · exact h1
  · unfold lowB at h1; rw [if_pos ha] at h1; cases h1
theorem low_dj {w0 : World} {F : Nat → Nat} (h : ∀ a, a < w0.heap.size → F a = 0) : Dj F (lowB w0) := fun a => by
  by_cases ha : a < w0.heap.size
  · exact .inl (h a ha)
  · exact .inr (if_neg ha)
theorem low_bound {w0 w : World} (h : Ext w0 w) : ∀ a, w.heap.size ≤ a → lowB w0 a = 0 := fun a ha => if_neg (by have := h.size; omega)
section
variable {w0 w w' w1 w2 : World} {t u r : Nat} {L M : List Te} {X Y : Nat × BT} {F H G G2 : Nat → Nat} {x : Ac}
theorem Pair2.keep (h : Pair2 x L X F G t r w w') : ∃ F' G', PTo w' t (actL x L) (actX x L X) F' ∧ RTo w' r (actL x L) G' ∧ Dj F' G' ∧ FR (fun a => F a + G a) w w' ∧ (∀ H : Nat → Nat, (∀ a, w.heap.size ≤ a → H a = 0) → Dj F H → Dj F' H) ∧ ∀ H : Nat → Nat, (∀ a, w.heap.size ≤ a → H a = 0) → Dj G H → Dj G' H := by
  obtain ⟨F', G', m1, m2, m3, m4, m5, m6⟩ := h
  exact ⟨F', G', m1, m2, m3, m6, fun H hb hd => hd.left m4 hb, fun H hb hd => hd.left m5 hb⟩
theorem dj_fr {F G H : Nat → Nat} (h1 : Dj F H) (h2 : Dj G H) : ∀ a, H a ≠ 0 → F a + G a = 0 := fun a ha => by
  have := (h1 a).resolve_right ha
  have := (h2 a).resolve_right ha
  omega
def P3 (w0 w : World) (t u r : Nat) (L : List Te) (X : Nat × BT) (M : List Te) (Y : Nat × BT) (F H G : Nat → Nat) : Prop := Ext w0 w ∧ PTo w t L X F ∧ PTo w u M Y H ∧ RTo w r L G ∧ Dj F G ∧ Dj F H ∧ Dj G H ∧ Dj F (lowB w0) ∧ Dj H (lowB w0) ∧ Dj G (lowB w0)
theorem P3.half (h : P3 w0 w t u r L X M Y F H G) (h2 : Pair2 x L X F G t r w w') : ∃ F' G', P3 w0 w' t u r (actL x L) (actX x L X) M Y F' H G' := by
  obtain ⟨k1, k2, k3, k4, k5, k6, k7, k8, k9, k10⟩ := h
  obtain ⟨F', G', m1, m2, m3, m4, m5, m6⟩ := h2.keep
  exact ⟨F', G', k1.trans' m4 (fun a ha => by show F a + G a = 0; rw [low_zero k8 a ha, low_zero k10 a ha]), m1, k3.frame m4 (dj_fr k6 k7), m2, m3, m5 _ k3.bound k6, m6 _ k3.bound k7, m5 _ (low_bound k1) k8, k9, m6 _ (low_bound k1) k10⟩
theorem P3.ext (h : P3 w0 w t u r L X M Y F H G) (hx : Ext w w') : P3 w0 w' t u r L X M Y F H G := by
  obtain ⟨k1, k2, k3, k4, k5⟩ := h
  exact ⟨k1.trans hx, k2.ext hx, k3.ext hx, k4.ext hx, k5⟩
theorem P3.other (h : P3 w0 w t u r L X M Y F H G) {M' : List Te} {Y' : Nat × BT} {H' : Nat → Nat} (h0 : ∀ a, a < w.heap.size → G2 a = 0) (hx : Ext w w1) (h2 : PTo w2 u M' Y' H') (h3 : ∀ a, a < w1.heap.size → H' a ≠ 0 → H a ≠ 0) (h4 : FR (fun a => H a + G2 a) w1 w2) : P3 w0 w2 t u r L X M' Y' F H' G := by
  obtain ⟨k1, k2, k3, k4, k5, k6, k7, k8, k9, k10⟩ := h
  have s1 := hx.size
  have hz : ∀ {K : Nat → Nat}, (∀ a, w.heap.size ≤ a → K a = 0) → Dj K H → ∀ a, K a ≠ 0 → H a + G2 a = 0 := fun {K} hb hd a ha => by
    have hlt : a < w.heap.size := Classical.byContradiction fun h9 => ha (hb a (Nat.le_of_not_lt h9))
    have := (hd a).resolve_left ha
    have := h0 a hlt
    omega
  have hl : ∀ {K : Nat → Nat}, (∀ a, w.heap.size ≤ a → K a = 0) → Dj K H → Dj K H' := fun {K} hb hd => (hd.symm.left (n := w1.heap.size) h3 (fun a ha => hb a (by omega))).symm
  refine ⟨(k1.trans hx).trans' h4 (fun a ha => ?_), (k2.ext hx).frame h4 (hz k2.bound k6), h2, (k4.ext hx).frame h4 (hz k4.bound k7), k5, hl k2.bound k6, hl k4.bound k7, k8, (hl (low_bound k1) k9.symm).symm, k10⟩
  have := low_zero k9 a ha
  have := h0 a (by have := k1.size; omega)
  show H a + G2 a = 0
  omega
def P4 (w0 w : World) (t r c o : Nat) (L : List Te) (X : Nat × BT) (F G : Nat → Nat) (M : List Te) (Y : Nat × BT) (H K : Nat → Nat) : Prop := PQ w0 w t r L X F G ∧ PTo w c M Y H ∧ RTo w o M K ∧ Dj F H ∧ Dj G H ∧ Dj F K ∧ Dj G K
theorem P4.turn {c o : Nat} {K : Nat → Nat} (h : P4 w0 w t r c o L X F G M Y H K) (h2 : Pair2 x L X F G t r w w') : ∃ F' G', P4 w0 w' t r c o (actL x L) (actX x L X) F' G' M Y H K := by
  obtain ⟨k1, k2, k3, k4, k5, k6, k7⟩ := h
  obtain ⟨n1, n2, n3, n4, n5, n6⟩ := k1
  obtain ⟨F', G', m1, m2, m3, m4, m5, m6⟩ := h2.keep
  exact ⟨F', G', ⟨n1.trans' m4 (fun a ha => by show F a + G a = 0; rw [n5 a ha, n6 a ha]), m1, m2, m3, low_zero (m5 _ (low_bound n1) (low_dj n5)), low_zero (m6 _ (low_bound n1) (low_dj n6))⟩, k2.frame m4 (dj_fr k4 k5), k3.frame m4 (dj_fr k6 k7), m5 _ k2.bound k4, m6 _ k2.bound k5, m5 _ k3.bound k6, m6 _ k3.bound k7⟩
theorem P4.ext {c o : Nat} {K : Nat → Nat} (h : P4 w0 w t r c o L X F G M Y H K) (hx : Ext w w') : P4 w0 w' t r c o L X F G M Y H K := by
  obtain ⟨k1, k2, k3, k4⟩ := h
  exact ⟨k1.ext hx, k2.ext hx, k3.ext hx, k4⟩
theorem P3.copies {c o : Nat} {H2 K : Nat → Nat} (h : P3 w0 w t u r L X M Y F H G) (hx1 : Ext w w1) (hc : PTo w1 c L X H2) (h1 : ∀ a, a < w.heap.size → H2 a = 0) (hx2 : Ext w1 w2) (ho : RTo w2 o L K) (h2 : ∀ a, a < w1.heap.size → K a = 0) : P4 w0 w2 t r c o L X F G L X H2 K := by
  obtain ⟨k1, k2, k3, k4, k5, k6, k7, k8, k9, k10⟩ := h
  have s1 := hx1.size
  have hz : ∀ {A B : Nat → Nat} {n : Nat}, (∀ a, w.heap.size ≤ a → A a = 0) → (∀ a, a < n → B a = 0) → w.heap.size ≤ n → Dj A B := fun {A B n} h8 h9 hn a => by
    by_cases ha : a < w.heap.size
    · exact .inr (h9 a (by omega))
    · exact .inl (h8 a (Nat.le_of_not_lt ha))
  exact ⟨⟨(k1.trans hx1).trans hx2, (k2.ext hx1).ext hx2, (k4.ext hx1).ext hx2, k5, low_zero k8, low_zero k10⟩, hc.ext hx2, ho, hz k2.bound h1 (Nat.le_refl _), hz k4.bound h1 (Nat.le_refl _), hz k2.bound h2 s1, hz k4.bound h2 s1⟩
theorem P3.new {p q : Nat} {fT fU : Nat → Nat} {wa wb wc : World} (hx1 : Ext w0 wa) (hx2 : Ext wa wb) (h1 : wa.heap.size ≤ t) (hT : TreeAt 0 wb t [] 0 p (.nd [] []) fT) (hf : ∀ a, a < wa.heap.size → fT a = 0) (hx3 : Ext wb wc) (h2 : wb.heap.size ≤ u) (hU : TreeAt 0 wc u [] 0 q (.nd [] []) fU) (hg : ∀ a, a < wb.heap.size → fU a = 0) : ∃ F H G, P3 w0 (wc.alloc (.cells #[.slice none 0 0, .slice none 0 0] 31)) t u wc.heap.size [] (0, .nd [] []) [] (0, .nd [] []) F H G := by
  have s1 := hx1.size
  have s2 := hx2.size
  have s3 := hx3.size
  obtain ⟨H, G, q1, q2, q3, q4, q5, q6⟩ := PQ.new (hx1.trans hx2) hx3 h2 hU hg
  obtain ⟨H9, G9, z1, z2, z3, z4, z5, z6⟩ := PQ.new (w0 := wb) (Ext.refl wb) hx3 h2 hU hg
  have hx4 := (Ext.refl wc).alloc_right (.cells #[.slice none 0 0, .slice none 0 0] 31)
  have hP : PTo wb t [] (0, .nd [] []) (fun a => one1 t a + fT a) := ⟨p, fT, hT, fun _ => rfl⟩
  have hlow : ∀ a, a < w0.heap.size → one1 t a + fT a = 0 := fun a ha => by rw [hf a (by omega), show one1 t a = 0 from if_neg (by omega)]
  have hz : ∀ {B : Nat → Nat}, (∀ a, a < wb.heap.size → B a = 0) → Dj (fun a => one1 t a + fT a) B := fun {B} h9 a => by
    by_cases ha : a < wb.heap.size
    · exact .inr (h9 a ha)
    · exact .inl (hP.bound a (Nat.le_of_not_lt ha))
  exact ⟨_, H9, G9, q1, hP.ext (hx3.trans hx4), z2, z3, hz z6, hz z5, z4.symm, low_dj hlow, low_dj (fun a ha => z5 a (by omega)), low_dj (fun a ha => z6 a (by omega))⟩
end
end Go.Proofs.YtpijfiaecicpfaaGreat
