/-
  Two indexes that are the same.
-/
import Derived.Test.YtpijfiaecicpfaaCf
namespace Go.Proofs.Ytpijfiaecicpfaa
open Go.RowKit Go.Shelf
set_option linter.unusedVariables false
set_option linter.unusedSimpArgs false
theorem put3_far {w : World} {b p : Nat} {o : Obj} (hne : p ≠ b) (h : w.heap[p]? = some o) (v0 v1 v2 : Value) : (((w.setCell ⟨b, 0, none⟩ v0).setCell ⟨b, 1, none⟩ v1).setCell ⟨b, 2, none⟩ v2).heap[p]? = some o := by
  have hne' : b ≠ p := fun e => hne e.symm
  simp [World.setCell, Array.getElem?_modify, hne', h]
set_option maxRecDepth 100000 in
set_option maxHeartbeats 40000000 in
theorem sameI_any (A A' : Option Addr) (n c c' : Nat) (xs : List Nx) (w : World) (hr : RX w A n c xs) (hr' : RX w A' n c' xs) : Calls Try.prog 21 #[.agg #[.slice A n c], .agg #[.slice A' n c']] w (Give (.bool true) w) := by
  have hm := RX.max hr
  have hm' := RX.max hr'
  have hx1 := (Ext.refl w).alloc_right (.cells #[.slice A n c] 37)
  have hx2 := (Ext.refl (w.alloc (.cells #[.slice A n c] 37))).alloc_right (.cells #[.slice A' n c'] 37)
  have h1 := heap_alloc_new w (.cells #[.slice A n c] 37)
  have h2 := heap_alloc_new (w.alloc (.cells #[.slice A n c] 37)) (.cells #[.slice A' n c'] 37)
  replace h1 := (hx2.block (Array.getElem?_eq_some_iff.1 h1).1).trans h1
  rw [World.size_alloc] at h2
  replace hx1 := hid (hx1.trans hx2)
  clear hx2
  replace hr := hid hr
  replace hr' := hid hr'
  go_enter Try.func21, Try.ntmps21
  go_upto_region 1 with fail
  obtain ⟨b0, hb0⟩ : ∃ b0, b0 = w.heap.size := ⟨_, rfl⟩
  obtain ⟨b1, hb1⟩ : ∃ b1, b1 = b0 + 1 := ⟨_, rfl⟩
  try simp only [World.size_alloc]
  rw [← hb0] at h1 h2
  simp only [← hb0]
  rw [← hb1] at h2
  simp only [← hb1]
  replace hb0 := hid hb0
  replace hb1 := hid hb1
  generalize (w.alloc (.cells #[.slice A n c] 37)).alloc (.cells #[.slice A' n c'] 37) = w1 at *
  have hcell : Hid (∀ w', Ext w1 w' → w'.cell? ⟨b0, 0, none⟩ = some (.slice A n c) ∧ w'.cell? ⟨b1, 0, none⟩ = some (.slice A' n c') ∧ b0 < w'.heap.size ∧ b1 < w'.heap.size) := fun w' hx => ⟨hx.cell (by rw [Lib.cell_of_heap h1]; rfl), hx.cell (by rw [Lib.cell_of_heap h2]; rfl), Nat.lt_of_lt_of_le (Array.getElem?_eq_some_iff.1 h1).1 hx.size, Nat.lt_of_lt_of_le (Array.getElem?_eq_some_iff.1 h2).1 hx.size⟩
  clear h1 h2
  obtain ⟨za, zb, la, lb⟩ := hcell.out _ (Ext.refl _)
  go_wp2_with fail
  clear za zb la lb
  go_loopw [5] (fun i wr => ∃ k : Nat, k ≤ n ∧ i = .int .i64 k ∧ Hid (Ext w1 wr)) (fun i _ => n - (intOf i).toNat)
  case atStart => exact ⟨0, by omega, rfl, Ext.refl _⟩
  case round =>
    obtain ⟨k, hk, rfl, hx⟩ := hrel
    obtain ⟨za, zb, la, lb⟩ := hcell.out _ hx.out
    by_cases hlt : k < n
    · obtain ⟨ad0, A1, c1, A2, c2, A3, c3, rfl, a0, a1, a2, r1, r2, r3⟩ := hr.out.at_ hlt
      obtain ⟨bd0, D1, e1, D2, e2, D3, e3, rfl, d0, d1, d2, g1, g2, g3⟩ := hr'.out.at_ hlt
      have hki : (k : Int) < (n : Int) := by omega
      have q1 := (Rd.max r1).1
      have q2 := (Rd.max r2).1
      have q3 := (Rd.max r3).1
      obtain ⟨m1, hm1⟩ : ∃ m1, (xth xs k).keys.length = m1 := ⟨_, rfl⟩
      obtain ⟨m2, hm2⟩ : ∃ m2, (xth xs k).recs.length = m2 := ⟨_, rfl⟩
      obtain ⟨m3, hm3⟩ : ∃ m3, (xth xs k).kids.length = m3 := ⟨_, rfl⟩
      replace r1 := hid r1
      replace r2 := hid r2
      replace r3 := hid r3
      replace g1 := hid g1
      replace g2 := hid g2
      replace g3 := hid g3
      rw [hm1] at a0 d0 q1
      rw [hm2] at a1 d1 q2
      rw [hm3] at a2 d2 q3
      replace hm1 := hid hm1
      replace hm2 := hid hm2
      replace hm3 := hid hm3
      have hxw := hx1.out.trans hx.out
      replace a0 := hxw.cell a0
      replace a1 := hxw.cell a1
      replace a2 := hxw.cell a2
      replace d0 := hxw.cell d0
      replace d1 := hxw.cell d1
      replace d2 := hxw.cell d2
      clear hxw
      go_upto_region 6 with fail
      have hS : Hid (∀ w', Ext wr.drew w' → (fun w' : World => w'.cell? ⟨b0, 0, none⟩ = some (.slice (some ad0) n c) ∧ w'.cell? ⟨b1, 0, none⟩ = some (.slice (some bd0) n c') ∧ w'.cell? (ad0.add (k * 3)) = some (.slice A1 m1 c1) ∧ w'.cell? ⟨(ad0.add (k * 3)).block, (ad0.add (k * 3)).off + 1, none⟩ = some (.slice A2 m2 c2) ∧ w'.cell? ⟨(ad0.add (k * 3)).block, (ad0.add (k * 3)).off + 2, none⟩ = some (.slice A3 m3 c3) ∧ w'.cell? (bd0.add (k * 3)) = some (.slice D1 m1 e1) ∧ w'.cell? ⟨(bd0.add (k * 3)).block, (bd0.add (k * 3)).off + 1, none⟩ = some (.slice D2 m2 e2) ∧ w'.cell? ⟨(bd0.add (k * 3)).block, (bd0.add (k * 3)).off + 2, none⟩ = some (.slice D3 m3 e3)) w') := fun w' hx => by
        have h9 := ((Ext.refl wr).drew_right).trans hx
        exact ⟨h9.cell za, h9.cell zb, h9.cell a0, h9.cell a1, h9.cell a2, h9.cell d0, h9.cell d1, h9.cell d2⟩
      have I0 : (fun w' : World => w'.cell? ⟨b0, 0, none⟩ = some (.slice (some ad0) n c) ∧ w'.cell? ⟨b1, 0, none⟩ = some (.slice (some bd0) n c') ∧ w'.cell? (ad0.add (k * 3)) = some (.slice A1 m1 c1) ∧ w'.cell? ⟨(ad0.add (k * 3)).block, (ad0.add (k * 3)).off + 1, none⟩ = some (.slice A2 m2 c2) ∧ w'.cell? ⟨(ad0.add (k * 3)).block, (ad0.add (k * 3)).off + 2, none⟩ = some (.slice A3 m3 c3) ∧ w'.cell? (bd0.add (k * 3)) = some (.slice D1 m1 e1) ∧ w'.cell? ⟨(bd0.add (k * 3)).block, (bd0.add (k * 3)).off + 1, none⟩ = some (.slice D2 m2 e2) ∧ w'.cell? ⟨(bd0.add (k * 3)).block, (bd0.add (k * 3)).off + 2, none⟩ = some (.slice D3 m3 e3)) wr.drew := hS.out _ (Ext.refl _)
      refine region_J (fun w' : World => w'.cell? ⟨b0, 0, none⟩ = some (.slice (some ad0) n c) ∧ w'.cell? ⟨b1, 0, none⟩ = some (.slice (some bd0) n c') ∧ w'.cell? (ad0.add (k * 3)) = some (.slice A1 m1 c1) ∧ w'.cell? ⟨(ad0.add (k * 3)).block, (ad0.add (k * 3)).off + 1, none⟩ = some (.slice A2 m2 c2) ∧ w'.cell? ⟨(ad0.add (k * 3)).block, (ad0.add (k * 3)).off + 2, none⟩ = some (.slice A3 m3 c3) ∧ w'.cell? (bd0.add (k * 3)) = some (.slice D1 m1 e1) ∧ w'.cell? ⟨(bd0.add (k * 3)).block, (bd0.add (k * 3)).off + 1, none⟩ = some (.slice D2 m2 e2) ∧ w'.cell? ⟨(bd0.add (k * 3)).block, (bd0.add (k * 3)).off + 2, none⟩ = some (.slice D3 m3 e3)) 14 (by kernel_rfl) ?_
      have hx9 := hid hx.out.drew_right
      clear za zb a0 a1 a2 d0 d1 d2 la lb hx
      generalize wr.drew = w9 at *
      refine J_takeO 0 (v := ?vr0) rfl (by kernel_rfl) (by kernel_rfl) (by kernel_rfl) (by kernel_rfl) (fun _ _ _ h => h) (Or.inl ⟨by rfl, ?yr0⟩) I0 ?rr0
      case yr0 => (intro w hSw; obtain ⟨_, _, _, _, _, _, _, _⟩ := hSw; (go_simp; with_reducible rfl))
      simp only [Act.put, List.getElem_toArray, List.getElem_cons_zero, List.getElem_cons_succ, List.setIfInBounds_toArray, List.set_cons_zero, List.set_cons_succ]
      refine J_takeO 1 (v := ?vr1) rfl (by kernel_rfl) (by kernel_rfl) (by kernel_rfl) (by kernel_rfl) (fun _ _ _ h => h) (Or.inl ⟨by rfl, ?yr1⟩) I0 ?rr1
      case yr1 => (intro w hSw; obtain ⟨_, _, _, _, _, _, _, _⟩ := hSw; (go_simp; with_reducible rfl))
      simp only [Act.put, List.getElem_toArray, List.getElem_cons_zero, List.getElem_cons_succ, List.setIfInBounds_toArray, List.set_cons_zero, List.set_cons_succ]
      refine J_takeO 2 (v := ?vr2) rfl (by kernel_rfl) (by kernel_rfl) (by kernel_rfl) (by kernel_rfl) (fun _ _ _ h => h) (Or.inl ⟨by rfl, ?yr2⟩) I0 ?rr2
      case yr2 => (intro w hSw; obtain ⟨_, _, _, _, _, _, _, _⟩ := hSw; (go_simp; with_reducible rfl))
      simp only [Act.put, List.getElem_toArray, List.getElem_cons_zero, List.getElem_cons_succ, List.setIfInBounds_toArray, List.set_cons_zero, List.set_cons_succ]
      refine J_takeO 3 (v := ?vr3) rfl (by kernel_rfl) (by kernel_rfl) (by kernel_rfl) (by kernel_rfl) (fun _ _ _ h => h) (Or.inl ⟨by rfl, ?yr3⟩) I0 ?rr3
      case yr3 => (intro w hSw; obtain ⟨_, _, _, _, _, _, _, _⟩ := hSw; (go_simp; with_reducible rfl))
      simp only [Act.put, List.getElem_toArray, List.getElem_cons_zero, List.getElem_cons_succ, List.setIfInBounds_toArray, List.set_cons_zero, List.set_cons_succ]
      refine J_takeO 4 (v := ?vr4) rfl (by kernel_rfl) (by kernel_rfl) (by kernel_rfl) (by kernel_rfl) (fun _ _ _ h => h) (Or.inl ⟨by rfl, ?yr4⟩) I0 ?rr4
      case yr4 => (intro w hSw; obtain ⟨_, _, _, _, _, _, _, _⟩ := hSw; (go_simp; with_reducible rfl))
      simp only [Act.put, List.getElem_toArray, List.getElem_cons_zero, List.getElem_cons_succ, List.setIfInBounds_toArray, List.set_cons_zero, List.set_cons_succ]
      refine J_takeO 5 (v := ?vr5) rfl (by kernel_rfl) (by kernel_rfl) (by kernel_rfl) (by kernel_rfl) (fun _ _ _ h => h) (Or.inl ⟨by rfl, ?yr5⟩) I0 ?rr5
      case yr5 => (intro w hSw; obtain ⟨_, _, _, _, _, _, _, _⟩ := hSw; (go_simp; with_reducible rfl))
      simp only [Act.put, List.getElem_toArray, List.getElem_cons_zero, List.getElem_cons_succ, List.setIfInBounds_toArray, List.set_cons_zero, List.set_cons_succ]
      refine J_takeO 6 (v := ?vr6) rfl (by kernel_rfl) (by kernel_rfl) (by kernel_rfl) (by kernel_rfl) (fun _ _ _ h => h) (Or.inl ⟨by rfl, ?yr6⟩) I0 ?rr6
      case yr6 => (intro w hSw; obtain ⟨_, _, _, _, _, _, _, _⟩ := hSw; (go_simp; with_reducible rfl))
      simp only [Act.put, List.getElem_toArray, List.getElem_cons_zero, List.getElem_cons_succ, List.setIfInBounds_toArray, List.set_cons_zero, List.set_cons_succ]
      refine J_takeO 7 (v := ?vr7) rfl (by kernel_rfl) (by kernel_rfl) (by kernel_rfl) (by kernel_rfl) (fun _ _ _ h => h) (Or.inl ⟨by rfl, ?yr7⟩) I0 ?rr7
      case yr7 => (intro w hSw; obtain ⟨_, _, _, _, _, _, _, _⟩ := hSw; (go_simp; with_reducible rfl))
      simp only [Act.put, List.getElem_toArray, List.getElem_cons_zero, List.getElem_cons_succ, List.setIfInBounds_toArray, List.set_cons_zero, List.set_cons_succ]
      refine J_takeO 8 (v := ?vr8) rfl (by kernel_rfl) (by kernel_rfl) (by kernel_rfl) (by kernel_rfl) (fun _ _ _ h => h) (Or.inl ⟨by rfl, ?yr8⟩) I0 ?rr8
      case yr8 => (intro w hSw; obtain ⟨_, _, _, _, _, _, _, _⟩ := hSw; (go_simp; with_reducible rfl))
      simp only [Act.put, List.getElem_toArray, List.getElem_cons_zero, List.getElem_cons_succ, List.setIfInBounds_toArray, List.set_cons_zero, List.set_cons_succ]
      refine J_takeO 9 (v := ?vr9) rfl (by kernel_rfl) (by kernel_rfl) (by kernel_rfl) (by kernel_rfl) (fun _ _ _ h => h) (Or.inl ⟨by rfl, ?yr9⟩) I0 ?rr9
      case yr9 => (intro w hSw; obtain ⟨_, _, _, _, _, _, _, _⟩ := hSw; (go_simp; with_reducible rfl))
      simp only [Act.put, List.getElem_toArray, List.getElem_cons_zero, List.getElem_cons_succ, List.setIfInBounds_toArray, List.set_cons_zero, List.set_cons_succ]
      clear I0
      refine J_two 10 11 rfl rfl (by kernel_rfl) (fun K hK => ?_) (fun K hK => ?_)
      ·
        go_simp
        have x1 := (Ext.refl w9).alloc_right (.cells #[.slice none 0 0, .slice none 0 0, .slice none 0 0] 69)
        refine hK _ _ ⟨fun _ => hS.out _ x1, ?_⟩
        clear hK K
        try simp only [Act.put, List.getElem_toArray, List.getElem_cons_zero, List.getElem_cons_succ, List.setIfInBounds_toArray, List.set_cons_zero, List.set_cons_succ]
        refine J_one 11 rfl (by kernel_rfl) (fun K hK => ?_)
        go_simp
        have x2 := hid (x1.trans ((Ext.refl (w9.alloc (.cells #[.slice none 0 0, .slice none 0 0, .slice none 0 0] 69))).alloc_right (.cells #[.slice none 0 0, .slice none 0 0, .slice none 0 0] 69)))
        refine hK _ _ ⟨fun _ => hS.out _ x2.out, ?_⟩
        clear hK K x1
        try simp only [Act.put, List.getElem_toArray, List.getElem_cons_zero, List.getElem_cons_succ, List.setIfInBounds_toArray, List.set_cons_zero, List.set_cons_succ]
        have hn1 := heap_alloc_new w9 (.cells #[.slice none 0 0, .slice none 0 0, .slice none 0 0] 69)
        have hn2 := heap_alloc_new (w9.alloc (.cells #[.slice none 0 0, .slice none 0 0, .slice none 0 0] 69)) (.cells #[.slice none 0 0, .slice none 0 0, .slice none 0 0] 69)
        replace hn1 := (((Ext.refl (w9.alloc (.cells #[.slice none 0 0, .slice none 0 0, .slice none 0 0] 69))).alloc_right (.cells #[.slice none 0 0, .slice none 0 0, .slice none 0 0] 69)).block (Array.getElem?_eq_some_iff.1 hn1).1).trans hn1
        rw [World.size_alloc] at hn2
        try simp only [World.size_alloc]
        obtain ⟨pa, hpa⟩ : ∃ pa, pa = w9.heap.size := ⟨_, rfl⟩
        obtain ⟨pb, hpb⟩ : ∃ pb, pb = w9.heap.size + 1 := ⟨_, rfl⟩
        rw [← hpa] at hn1
        rw [← hpb] at hn2
        simp only [← hpb]
        try simp only [← hpa]
        generalize (w9.alloc (.cells #[.slice none 0 0, .slice none 0 0, .slice none 0 0] 69)).alloc (.cells #[.slice none 0 0, .slice none 0 0, .slice none 0 0] 69) = wA at *
        have hab : pa ≠ pb := by omega
        have hga : w9.heap.size ≤ pa ∧ w9.heap.size ≤ pb := by omega
        have hA : wA.heap[pa]? = some (.cells #[.slice none 0 0, .slice none 0 0, .slice none 0 0] 69 (0, 0)) := by assumption
        have hB : wA.heap[pb]? = some (.cells #[.slice none 0 0, .slice none 0 0, .slice none 0 0] 69 (0, 0)) := by assumption
        clear hn1 hn2 hpa hpb
        obtain ⟨wB, hwB⟩ : ∃ wB, wB = ((wA.setCell ⟨pa, 0, none⟩ (.slice A1 m1 c1)).setCell ⟨pa, 1, none⟩ (.slice A2 m2 c2)).setCell ⟨pa, 2, none⟩ (.slice A3 m3 c3) := ⟨_, rfl⟩
        have hA2 := put3 hA (.slice A1 m1 c1) (.slice A2 m2 c2) (.slice A3 m3 c3)
        have hB2 : wB.heap[pb]? = some (.cells #[.slice none 0 0, .slice none 0 0, .slice none 0 0] 69 (0, 0)) := by
          rw [hwB]
          exact put3_far hab.symm hB _ _ _
        have x3 : Ext w9 wB := by
          rw [hwB]
          exact ((x2.out.set (p := ⟨pa, 0, none⟩) hga.1 _).set (p := ⟨pa, 1, none⟩) hga.1 _).set (p := ⟨pa, 2, none⟩) hga.1 _
        rw [← hwB] at hA2
        have fq0 := Lib.frozen_of_heap hA 0
        have fq1 := Lib.frozen_of_heap hA 1
        have fq2 := Lib.frozen_of_heap hA 2
        have lq := (Array.getElem?_eq_some_iff.1 hA).1
        obtain ⟨g0, g1', g2'⟩ := nd3_c hA
        replace hwB := hid hwB
        replace hA2 := hid hA2
        replace hB2 := hid hB2
        replace x3 := hid x3
        clear x2 hA hB
        refine J_one 12 rfl (by kernel_rfl) (fun K hK => ?_)
        go_simp
        rw [← hwB.out]
        refine hK _ _ ⟨fun _ => hS.out _ x3.out, ?_⟩
        clear hK K
        try simp only [Act.put, List.getElem_toArray, List.getElem_cons_zero, List.getElem_cons_succ, List.setIfInBounds_toArray, List.set_cons_zero, List.set_cons_succ]
        clear hwB fq0 fq1 fq2 lq g0 g1' g2'
        clear wA
        have fq0 := Lib.frozen_of_heap hB2.out 0
        have fq1 := Lib.frozen_of_heap hB2.out 1
        have fq2 := Lib.frozen_of_heap hB2.out 2
        have lq := (Array.getElem?_eq_some_iff.1 hB2.out).1
        obtain ⟨g0, g1', g2'⟩ := nd3_c hB2.out
        obtain ⟨wC, hwC⟩ : ∃ wC, wC = ((wB.setCell ⟨pb, 0, none⟩ (.slice D1 m1 e1)).setCell ⟨pb, 1, none⟩ (.slice D2 m2 e2)).setCell ⟨pb, 2, none⟩ (.slice D3 m3 e3) := ⟨_, rfl⟩
        have hA3 : wC.heap[pa]? = some (.cells #[.slice A1 m1 c1, .slice A2 m2 c2, .slice A3 m3 c3] 69 (0, 0)) := by
          rw [hwC]
          exact put3_far hab hA2.out _ _ _
        have hB3 := put3 hB2.out (.slice D1 m1 e1) (.slice D2 m2 e2) (.slice D3 m3 e3)
        rw [← hwC] at hB3
        have x4 : Ext w9 wC := by
          rw [hwC]
          exact ((x3.out.set (p := ⟨pb, 0, none⟩) hga.2 _).set (p := ⟨pb, 1, none⟩) hga.2 _).set (p := ⟨pb, 2, none⟩) hga.2 _
        replace hwC := hid hwC
        replace x4 := hid x4
        have hcl : Hid (∀ w', Ext wC w' → w'.cell? ⟨pa, 0, none⟩ = some (.slice A1 m1 c1) ∧ w'.cell? ⟨pa, 1, none⟩ = some (.slice A2 m2 c2) ∧ w'.cell? ⟨pa, 2, none⟩ = some (.slice A3 m3 c3) ∧ w'.cell? ⟨pb, 0, none⟩ = some (.slice D1 m1 e1) ∧ w'.cell? ⟨pb, 1, none⟩ = some (.slice D2 m2 e2) ∧ w'.cell? ⟨pb, 2, none⟩ = some (.slice D3 m3 e3) ∧ pa < w'.heap.size ∧ pb < w'.heap.size) := fun w' hx => by
          obtain ⟨a0, a1, a2⟩ := nd3_c hA3
          obtain ⟨b0', b1', b2'⟩ := nd3_c hB3
          exact ⟨hx.cell a0, hx.cell a1, hx.cell a2, hx.cell b0', hx.cell b1', hx.cell b2', Nat.lt_of_lt_of_le (Array.getElem?_eq_some_iff.1 hA3).1 hx.size, Nat.lt_of_lt_of_le (Array.getElem?_eq_some_iff.1 hB3).1 hx.size⟩
        clear hA2 hB2 hA3 hB3
        refine J_one 13 rfl (by kernel_rfl) (fun K hK => ?_)
        go_simp
        rw [← hwC.out]
        refine hK _ _ ⟨fun _ => hS.out _ x4.out, ?_⟩
        clear hK K
        try simp only [Act.put, List.getElem_toArray, List.getElem_cons_zero, List.getElem_cons_succ, List.setIfInBounds_toArray, List.set_cons_zero, List.set_cons_succ]
        refine J_done (by kernel_rfl) (OnlyOn.normal ?_)
        clear hwC fq0 fq1 fq2 lq g0 g1' g2' x3 hS hab hga
        clear wB
        have hxC := hid (hx9.out.trans x4.out)
        clear x4 hx9
        obtain ⟨z0, z1, z2, y0, y1, y2, la, lb⟩ := hcl.out _ (Ext.refl _)
        go_wp2_with fail
        go_loopw [8] (fun i wr => ∃ q : Nat, q ≤ m1 ∧ i = .int .i64 q ∧ Hid (Ext wC wr)) (fun i _ => m1 - (intOf i).toNat)
        case atStart => exact ⟨0, by omega, rfl, Ext.refl _⟩
        case round =>
          obtain ⟨q, hq, rfl, hx⟩ := hrel
          obtain ⟨z0, z1, z2, y0, y1, y2, la, lb⟩ := hcl.out _ hx.out
          by_cases hqt : q < m1
          · replace hx := hx.out
            obtain ⟨kad, rfl, zk⟩ := rds_at (r1.out.ext (hx1.out.trans (hxC.out.trans hx))) (k := q) (by rw [hm1.out]; exact hqt)
            obtain ⟨kbd, rfl, zl⟩ := rds_at (g1.out.ext (hx1.out.trans (hxC.out.trans hx))) (k := q) (by rw [hm1.out]; exact hqt)
            have hqi : (q : Int) < (m1 : Int) := by omega
            generalize sth (xth xs k).keys q = s9 at *
            go_upto_region 12 with fail
            have I0 : (fun w' : World => w'.cell? ⟨pa, 0, none⟩ = some (.slice (some kad) m1 c1) ∧ w'.cell? ⟨pb, 0, none⟩ = some (.slice (some kbd) m1 e1) ∧ w'.cell? (kad.add q) = some (.string s9) ∧ w'.cell? (kbd.add q) = some (.string s9)) wr.drew := ⟨z0, y0, zk, zl⟩
            refine region_J (fun w' : World => w'.cell? ⟨pa, 0, none⟩ = some (.slice (some kad) m1 c1) ∧ w'.cell? ⟨pb, 0, none⟩ = some (.slice (some kbd) m1 e1) ∧ w'.cell? (kad.add q) = some (.string s9) ∧ w'.cell? (kbd.add q) = some (.string s9)) 11 (by kernel_rfl) ?_
            replace hx := hid hx.drew_right
            clear z0 z1 z2 y0 y1 y2 zk zl la lb
            generalize wr.drew = w9 at *
            refine J_takeO 0 (v := ?vta0) rfl (by kernel_rfl) (by kernel_rfl) (by kernel_rfl) (by kernel_rfl) (fun _ _ _ h => h) (Or.inl ⟨by rfl, ?yta0⟩) I0 ?rta0
            case yta0 => (intro w hSw; obtain ⟨_, _, _, _⟩ := hSw; (go_simp; with_reducible rfl))
            simp only [Act.put, List.getElem_toArray, List.getElem_cons_zero, List.getElem_cons_succ, List.setIfInBounds_toArray, List.set_cons_zero, List.set_cons_succ]
            refine J_takeO 1 (v := ?vta1) rfl (by kernel_rfl) (by kernel_rfl) (by kernel_rfl) (by kernel_rfl) (fun _ _ _ h => h) (Or.inl ⟨by rfl, ?yta1⟩) I0 ?rta1
            case yta1 => (intro w hSw; obtain ⟨_, _, _, _⟩ := hSw; (go_simp; with_reducible rfl))
            simp only [Act.put, List.getElem_toArray, List.getElem_cons_zero, List.getElem_cons_succ, List.setIfInBounds_toArray, List.set_cons_zero, List.set_cons_succ]
            refine J_takeO 2 (v := ?vta2) rfl (by kernel_rfl) (by kernel_rfl) (by kernel_rfl) (by kernel_rfl) (fun _ _ _ h => h) (Or.inl ⟨by rfl, ?yta2⟩) I0 ?rta2
            case yta2 => (intro w hSw; obtain ⟨_, _, _, _⟩ := hSw; (go_simp; with_reducible rfl))
            simp only [Act.put, List.getElem_toArray, List.getElem_cons_zero, List.getElem_cons_succ, List.setIfInBounds_toArray, List.set_cons_zero, List.set_cons_succ]
            refine J_takeO 3 (v := ?vta3) rfl (by kernel_rfl) (by kernel_rfl) (by kernel_rfl) (by kernel_rfl) (fun _ _ _ h => h) (Or.inl ⟨by rfl, ?yta3⟩) I0 ?rta3
            case yta3 => (intro w hSw; obtain ⟨_, _, _, _⟩ := hSw; (go_simp; with_reducible rfl))
            simp only [Act.put, List.getElem_toArray, List.getElem_cons_zero, List.getElem_cons_succ, List.setIfInBounds_toArray, List.set_cons_zero, List.set_cons_succ]
            refine J_takeO 4 (v := ?vta4) rfl (by kernel_rfl) (by kernel_rfl) (by kernel_rfl) (by kernel_rfl) (fun _ _ _ h => h) (Or.inl ⟨by rfl, ?yta4⟩) I0 ?rta4
            case yta4 => (intro w hSw; obtain ⟨_, _, _, _⟩ := hSw; (go_simp; with_reducible rfl))
            simp only [Act.put, List.getElem_toArray, List.getElem_cons_zero, List.getElem_cons_succ, List.setIfInBounds_toArray, List.set_cons_zero, List.set_cons_succ]
            refine J_takeO 5 (v := ?vta5) rfl (by kernel_rfl) (by kernel_rfl) (by kernel_rfl) (by kernel_rfl) (fun _ _ _ h => h) (Or.inl ⟨by rfl, ?yta5⟩) I0 ?rta5
            case yta5 => (intro w hSw; obtain ⟨_, _, _, _⟩ := hSw; (go_simp; with_reducible rfl))
            simp only [Act.put, List.getElem_toArray, List.getElem_cons_zero, List.getElem_cons_succ, List.setIfInBounds_toArray, List.set_cons_zero, List.set_cons_succ]
            refine J_takeO 6 (v := ?vta6) rfl (by kernel_rfl) (by kernel_rfl) (by kernel_rfl) (by kernel_rfl) (fun _ _ _ h => h) (Or.inl ⟨by rfl, ?yta6⟩) I0 ?rta6
            case yta6 => (intro w hSw; obtain ⟨_, _, _, _⟩ := hSw; (go_simp; with_reducible rfl))
            simp only [Act.put, List.getElem_toArray, List.getElem_cons_zero, List.getElem_cons_succ, List.setIfInBounds_toArray, List.set_cons_zero, List.set_cons_succ]
            refine J_takeO 7 (v := ?vta7) rfl (by kernel_rfl) (by kernel_rfl) (by kernel_rfl) (by kernel_rfl) (fun _ _ _ h => h) (Or.inl ⟨by rfl, ?yta7⟩) I0 ?rta7
            case yta7 => (intro w hSw; obtain ⟨_, _, _, _⟩ := hSw; (go_simp; with_reducible rfl))
            simp only [Act.put, List.getElem_toArray, List.getElem_cons_zero, List.getElem_cons_succ, List.setIfInBounds_toArray, List.set_cons_zero, List.set_cons_succ]
            refine J_takeO 8 (v := ?vta8) rfl (by kernel_rfl) (by kernel_rfl) (by kernel_rfl) (by kernel_rfl) (fun _ _ _ h => h) (Or.inl ⟨by rfl, ?yta8⟩) I0 ?rta8
            case yta8 => (intro w hSw; obtain ⟨_, _, _, _⟩ := hSw; (go_simp; with_reducible rfl))
            simp only [Act.put, List.getElem_toArray, List.getElem_cons_zero, List.getElem_cons_succ, List.setIfInBounds_toArray, List.set_cons_zero, List.set_cons_succ]
            refine J_takeO 9 (v := ?vta9) rfl (by kernel_rfl) (by kernel_rfl) (by kernel_rfl) (by kernel_rfl) (fun _ _ _ h => h) (Or.inl ⟨by rfl, ?yta9⟩) I0 ?rta9
            case yta9 => (intro w hSw; obtain ⟨_, _, _, _⟩ := hSw; (go_simp; with_reducible rfl))
            simp only [Act.put, List.getElem_toArray, List.getElem_cons_zero, List.getElem_cons_succ, List.setIfInBounds_toArray, List.set_cons_zero, List.set_cons_succ]
            refine J_one 10 rfl (by kernel_rfl) (fun K hK => ?_)
            go_simp
            refine hK _ _ ⟨fun _ => I0, ?_⟩
            clear hK K
            try simp only [Act.put, List.setIfInBounds_toArray, List.set_cons_zero, List.set_cons_succ]
            refine J_done (by kernel_rfl) (OnlyOn.normal ?_)
            go_wp2_with fail
            go_roundw
            case rel => exact ⟨q + 1, by omega, by go_num, hx⟩
            case measure => simp [intOf]; omega
          · obtain rfl : q = m1 := by omega
            have hxe := hx
            clear hx
            go_wp2_with fail
            go_loopw [9] (fun i wr => ∃ q : Nat, q ≤ m2 ∧ i = .int .i64 q ∧ Hid (Ext wC wr)) (fun i _ => m2 - (intOf i).toNat)
            case atStart => exact ⟨0, by omega, rfl, hxe⟩
            case round =>
              obtain ⟨q, hq, rfl, hx⟩ := hrel
              obtain ⟨z0, z1, z2, y0, y1, y2, la, lb⟩ := hcl.out _ hx.out
              by_cases hqt : q < m2
              · replace hx := hx.out
                obtain ⟨kad, rfl, zk⟩ := RdI.at_ (r2.out.ext (hx1.out.trans (hxC.out.trans hx))) (k := q) (by rw [hm2.out]; exact hqt)
                obtain ⟨kbd, rfl, zl⟩ := RdI.at_ (g2.out.ext (hx1.out.trans (hxC.out.trans hx))) (k := q) (by rw [hm2.out]; exact hqt)
                have hqi : (q : Int) < (m2 : Int) := by omega
                generalize nth (xth xs k).recs q = s9 at *
                go_upto_region 17 with fail
                have I0 : (fun w' : World => w'.cell? ⟨pa, 1, none⟩ = some (.slice (some kad) m2 c2) ∧ w'.cell? ⟨pb, 1, none⟩ = some (.slice (some kbd) m2 e2) ∧ w'.cell? (kad.add q) = some (.int .i64 s9) ∧ w'.cell? (kbd.add q) = some (.int .i64 s9)) wr.drew := ⟨z1, y1, zk, zl⟩
                refine region_J (fun w' : World => w'.cell? ⟨pa, 1, none⟩ = some (.slice (some kad) m2 c2) ∧ w'.cell? ⟨pb, 1, none⟩ = some (.slice (some kbd) m2 e2) ∧ w'.cell? (kad.add q) = some (.int .i64 s9) ∧ w'.cell? (kbd.add q) = some (.int .i64 s9)) 11 (by kernel_rfl) ?_
                replace hx := hid hx.drew_right
                clear z0 z1 z2 y0 y1 y2 zk zl la lb
                generalize wr.drew = w9 at *
                refine J_takeO 0 (v := ?vua0) rfl (by kernel_rfl) (by kernel_rfl) (by kernel_rfl) (by kernel_rfl) (fun _ _ _ h => h) (Or.inl ⟨by rfl, ?yua0⟩) I0 ?rua0
                case yua0 => (intro w hSw; obtain ⟨_, _, _, _⟩ := hSw; (go_simp; with_reducible rfl))
                simp only [Act.put, List.getElem_toArray, List.getElem_cons_zero, List.getElem_cons_succ, List.setIfInBounds_toArray, List.set_cons_zero, List.set_cons_succ]
                refine J_takeO 1 (v := ?vua1) rfl (by kernel_rfl) (by kernel_rfl) (by kernel_rfl) (by kernel_rfl) (fun _ _ _ h => h) (Or.inl ⟨by rfl, ?yua1⟩) I0 ?rua1
                case yua1 => (intro w hSw; obtain ⟨_, _, _, _⟩ := hSw; (go_simp; with_reducible rfl))
                simp only [Act.put, List.getElem_toArray, List.getElem_cons_zero, List.getElem_cons_succ, List.setIfInBounds_toArray, List.set_cons_zero, List.set_cons_succ]
                refine J_takeO 2 (v := ?vua2) rfl (by kernel_rfl) (by kernel_rfl) (by kernel_rfl) (by kernel_rfl) (fun _ _ _ h => h) (Or.inl ⟨by rfl, ?yua2⟩) I0 ?rua2
                case yua2 => (intro w hSw; obtain ⟨_, _, _, _⟩ := hSw; (go_simp; with_reducible rfl))
                simp only [Act.put, List.getElem_toArray, List.getElem_cons_zero, List.getElem_cons_succ, List.setIfInBounds_toArray, List.set_cons_zero, List.set_cons_succ]
                refine J_takeO 3 (v := ?vua3) rfl (by kernel_rfl) (by kernel_rfl) (by kernel_rfl) (by kernel_rfl) (fun _ _ _ h => h) (Or.inl ⟨by rfl, ?yua3⟩) I0 ?rua3
                case yua3 => (intro w hSw; obtain ⟨_, _, _, _⟩ := hSw; (go_simp; with_reducible rfl))
                simp only [Act.put, List.getElem_toArray, List.getElem_cons_zero, List.getElem_cons_succ, List.setIfInBounds_toArray, List.set_cons_zero, List.set_cons_succ]
                refine J_takeO 4 (v := ?vua4) rfl (by kernel_rfl) (by kernel_rfl) (by kernel_rfl) (by kernel_rfl) (fun _ _ _ h => h) (Or.inl ⟨by rfl, ?yua4⟩) I0 ?rua4
                case yua4 => (intro w hSw; obtain ⟨_, _, _, _⟩ := hSw; (go_simp; with_reducible rfl))
                simp only [Act.put, List.getElem_toArray, List.getElem_cons_zero, List.getElem_cons_succ, List.setIfInBounds_toArray, List.set_cons_zero, List.set_cons_succ]
                refine J_takeO 5 (v := ?vua5) rfl (by kernel_rfl) (by kernel_rfl) (by kernel_rfl) (by kernel_rfl) (fun _ _ _ h => h) (Or.inl ⟨by rfl, ?yua5⟩) I0 ?rua5
                case yua5 => (intro w hSw; obtain ⟨_, _, _, _⟩ := hSw; (go_simp; with_reducible rfl))
                simp only [Act.put, List.getElem_toArray, List.getElem_cons_zero, List.getElem_cons_succ, List.setIfInBounds_toArray, List.set_cons_zero, List.set_cons_succ]
                refine J_takeO 6 (v := ?vua6) rfl (by kernel_rfl) (by kernel_rfl) (by kernel_rfl) (by kernel_rfl) (fun _ _ _ h => h) (Or.inl ⟨by rfl, ?yua6⟩) I0 ?rua6
                case yua6 => (intro w hSw; obtain ⟨_, _, _, _⟩ := hSw; (go_simp; with_reducible rfl))
                simp only [Act.put, List.getElem_toArray, List.getElem_cons_zero, List.getElem_cons_succ, List.setIfInBounds_toArray, List.set_cons_zero, List.set_cons_succ]
                refine J_takeO 7 (v := ?vua7) rfl (by kernel_rfl) (by kernel_rfl) (by kernel_rfl) (by kernel_rfl) (fun _ _ _ h => h) (Or.inl ⟨by rfl, ?yua7⟩) I0 ?rua7
                case yua7 => (intro w hSw; obtain ⟨_, _, _, _⟩ := hSw; (go_simp; with_reducible rfl))
                simp only [Act.put, List.getElem_toArray, List.getElem_cons_zero, List.getElem_cons_succ, List.setIfInBounds_toArray, List.set_cons_zero, List.set_cons_succ]
                refine J_takeO 8 (v := ?vua8) rfl (by kernel_rfl) (by kernel_rfl) (by kernel_rfl) (by kernel_rfl) (fun _ _ _ h => h) (Or.inl ⟨by rfl, ?yua8⟩) I0 ?rua8
                case yua8 => (intro w hSw; obtain ⟨_, _, _, _⟩ := hSw; (go_simp; with_reducible rfl))
                simp only [Act.put, List.getElem_toArray, List.getElem_cons_zero, List.getElem_cons_succ, List.setIfInBounds_toArray, List.set_cons_zero, List.set_cons_succ]
                refine J_takeO 9 (v := ?vua9) rfl (by kernel_rfl) (by kernel_rfl) (by kernel_rfl) (by kernel_rfl) (fun _ _ _ h => h) (Or.inl ⟨by rfl, ?yua9⟩) I0 ?rua9
                case yua9 => (intro w hSw; obtain ⟨_, _, _, _⟩ := hSw; (go_simp; with_reducible rfl))
                simp only [Act.put, List.getElem_toArray, List.getElem_cons_zero, List.getElem_cons_succ, List.setIfInBounds_toArray, List.set_cons_zero, List.set_cons_succ]
                refine J_one 10 rfl (by kernel_rfl) (fun K hK => ?_)
                go_simp
                refine hK _ _ ⟨fun _ => I0, ?_⟩
                clear hK K
                try simp only [Act.put, List.setIfInBounds_toArray, List.set_cons_zero, List.set_cons_succ]
                refine J_done (by kernel_rfl) (OnlyOn.normal ?_)
                go_wp2_with fail
                go_roundw
                case rel => exact ⟨q + 1, by omega, by go_num, hx⟩
                case measure => simp [intOf]; omega
              · obtain rfl : q = m2 := by omega
                have hxe := hx
                clear hx
                go_wp2_with fail
                go_loopw [10] (fun i wr => ∃ q : Nat, q ≤ m3 ∧ i = .int .i64 q ∧ Hid (Ext wC wr)) (fun i _ => m3 - (intOf i).toNat)
                case atStart => exact ⟨0, by omega, rfl, hxe⟩
                case round =>
                  obtain ⟨q, hq, rfl, hx⟩ := hrel
                  obtain ⟨z0, z1, z2, y0, y1, y2, la, lb⟩ := hcl.out _ hx.out
                  by_cases hqt : q < m3
                  · replace hx := hx.out
                    obtain ⟨kad, rfl, zk⟩ := RdI.at_ (r3.out.ext (hx1.out.trans (hxC.out.trans hx))) (k := q) (by rw [hm3.out]; exact hqt)
                    obtain ⟨kbd, rfl, zl⟩ := RdI.at_ (g3.out.ext (hx1.out.trans (hxC.out.trans hx))) (k := q) (by rw [hm3.out]; exact hqt)
                    have hqi : (q : Int) < (m3 : Int) := by omega
                    generalize nth (xth xs k).kids q = s9 at *
                    go_upto_region 22 with fail
                    have I0 : (fun w' : World => w'.cell? ⟨pa, 2, none⟩ = some (.slice (some kad) m3 c3) ∧ w'.cell? ⟨pb, 2, none⟩ = some (.slice (some kbd) m3 e3) ∧ w'.cell? (kad.add q) = some (.int .i64 s9) ∧ w'.cell? (kbd.add q) = some (.int .i64 s9)) wr.drew := ⟨z2, y2, zk, zl⟩
                    refine region_J (fun w' : World => w'.cell? ⟨pa, 2, none⟩ = some (.slice (some kad) m3 c3) ∧ w'.cell? ⟨pb, 2, none⟩ = some (.slice (some kbd) m3 e3) ∧ w'.cell? (kad.add q) = some (.int .i64 s9) ∧ w'.cell? (kbd.add q) = some (.int .i64 s9)) 11 (by kernel_rfl) ?_
                    replace hx := hid hx.drew_right
                    clear z0 z1 z2 y0 y1 y2 zk zl la lb
                    generalize wr.drew = w9 at *
                    refine J_takeO 0 (v := ?vva0) rfl (by kernel_rfl) (by kernel_rfl) (by kernel_rfl) (by kernel_rfl) (fun _ _ _ h => h) (Or.inl ⟨by rfl, ?yva0⟩) I0 ?rva0
                    case yva0 => (intro w hSw; obtain ⟨_, _, _, _⟩ := hSw; (go_simp; with_reducible rfl))
                    simp only [Act.put, List.getElem_toArray, List.getElem_cons_zero, List.getElem_cons_succ, List.setIfInBounds_toArray, List.set_cons_zero, List.set_cons_succ]
                    refine J_takeO 1 (v := ?vva1) rfl (by kernel_rfl) (by kernel_rfl) (by kernel_rfl) (by kernel_rfl) (fun _ _ _ h => h) (Or.inl ⟨by rfl, ?yva1⟩) I0 ?rva1
                    case yva1 => (intro w hSw; obtain ⟨_, _, _, _⟩ := hSw; (go_simp; with_reducible rfl))
                    simp only [Act.put, List.getElem_toArray, List.getElem_cons_zero, List.getElem_cons_succ, List.setIfInBounds_toArray, List.set_cons_zero, List.set_cons_succ]
                    refine J_takeO 2 (v := ?vva2) rfl (by kernel_rfl) (by kernel_rfl) (by kernel_rfl) (by kernel_rfl) (fun _ _ _ h => h) (Or.inl ⟨by rfl, ?yva2⟩) I0 ?rva2
                    case yva2 => (intro w hSw; obtain ⟨_, _, _, _⟩ := hSw; (go_simp; with_reducible rfl))
                    simp only [Act.put, List.getElem_toArray, List.getElem_cons_zero, List.getElem_cons_succ, List.setIfInBounds_toArray, List.set_cons_zero, List.set_cons_succ]
                    refine J_takeO 3 (v := ?vva3) rfl (by kernel_rfl) (by kernel_rfl) (by kernel_rfl) (by kernel_rfl) (fun _ _ _ h => h) (Or.inl ⟨by rfl, ?yva3⟩) I0 ?rva3
                    case yva3 => (intro w hSw; obtain ⟨_, _, _, _⟩ := hSw; (go_simp; with_reducible rfl))
                    simp only [Act.put, List.getElem_toArray, List.getElem_cons_zero, List.getElem_cons_succ, List.setIfInBounds_toArray, List.set_cons_zero, List.set_cons_succ]
                    refine J_takeO 4 (v := ?vva4) rfl (by kernel_rfl) (by kernel_rfl) (by kernel_rfl) (by kernel_rfl) (fun _ _ _ h => h) (Or.inl ⟨by rfl, ?yva4⟩) I0 ?rva4
                    case yva4 => (intro w hSw; obtain ⟨_, _, _, _⟩ := hSw; (go_simp; with_reducible rfl))
                    simp only [Act.put, List.getElem_toArray, List.getElem_cons_zero, List.getElem_cons_succ, List.setIfInBounds_toArray, List.set_cons_zero, List.set_cons_succ]
                    refine J_takeO 5 (v := ?vva5) rfl (by kernel_rfl) (by kernel_rfl) (by kernel_rfl) (by kernel_rfl) (fun _ _ _ h => h) (Or.inl ⟨by rfl, ?yva5⟩) I0 ?rva5
                    case yva5 => (intro w hSw; obtain ⟨_, _, _, _⟩ := hSw; (go_simp; with_reducible rfl))
                    simp only [Act.put, List.getElem_toArray, List.getElem_cons_zero, List.getElem_cons_succ, List.setIfInBounds_toArray, List.set_cons_zero, List.set_cons_succ]
                    refine J_takeO 6 (v := ?vva6) rfl (by kernel_rfl) (by kernel_rfl) (by kernel_rfl) (by kernel_rfl) (fun _ _ _ h => h) (Or.inl ⟨by rfl, ?yva6⟩) I0 ?rva6
                    case yva6 => (intro w hSw; obtain ⟨_, _, _, _⟩ := hSw; (go_simp; with_reducible rfl))
                    simp only [Act.put, List.getElem_toArray, List.getElem_cons_zero, List.getElem_cons_succ, List.setIfInBounds_toArray, List.set_cons_zero, List.set_cons_succ]
                    refine J_takeO 7 (v := ?vva7) rfl (by kernel_rfl) (by kernel_rfl) (by kernel_rfl) (by kernel_rfl) (fun _ _ _ h => h) (Or.inl ⟨by rfl, ?yva7⟩) I0 ?rva7
                    case yva7 => (intro w hSw; obtain ⟨_, _, _, _⟩ := hSw; (go_simp; with_reducible rfl))
                    simp only [Act.put, List.getElem_toArray, List.getElem_cons_zero, List.getElem_cons_succ, List.setIfInBounds_toArray, List.set_cons_zero, List.set_cons_succ]
                    refine J_takeO 8 (v := ?vva8) rfl (by kernel_rfl) (by kernel_rfl) (by kernel_rfl) (by kernel_rfl) (fun _ _ _ h => h) (Or.inl ⟨by rfl, ?yva8⟩) I0 ?rva8
                    case yva8 => (intro w hSw; obtain ⟨_, _, _, _⟩ := hSw; (go_simp; with_reducible rfl))
                    simp only [Act.put, List.getElem_toArray, List.getElem_cons_zero, List.getElem_cons_succ, List.setIfInBounds_toArray, List.set_cons_zero, List.set_cons_succ]
                    refine J_takeO 9 (v := ?vva9) rfl (by kernel_rfl) (by kernel_rfl) (by kernel_rfl) (by kernel_rfl) (fun _ _ _ h => h) (Or.inl ⟨by rfl, ?yva9⟩) I0 ?rva9
                    case yva9 => (intro w hSw; obtain ⟨_, _, _, _⟩ := hSw; (go_simp; with_reducible rfl))
                    simp only [Act.put, List.getElem_toArray, List.getElem_cons_zero, List.getElem_cons_succ, List.setIfInBounds_toArray, List.set_cons_zero, List.set_cons_succ]
                    refine J_one 10 rfl (by kernel_rfl) (fun K hK => ?_)
                    go_simp
                    refine hK _ _ ⟨fun _ => I0, ?_⟩
                    clear hK K
                    try simp only [Act.put, List.setIfInBounds_toArray, List.set_cons_zero, List.set_cons_succ]
                    refine J_done (by kernel_rfl) (OnlyOn.normal ?_)
                    go_wp2_with fail
                    go_roundw
                    case rel => exact ⟨q + 1, by omega, by go_num, hx⟩
                    case measure => simp [intOf]; omega
                  · obtain rfl : q = m3 := by omega
                    have hxe := hx
                    clear hx
                    go_wp2_with fail
                    go_roundw
                    case rel => exact ⟨k + 1, by omega, by go_num, hid (hxC.out.trans hxe.out)⟩
                    case measure => simp [intOf]; omega
      ·
        go_simp
        have x1 := (Ext.refl w9).alloc_right (.cells #[.slice none 0 0, .slice none 0 0, .slice none 0 0] 69)
        refine hK _ _ ⟨fun _ => hS.out _ x1, ?_⟩
        clear hK K
        try simp only [Act.put, List.getElem_toArray, List.getElem_cons_zero, List.getElem_cons_succ, List.setIfInBounds_toArray, List.set_cons_zero, List.set_cons_succ]
        refine J_one 10 rfl (by kernel_rfl) (fun K hK => ?_)
        go_simp
        have x2 := hid (x1.trans ((Ext.refl (w9.alloc (.cells #[.slice none 0 0, .slice none 0 0, .slice none 0 0] 69))).alloc_right (.cells #[.slice none 0 0, .slice none 0 0, .slice none 0 0] 69)))
        refine hK _ _ ⟨fun _ => hS.out _ x2.out, ?_⟩
        clear hK K x1
        try simp only [Act.put, List.getElem_toArray, List.getElem_cons_zero, List.getElem_cons_succ, List.setIfInBounds_toArray, List.set_cons_zero, List.set_cons_succ]
        have hn1 := heap_alloc_new w9 (.cells #[.slice none 0 0, .slice none 0 0, .slice none 0 0] 69)
        have hn2 := heap_alloc_new (w9.alloc (.cells #[.slice none 0 0, .slice none 0 0, .slice none 0 0] 69)) (.cells #[.slice none 0 0, .slice none 0 0, .slice none 0 0] 69)
        replace hn1 := (((Ext.refl (w9.alloc (.cells #[.slice none 0 0, .slice none 0 0, .slice none 0 0] 69))).alloc_right (.cells #[.slice none 0 0, .slice none 0 0, .slice none 0 0] 69)).block (Array.getElem?_eq_some_iff.1 hn1).1).trans hn1
        rw [World.size_alloc] at hn2
        try simp only [World.size_alloc]
        obtain ⟨pa, hpa⟩ : ∃ pa, pa = w9.heap.size + 1 := ⟨_, rfl⟩
        obtain ⟨pb, hpb⟩ : ∃ pb, pb = w9.heap.size := ⟨_, rfl⟩
        rw [← hpb] at hn1
        rw [← hpa] at hn2
        simp only [← hpa]
        try simp only [← hpb]
        generalize (w9.alloc (.cells #[.slice none 0 0, .slice none 0 0, .slice none 0 0] 69)).alloc (.cells #[.slice none 0 0, .slice none 0 0, .slice none 0 0] 69) = wA at *
        have hab : pa ≠ pb := by omega
        have hga : w9.heap.size ≤ pa ∧ w9.heap.size ≤ pb := by omega
        have hA : wA.heap[pa]? = some (.cells #[.slice none 0 0, .slice none 0 0, .slice none 0 0] 69 (0, 0)) := by assumption
        have hB : wA.heap[pb]? = some (.cells #[.slice none 0 0, .slice none 0 0, .slice none 0 0] 69 (0, 0)) := by assumption
        clear hn1 hn2 hpa hpb
        obtain ⟨wB, hwB⟩ : ∃ wB, wB = ((wA.setCell ⟨pa, 0, none⟩ (.slice A1 m1 c1)).setCell ⟨pa, 1, none⟩ (.slice A2 m2 c2)).setCell ⟨pa, 2, none⟩ (.slice A3 m3 c3) := ⟨_, rfl⟩
        have hA2 := put3 hA (.slice A1 m1 c1) (.slice A2 m2 c2) (.slice A3 m3 c3)
        have hB2 : wB.heap[pb]? = some (.cells #[.slice none 0 0, .slice none 0 0, .slice none 0 0] 69 (0, 0)) := by
          rw [hwB]
          exact put3_far hab.symm hB _ _ _
        have x3 : Ext w9 wB := by
          rw [hwB]
          exact ((x2.out.set (p := ⟨pa, 0, none⟩) hga.1 _).set (p := ⟨pa, 1, none⟩) hga.1 _).set (p := ⟨pa, 2, none⟩) hga.1 _
        rw [← hwB] at hA2
        have fq0 := Lib.frozen_of_heap hA 0
        have fq1 := Lib.frozen_of_heap hA 1
        have fq2 := Lib.frozen_of_heap hA 2
        have lq := (Array.getElem?_eq_some_iff.1 hA).1
        obtain ⟨g0, g1', g2'⟩ := nd3_c hA
        replace hwB := hid hwB
        replace hA2 := hid hA2
        replace hB2 := hid hB2
        replace x3 := hid x3
        clear x2 hA hB
        refine J_one 12 rfl (by kernel_rfl) (fun K hK => ?_)
        go_simp
        rw [← hwB.out]
        refine hK _ _ ⟨fun _ => hS.out _ x3.out, ?_⟩
        clear hK K
        try simp only [Act.put, List.getElem_toArray, List.getElem_cons_zero, List.getElem_cons_succ, List.setIfInBounds_toArray, List.set_cons_zero, List.set_cons_succ]
        clear hwB fq0 fq1 fq2 lq g0 g1' g2'
        clear wA
        have fq0 := Lib.frozen_of_heap hB2.out 0
        have fq1 := Lib.frozen_of_heap hB2.out 1
        have fq2 := Lib.frozen_of_heap hB2.out 2
        have lq := (Array.getElem?_eq_some_iff.1 hB2.out).1
        obtain ⟨g0, g1', g2'⟩ := nd3_c hB2.out
        obtain ⟨wC, hwC⟩ : ∃ wC, wC = ((wB.setCell ⟨pb, 0, none⟩ (.slice D1 m1 e1)).setCell ⟨pb, 1, none⟩ (.slice D2 m2 e2)).setCell ⟨pb, 2, none⟩ (.slice D3 m3 e3) := ⟨_, rfl⟩
        have hA3 : wC.heap[pa]? = some (.cells #[.slice A1 m1 c1, .slice A2 m2 c2, .slice A3 m3 c3] 69 (0, 0)) := by
          rw [hwC]
          exact put3_far hab hA2.out _ _ _
        have hB3 := put3 hB2.out (.slice D1 m1 e1) (.slice D2 m2 e2) (.slice D3 m3 e3)
        rw [← hwC] at hB3
        have x4 : Ext w9 wC := by
          rw [hwC]
          exact ((x3.out.set (p := ⟨pb, 0, none⟩) hga.2 _).set (p := ⟨pb, 1, none⟩) hga.2 _).set (p := ⟨pb, 2, none⟩) hga.2 _
        replace hwC := hid hwC
        replace x4 := hid x4
        have hcl : Hid (∀ w', Ext wC w' → w'.cell? ⟨pa, 0, none⟩ = some (.slice A1 m1 c1) ∧ w'.cell? ⟨pa, 1, none⟩ = some (.slice A2 m2 c2) ∧ w'.cell? ⟨pa, 2, none⟩ = some (.slice A3 m3 c3) ∧ w'.cell? ⟨pb, 0, none⟩ = some (.slice D1 m1 e1) ∧ w'.cell? ⟨pb, 1, none⟩ = some (.slice D2 m2 e2) ∧ w'.cell? ⟨pb, 2, none⟩ = some (.slice D3 m3 e3) ∧ pa < w'.heap.size ∧ pb < w'.heap.size) := fun w' hx => by
          obtain ⟨a0, a1, a2⟩ := nd3_c hA3
          obtain ⟨b0', b1', b2'⟩ := nd3_c hB3
          exact ⟨hx.cell a0, hx.cell a1, hx.cell a2, hx.cell b0', hx.cell b1', hx.cell b2', Nat.lt_of_lt_of_le (Array.getElem?_eq_some_iff.1 hA3).1 hx.size, Nat.lt_of_lt_of_le (Array.getElem?_eq_some_iff.1 hB3).1 hx.size⟩
        clear hA2 hB2 hA3 hB3
        refine J_one 13 rfl (by kernel_rfl) (fun K hK => ?_)
        go_simp
        rw [← hwC.out]
        refine hK _ _ ⟨fun _ => hS.out _ x4.out, ?_⟩
        clear hK K
        try simp only [Act.put, List.getElem_toArray, List.getElem_cons_zero, List.getElem_cons_succ, List.setIfInBounds_toArray, List.set_cons_zero, List.set_cons_succ]
        refine J_done (by kernel_rfl) (OnlyOn.normal ?_)
        clear hwC fq0 fq1 fq2 lq g0 g1' g2' x3 hS hab hga
        clear wB
        have hxC := hid (hx9.out.trans x4.out)
        clear x4 hx9
        obtain ⟨z0, z1, z2, y0, y1, y2, la, lb⟩ := hcl.out _ (Ext.refl _)
        go_wp2_with fail
        go_loopw [8] (fun i wr => ∃ q : Nat, q ≤ m1 ∧ i = .int .i64 q ∧ Hid (Ext wC wr)) (fun i _ => m1 - (intOf i).toNat)
        case atStart => exact ⟨0, by omega, rfl, Ext.refl _⟩
        case round =>
          obtain ⟨q, hq, rfl, hx⟩ := hrel
          obtain ⟨z0, z1, z2, y0, y1, y2, la, lb⟩ := hcl.out _ hx.out
          by_cases hqt : q < m1
          · replace hx := hx.out
            obtain ⟨kad, rfl, zk⟩ := rds_at (r1.out.ext (hx1.out.trans (hxC.out.trans hx))) (k := q) (by rw [hm1.out]; exact hqt)
            obtain ⟨kbd, rfl, zl⟩ := rds_at (g1.out.ext (hx1.out.trans (hxC.out.trans hx))) (k := q) (by rw [hm1.out]; exact hqt)
            have hqi : (q : Int) < (m1 : Int) := by omega
            generalize sth (xth xs k).keys q = s9 at *
            go_upto_region 12 with fail
            have I0 : (fun w' : World => w'.cell? ⟨pa, 0, none⟩ = some (.slice (some kad) m1 c1) ∧ w'.cell? ⟨pb, 0, none⟩ = some (.slice (some kbd) m1 e1) ∧ w'.cell? (kad.add q) = some (.string s9) ∧ w'.cell? (kbd.add q) = some (.string s9)) wr.drew := ⟨z0, y0, zk, zl⟩
            refine region_J (fun w' : World => w'.cell? ⟨pa, 0, none⟩ = some (.slice (some kad) m1 c1) ∧ w'.cell? ⟨pb, 0, none⟩ = some (.slice (some kbd) m1 e1) ∧ w'.cell? (kad.add q) = some (.string s9) ∧ w'.cell? (kbd.add q) = some (.string s9)) 11 (by kernel_rfl) ?_
            replace hx := hid hx.drew_right
            clear z0 z1 z2 y0 y1 y2 zk zl la lb
            generalize wr.drew = w9 at *
            refine J_takeO 0 (v := ?vtb0) rfl (by kernel_rfl) (by kernel_rfl) (by kernel_rfl) (by kernel_rfl) (fun _ _ _ h => h) (Or.inl ⟨by rfl, ?ytb0⟩) I0 ?rtb0
            case ytb0 => (intro w hSw; obtain ⟨_, _, _, _⟩ := hSw; (go_simp; with_reducible rfl))
            simp only [Act.put, List.getElem_toArray, List.getElem_cons_zero, List.getElem_cons_succ, List.setIfInBounds_toArray, List.set_cons_zero, List.set_cons_succ]
            refine J_takeO 1 (v := ?vtb1) rfl (by kernel_rfl) (by kernel_rfl) (by kernel_rfl) (by kernel_rfl) (fun _ _ _ h => h) (Or.inl ⟨by rfl, ?ytb1⟩) I0 ?rtb1
            case ytb1 => (intro w hSw; obtain ⟨_, _, _, _⟩ := hSw; (go_simp; with_reducible rfl))
            simp only [Act.put, List.getElem_toArray, List.getElem_cons_zero, List.getElem_cons_succ, List.setIfInBounds_toArray, List.set_cons_zero, List.set_cons_succ]
            refine J_takeO 2 (v := ?vtb2) rfl (by kernel_rfl) (by kernel_rfl) (by kernel_rfl) (by kernel_rfl) (fun _ _ _ h => h) (Or.inl ⟨by rfl, ?ytb2⟩) I0 ?rtb2
            case ytb2 => (intro w hSw; obtain ⟨_, _, _, _⟩ := hSw; (go_simp; with_reducible rfl))
            simp only [Act.put, List.getElem_toArray, List.getElem_cons_zero, List.getElem_cons_succ, List.setIfInBounds_toArray, List.set_cons_zero, List.set_cons_succ]
            refine J_takeO 3 (v := ?vtb3) rfl (by kernel_rfl) (by kernel_rfl) (by kernel_rfl) (by kernel_rfl) (fun _ _ _ h => h) (Or.inl ⟨by rfl, ?ytb3⟩) I0 ?rtb3
            case ytb3 => (intro w hSw; obtain ⟨_, _, _, _⟩ := hSw; (go_simp; with_reducible rfl))
            simp only [Act.put, List.getElem_toArray, List.getElem_cons_zero, List.getElem_cons_succ, List.setIfInBounds_toArray, List.set_cons_zero, List.set_cons_succ]
            refine J_takeO 4 (v := ?vtb4) rfl (by kernel_rfl) (by kernel_rfl) (by kernel_rfl) (by kernel_rfl) (fun _ _ _ h => h) (Or.inl ⟨by rfl, ?ytb4⟩) I0 ?rtb4
            case ytb4 => (intro w hSw; obtain ⟨_, _, _, _⟩ := hSw; (go_simp; with_reducible rfl))
            simp only [Act.put, List.getElem_toArray, List.getElem_cons_zero, List.getElem_cons_succ, List.setIfInBounds_toArray, List.set_cons_zero, List.set_cons_succ]
            refine J_takeO 5 (v := ?vtb5) rfl (by kernel_rfl) (by kernel_rfl) (by kernel_rfl) (by kernel_rfl) (fun _ _ _ h => h) (Or.inl ⟨by rfl, ?ytb5⟩) I0 ?rtb5
            case ytb5 => (intro w hSw; obtain ⟨_, _, _, _⟩ := hSw; (go_simp; with_reducible rfl))
            simp only [Act.put, List.getElem_toArray, List.getElem_cons_zero, List.getElem_cons_succ, List.setIfInBounds_toArray, List.set_cons_zero, List.set_cons_succ]
            refine J_takeO 6 (v := ?vtb6) rfl (by kernel_rfl) (by kernel_rfl) (by kernel_rfl) (by kernel_rfl) (fun _ _ _ h => h) (Or.inl ⟨by rfl, ?ytb6⟩) I0 ?rtb6
            case ytb6 => (intro w hSw; obtain ⟨_, _, _, _⟩ := hSw; (go_simp; with_reducible rfl))
            simp only [Act.put, List.getElem_toArray, List.getElem_cons_zero, List.getElem_cons_succ, List.setIfInBounds_toArray, List.set_cons_zero, List.set_cons_succ]
            refine J_takeO 7 (v := ?vtb7) rfl (by kernel_rfl) (by kernel_rfl) (by kernel_rfl) (by kernel_rfl) (fun _ _ _ h => h) (Or.inl ⟨by rfl, ?ytb7⟩) I0 ?rtb7
            case ytb7 => (intro w hSw; obtain ⟨_, _, _, _⟩ := hSw; (go_simp; with_reducible rfl))
            simp only [Act.put, List.getElem_toArray, List.getElem_cons_zero, List.getElem_cons_succ, List.setIfInBounds_toArray, List.set_cons_zero, List.set_cons_succ]
            refine J_takeO 8 (v := ?vtb8) rfl (by kernel_rfl) (by kernel_rfl) (by kernel_rfl) (by kernel_rfl) (fun _ _ _ h => h) (Or.inl ⟨by rfl, ?ytb8⟩) I0 ?rtb8
            case ytb8 => (intro w hSw; obtain ⟨_, _, _, _⟩ := hSw; (go_simp; with_reducible rfl))
            simp only [Act.put, List.getElem_toArray, List.getElem_cons_zero, List.getElem_cons_succ, List.setIfInBounds_toArray, List.set_cons_zero, List.set_cons_succ]
            refine J_takeO 9 (v := ?vtb9) rfl (by kernel_rfl) (by kernel_rfl) (by kernel_rfl) (by kernel_rfl) (fun _ _ _ h => h) (Or.inl ⟨by rfl, ?ytb9⟩) I0 ?rtb9
            case ytb9 => (intro w hSw; obtain ⟨_, _, _, _⟩ := hSw; (go_simp; with_reducible rfl))
            simp only [Act.put, List.getElem_toArray, List.getElem_cons_zero, List.getElem_cons_succ, List.setIfInBounds_toArray, List.set_cons_zero, List.set_cons_succ]
            refine J_one 10 rfl (by kernel_rfl) (fun K hK => ?_)
            go_simp
            refine hK _ _ ⟨fun _ => I0, ?_⟩
            clear hK K
            try simp only [Act.put, List.setIfInBounds_toArray, List.set_cons_zero, List.set_cons_succ]
            refine J_done (by kernel_rfl) (OnlyOn.normal ?_)
            go_wp2_with fail
            go_roundw
            case rel => exact ⟨q + 1, by omega, by go_num, hx⟩
            case measure => simp [intOf]; omega
          · obtain rfl : q = m1 := by omega
            have hxe := hx
            clear hx
            go_wp2_with fail
            go_loopw [9] (fun i wr => ∃ q : Nat, q ≤ m2 ∧ i = .int .i64 q ∧ Hid (Ext wC wr)) (fun i _ => m2 - (intOf i).toNat)
            case atStart => exact ⟨0, by omega, rfl, hxe⟩
            case round =>
              obtain ⟨q, hq, rfl, hx⟩ := hrel
              obtain ⟨z0, z1, z2, y0, y1, y2, la, lb⟩ := hcl.out _ hx.out
              by_cases hqt : q < m2
              · replace hx := hx.out
                obtain ⟨kad, rfl, zk⟩ := RdI.at_ (r2.out.ext (hx1.out.trans (hxC.out.trans hx))) (k := q) (by rw [hm2.out]; exact hqt)
                obtain ⟨kbd, rfl, zl⟩ := RdI.at_ (g2.out.ext (hx1.out.trans (hxC.out.trans hx))) (k := q) (by rw [hm2.out]; exact hqt)
                have hqi : (q : Int) < (m2 : Int) := by omega
                generalize nth (xth xs k).recs q = s9 at *
                go_upto_region 17 with fail
                have I0 : (fun w' : World => w'.cell? ⟨pa, 1, none⟩ = some (.slice (some kad) m2 c2) ∧ w'.cell? ⟨pb, 1, none⟩ = some (.slice (some kbd) m2 e2) ∧ w'.cell? (kad.add q) = some (.int .i64 s9) ∧ w'.cell? (kbd.add q) = some (.int .i64 s9)) wr.drew := ⟨z1, y1, zk, zl⟩
                refine region_J (fun w' : World => w'.cell? ⟨pa, 1, none⟩ = some (.slice (some kad) m2 c2) ∧ w'.cell? ⟨pb, 1, none⟩ = some (.slice (some kbd) m2 e2) ∧ w'.cell? (kad.add q) = some (.int .i64 s9) ∧ w'.cell? (kbd.add q) = some (.int .i64 s9)) 11 (by kernel_rfl) ?_
                replace hx := hid hx.drew_right
                clear z0 z1 z2 y0 y1 y2 zk zl la lb
                generalize wr.drew = w9 at *
                refine J_takeO 0 (v := ?vub0) rfl (by kernel_rfl) (by kernel_rfl) (by kernel_rfl) (by kernel_rfl) (fun _ _ _ h => h) (Or.inl ⟨by rfl, ?yub0⟩) I0 ?rub0
                case yub0 => (intro w hSw; obtain ⟨_, _, _, _⟩ := hSw; (go_simp; with_reducible rfl))
                simp only [Act.put, List.getElem_toArray, List.getElem_cons_zero, List.getElem_cons_succ, List.setIfInBounds_toArray, List.set_cons_zero, List.set_cons_succ]
                refine J_takeO 1 (v := ?vub1) rfl (by kernel_rfl) (by kernel_rfl) (by kernel_rfl) (by kernel_rfl) (fun _ _ _ h => h) (Or.inl ⟨by rfl, ?yub1⟩) I0 ?rub1
                case yub1 => (intro w hSw; obtain ⟨_, _, _, _⟩ := hSw; (go_simp; with_reducible rfl))
                simp only [Act.put, List.getElem_toArray, List.getElem_cons_zero, List.getElem_cons_succ, List.setIfInBounds_toArray, List.set_cons_zero, List.set_cons_succ]
                refine J_takeO 2 (v := ?vub2) rfl (by kernel_rfl) (by kernel_rfl) (by kernel_rfl) (by kernel_rfl) (fun _ _ _ h => h) (Or.inl ⟨by rfl, ?yub2⟩) I0 ?rub2
                case yub2 => (intro w hSw; obtain ⟨_, _, _, _⟩ := hSw; (go_simp; with_reducible rfl))
                simp only [Act.put, List.getElem_toArray, List.getElem_cons_zero, List.getElem_cons_succ, List.setIfInBounds_toArray, List.set_cons_zero, List.set_cons_succ]
                refine J_takeO 3 (v := ?vub3) rfl (by kernel_rfl) (by kernel_rfl) (by kernel_rfl) (by kernel_rfl) (fun _ _ _ h => h) (Or.inl ⟨by rfl, ?yub3⟩) I0 ?rub3
                case yub3 => (intro w hSw; obtain ⟨_, _, _, _⟩ := hSw; (go_simp; with_reducible rfl))
                simp only [Act.put, List.getElem_toArray, List.getElem_cons_zero, List.getElem_cons_succ, List.setIfInBounds_toArray, List.set_cons_zero, List.set_cons_succ]
                refine J_takeO 4 (v := ?vub4) rfl (by kernel_rfl) (by kernel_rfl) (by kernel_rfl) (by kernel_rfl) (fun _ _ _ h => h) (Or.inl ⟨by rfl, ?yub4⟩) I0 ?rub4
                case yub4 => (intro w hSw; obtain ⟨_, _, _, _⟩ := hSw; (go_simp; with_reducible rfl))
                simp only [Act.put, List.getElem_toArray, List.getElem_cons_zero, List.getElem_cons_succ, List.setIfInBounds_toArray, List.set_cons_zero, List.set_cons_succ]
                refine J_takeO 5 (v := ?vub5) rfl (by kernel_rfl) (by kernel_rfl) (by kernel_rfl) (by kernel_rfl) (fun _ _ _ h => h) (Or.inl ⟨by rfl, ?yub5⟩) I0 ?rub5
                case yub5 => (intro w hSw; obtain ⟨_, _, _, _⟩ := hSw; (go_simp; with_reducible rfl))
                simp only [Act.put, List.getElem_toArray, List.getElem_cons_zero, List.getElem_cons_succ, List.setIfInBounds_toArray, List.set_cons_zero, List.set_cons_succ]
                refine J_takeO 6 (v := ?vub6) rfl (by kernel_rfl) (by kernel_rfl) (by kernel_rfl) (by kernel_rfl) (fun _ _ _ h => h) (Or.inl ⟨by rfl, ?yub6⟩) I0 ?rub6
                case yub6 => (intro w hSw; obtain ⟨_, _, _, _⟩ := hSw; (go_simp; with_reducible rfl))
                simp only [Act.put, List.getElem_toArray, List.getElem_cons_zero, List.getElem_cons_succ, List.setIfInBounds_toArray, List.set_cons_zero, List.set_cons_succ]
                refine J_takeO 7 (v := ?vub7) rfl (by kernel_rfl) (by kernel_rfl) (by kernel_rfl) (by kernel_rfl) (fun _ _ _ h => h) (Or.inl ⟨by rfl, ?yub7⟩) I0 ?rub7
                case yub7 => (intro w hSw; obtain ⟨_, _, _, _⟩ := hSw; (go_simp; with_reducible rfl))
                simp only [Act.put, List.getElem_toArray, List.getElem_cons_zero, List.getElem_cons_succ, List.setIfInBounds_toArray, List.set_cons_zero, List.set_cons_succ]
                refine J_takeO 8 (v := ?vub8) rfl (by kernel_rfl) (by kernel_rfl) (by kernel_rfl) (by kernel_rfl) (fun _ _ _ h => h) (Or.inl ⟨by rfl, ?yub8⟩) I0 ?rub8
                case yub8 => (intro w hSw; obtain ⟨_, _, _, _⟩ := hSw; (go_simp; with_reducible rfl))
                simp only [Act.put, List.getElem_toArray, List.getElem_cons_zero, List.getElem_cons_succ, List.setIfInBounds_toArray, List.set_cons_zero, List.set_cons_succ]
                refine J_takeO 9 (v := ?vub9) rfl (by kernel_rfl) (by kernel_rfl) (by kernel_rfl) (by kernel_rfl) (fun _ _ _ h => h) (Or.inl ⟨by rfl, ?yub9⟩) I0 ?rub9
                case yub9 => (intro w hSw; obtain ⟨_, _, _, _⟩ := hSw; (go_simp; with_reducible rfl))
                simp only [Act.put, List.getElem_toArray, List.getElem_cons_zero, List.getElem_cons_succ, List.setIfInBounds_toArray, List.set_cons_zero, List.set_cons_succ]
                refine J_one 10 rfl (by kernel_rfl) (fun K hK => ?_)
                go_simp
                refine hK _ _ ⟨fun _ => I0, ?_⟩
                clear hK K
                try simp only [Act.put, List.setIfInBounds_toArray, List.set_cons_zero, List.set_cons_succ]
                refine J_done (by kernel_rfl) (OnlyOn.normal ?_)
                go_wp2_with fail
                go_roundw
                case rel => exact ⟨q + 1, by omega, by go_num, hx⟩
                case measure => simp [intOf]; omega
              · obtain rfl : q = m2 := by omega
                have hxe := hx
                clear hx
                go_wp2_with fail
                go_loopw [10] (fun i wr => ∃ q : Nat, q ≤ m3 ∧ i = .int .i64 q ∧ Hid (Ext wC wr)) (fun i _ => m3 - (intOf i).toNat)
                case atStart => exact ⟨0, by omega, rfl, hxe⟩
                case round =>
                  obtain ⟨q, hq, rfl, hx⟩ := hrel
                  obtain ⟨z0, z1, z2, y0, y1, y2, la, lb⟩ := hcl.out _ hx.out
                  by_cases hqt : q < m3
                  · replace hx := hx.out
                    obtain ⟨kad, rfl, zk⟩ := RdI.at_ (r3.out.ext (hx1.out.trans (hxC.out.trans hx))) (k := q) (by rw [hm3.out]; exact hqt)
                    obtain ⟨kbd, rfl, zl⟩ := RdI.at_ (g3.out.ext (hx1.out.trans (hxC.out.trans hx))) (k := q) (by rw [hm3.out]; exact hqt)
                    have hqi : (q : Int) < (m3 : Int) := by omega
                    generalize nth (xth xs k).kids q = s9 at *
                    go_upto_region 22 with fail
                    have I0 : (fun w' : World => w'.cell? ⟨pa, 2, none⟩ = some (.slice (some kad) m3 c3) ∧ w'.cell? ⟨pb, 2, none⟩ = some (.slice (some kbd) m3 e3) ∧ w'.cell? (kad.add q) = some (.int .i64 s9) ∧ w'.cell? (kbd.add q) = some (.int .i64 s9)) wr.drew := ⟨z2, y2, zk, zl⟩
                    refine region_J (fun w' : World => w'.cell? ⟨pa, 2, none⟩ = some (.slice (some kad) m3 c3) ∧ w'.cell? ⟨pb, 2, none⟩ = some (.slice (some kbd) m3 e3) ∧ w'.cell? (kad.add q) = some (.int .i64 s9) ∧ w'.cell? (kbd.add q) = some (.int .i64 s9)) 11 (by kernel_rfl) ?_
                    replace hx := hid hx.drew_right
                    clear z0 z1 z2 y0 y1 y2 zk zl la lb
                    generalize wr.drew = w9 at *
                    refine J_takeO 0 (v := ?vvb0) rfl (by kernel_rfl) (by kernel_rfl) (by kernel_rfl) (by kernel_rfl) (fun _ _ _ h => h) (Or.inl ⟨by rfl, ?yvb0⟩) I0 ?rvb0
                    case yvb0 => (intro w hSw; obtain ⟨_, _, _, _⟩ := hSw; (go_simp; with_reducible rfl))
                    simp only [Act.put, List.getElem_toArray, List.getElem_cons_zero, List.getElem_cons_succ, List.setIfInBounds_toArray, List.set_cons_zero, List.set_cons_succ]
                    refine J_takeO 1 (v := ?vvb1) rfl (by kernel_rfl) (by kernel_rfl) (by kernel_rfl) (by kernel_rfl) (fun _ _ _ h => h) (Or.inl ⟨by rfl, ?yvb1⟩) I0 ?rvb1
                    case yvb1 => (intro w hSw; obtain ⟨_, _, _, _⟩ := hSw; (go_simp; with_reducible rfl))
                    simp only [Act.put, List.getElem_toArray, List.getElem_cons_zero, List.getElem_cons_succ, List.setIfInBounds_toArray, List.set_cons_zero, List.set_cons_succ]
                    refine J_takeO 2 (v := ?vvb2) rfl (by kernel_rfl) (by kernel_rfl) (by kernel_rfl) (by kernel_rfl) (fun _ _ _ h => h) (Or.inl ⟨by rfl, ?yvb2⟩) I0 ?rvb2
                    case yvb2 => (intro w hSw; obtain ⟨_, _, _, _⟩ := hSw; (go_simp; with_reducible rfl))
                    simp only [Act.put, List.getElem_toArray, List.getElem_cons_zero, List.getElem_cons_succ, List.setIfInBounds_toArray, List.set_cons_zero, List.set_cons_succ]
                    refine J_takeO 3 (v := ?vvb3) rfl (by kernel_rfl) (by kernel_rfl) (by kernel_rfl) (by kernel_rfl) (fun _ _ _ h => h) (Or.inl ⟨by rfl, ?yvb3⟩) I0 ?rvb3
                    case yvb3 => (intro w hSw; obtain ⟨_, _, _, _⟩ := hSw; (go_simp; with_reducible rfl))
                    simp only [Act.put, List.getElem_toArray, List.getElem_cons_zero, List.getElem_cons_succ, List.setIfInBounds_toArray, List.set_cons_zero, List.set_cons_succ]
                    refine J_takeO 4 (v := ?vvb4) rfl (by kernel_rfl) (by kernel_rfl) (by kernel_rfl) (by kernel_rfl) (fun _ _ _ h => h) (Or.inl ⟨by rfl, ?yvb4⟩) I0 ?rvb4
                    case yvb4 => (intro w hSw; obtain ⟨_, _, _, _⟩ := hSw; (go_simp; with_reducible rfl))
                    simp only [Act.put, List.getElem_toArray, List.getElem_cons_zero, List.getElem_cons_succ, List.setIfInBounds_toArray, List.set_cons_zero, List.set_cons_succ]
                    refine J_takeO 5 (v := ?vvb5) rfl (by kernel_rfl) (by kernel_rfl) (by kernel_rfl) (by kernel_rfl) (fun _ _ _ h => h) (Or.inl ⟨by rfl, ?yvb5⟩) I0 ?rvb5
                    case yvb5 => (intro w hSw; obtain ⟨_, _, _, _⟩ := hSw; (go_simp; with_reducible rfl))
                    simp only [Act.put, List.getElem_toArray, List.getElem_cons_zero, List.getElem_cons_succ, List.setIfInBounds_toArray, List.set_cons_zero, List.set_cons_succ]
                    refine J_takeO 6 (v := ?vvb6) rfl (by kernel_rfl) (by kernel_rfl) (by kernel_rfl) (by kernel_rfl) (fun _ _ _ h => h) (Or.inl ⟨by rfl, ?yvb6⟩) I0 ?rvb6
                    case yvb6 => (intro w hSw; obtain ⟨_, _, _, _⟩ := hSw; (go_simp; with_reducible rfl))
                    simp only [Act.put, List.getElem_toArray, List.getElem_cons_zero, List.getElem_cons_succ, List.setIfInBounds_toArray, List.set_cons_zero, List.set_cons_succ]
                    refine J_takeO 7 (v := ?vvb7) rfl (by kernel_rfl) (by kernel_rfl) (by kernel_rfl) (by kernel_rfl) (fun _ _ _ h => h) (Or.inl ⟨by rfl, ?yvb7⟩) I0 ?rvb7
                    case yvb7 => (intro w hSw; obtain ⟨_, _, _, _⟩ := hSw; (go_simp; with_reducible rfl))
                    simp only [Act.put, List.getElem_toArray, List.getElem_cons_zero, List.getElem_cons_succ, List.setIfInBounds_toArray, List.set_cons_zero, List.set_cons_succ]
                    refine J_takeO 8 (v := ?vvb8) rfl (by kernel_rfl) (by kernel_rfl) (by kernel_rfl) (by kernel_rfl) (fun _ _ _ h => h) (Or.inl ⟨by rfl, ?yvb8⟩) I0 ?rvb8
                    case yvb8 => (intro w hSw; obtain ⟨_, _, _, _⟩ := hSw; (go_simp; with_reducible rfl))
                    simp only [Act.put, List.getElem_toArray, List.getElem_cons_zero, List.getElem_cons_succ, List.setIfInBounds_toArray, List.set_cons_zero, List.set_cons_succ]
                    refine J_takeO 9 (v := ?vvb9) rfl (by kernel_rfl) (by kernel_rfl) (by kernel_rfl) (by kernel_rfl) (fun _ _ _ h => h) (Or.inl ⟨by rfl, ?yvb9⟩) I0 ?rvb9
                    case yvb9 => (intro w hSw; obtain ⟨_, _, _, _⟩ := hSw; (go_simp; with_reducible rfl))
                    simp only [Act.put, List.getElem_toArray, List.getElem_cons_zero, List.getElem_cons_succ, List.setIfInBounds_toArray, List.set_cons_zero, List.set_cons_succ]
                    refine J_one 10 rfl (by kernel_rfl) (fun K hK => ?_)
                    go_simp
                    refine hK _ _ ⟨fun _ => I0, ?_⟩
                    clear hK K
                    try simp only [Act.put, List.setIfInBounds_toArray, List.set_cons_zero, List.set_cons_succ]
                    refine J_done (by kernel_rfl) (OnlyOn.normal ?_)
                    go_wp2_with fail
                    go_roundw
                    case rel => exact ⟨q + 1, by omega, by go_num, hx⟩
                    case measure => simp [intOf]; omega
                  · obtain rfl : q = m3 := by omega
                    have hxe := hx
                    clear hx
                    go_wp2_with fail
                    go_roundw
                    case rel => exact ⟨k + 1, by omega, by go_num, hid (hxC.out.trans hxe.out)⟩
                    case measure => simp [intOf]; omega
    · obtain rfl : k = n := by omega
      go_wp2
      go_ret
      exact ⟨rfl, hx1.out.trans hx.out⟩
end Go.Proofs.Ytpijfiaecicpfaa
