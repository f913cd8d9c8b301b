/-
  Range: the first entries between two keys.
-/
import Derived.Test.YtpijfiaecicpfaaGreatQ11
import Derived.Test.YtpijfiaecicpfaaGreatQ7
set_option maxRecDepth 100000
set_option maxHeartbeats 40000000
set_option linter.unusedVariables false
set_option linter.unusedSimpArgs false
namespace Go.Proofs.YtpijfiaecicpfaaGreat
open Go.RowKit Go.Shelf
def rangeT (l : List Te) (most : Int) : List Te := if most < 0 then l else l.take most.toNat
theorem eS {W : World} {d : Nat} {x : Te} (h : W.heap[d]? = some (.cells #[.string x.key, .int .i64 x.no] 83 (0, 0))) : W.cell? ⟨d, 0, none⟩ = some (.string x.key) ∧ W.cell? ⟨d, 1, none⟩ = some (.int .i64 x.no) :=
  ⟨by rw [Lib.cell_of_heap h]; rfl, by rw [Lib.cell_of_heap h]; rfl⟩
theorem Range_any (t : Nat) (L : List Te) (h p : Nat) (T : BT) (fT : Nat → Nat) (lo hi : ByteArray) (most : Int) (w : World) (H : TreeAt 0 w t L h p T fT) (l : List Te) (hl : Hid (l = rangeT (betwT L lo hi) most)) : Calls Tryz.prog 32 #[.pointer (some ⟨t, 0, none⟩), .string lo, .string hi, .int .i64 most] w (GiveE l w) := by
  obtain ⟨l0, hl0⟩ : ∃ l0, Hid (l0 = betwT L lo hi) := ⟨_, rfl⟩
  have hB := hid (between_any t L h p T fT lo hi w H l0 hl0)
  have hn : l0.length ≤ 10000 := by
    rw [hl0.out]
    have h1 := betw_len L lo hi (end_le H.sr hi)
    have h2 := end_le H.sr hi
    have h3 := H.le
    omega
  rw [← hl0.out] at hl
  clear H hl0
  go_enter Tryz.func32, Tryz.ntmps32
  go_wp2_with fail
  refine hB.out.mono ?_
  rintro e w2 ⟨A, c, rfl, hrd, hx⟩
  have hmx := Rd.max hrd
  replace hrd := hid hrd
  replace hx := hid hx
  clear hB
  go_wp2_with fail
  go_loopw [10, 11, 19] (fun kv rv i wr => ∃ (q N1 N2 : Nat) (K1 K2 : Option Addr) (d1 d2 : Nat), q ≤ l0.length ∧ i = .int .i64 q ∧ kv = .slice K1 N1 d1 ∧ rv = .slice K2 N2 d2 ∧ Hid (KR w2 wr (.slice K1 N1 d1) (.slice K2 N2 d2) ((l0.take q).map Te.key) ((l0.take q).map Te.no)) ∧ Hid (0 ≤ most → (q : Int) ≤ most)) (fun _ _ i _ => l0.length - (intOf i).toNat)
  case atStart => exact ⟨0, 0, 0, none, none, 0, 0, by omega, rfl, rfl, rfl, by rw [List.take_zero]; exact KR.start w2, fun h => h⟩
  case round =>
    obtain ⟨q, N1, N2, K1, K2, d1, d2, hq, rfl, rfl, rfl, hT, hqm⟩ := hrel
    by_cases hlt : q < l0.length
    · obtain ⟨ad, rfl, z0, z1⟩ := (hrd.out.ext hT.out.up).at_ hlt
      have hM1 : Hid (l0.take (q + 1) = l0.take q ++ [tth l0 q]) := by unfold Hid; rw [List.take_succ_eq_append_getElem hlt, tth_get hlt]
      have hMl : Hid ((l0.take q).length = q) := by unfold Hid; rw [List.length_take]; omega
      have hlti : (q : Int) < (l0.length : Int) := by omega
      generalize tth l0 q = x at *
      have hxd := (Ext.refl wr).alloc_right (.cells #[.string x.key, .int .i64 x.no] 83)
      have hd := hid (heap_alloc_new wr (.cells #[.string x.key, .int .i64 x.no] 83))
      have hob := hid (hT.out.ob0 (Nat.le_refl wr.heap.size))
      have hTd := hid (hT.out.ext hxd)
      by_cases hmost : 0 ≤ most ∧ most ≤ (q : Int)
      · obtain ⟨m1, m2⟩ := hmost
        have hfin : Hid (l0.take q = l) := by
          unfold Hid
          rw [hl.out]
          unfold rangeT
          rw [if_neg (by omega)]
          have := hqm.out m1
          congr 1
          omega
        have hgive := hid (KR.give (L := l0.take q) hTd.out hx.out)
        rw [hfin.out] at hgive
        clear hfin hM1 hMl hl hqm hd hxd hob hT hTd
        go_wp2
        go_ret2
        exact hgive.out
      · have hqm1 : Hid (0 ≤ most → ((q + 1 : Nat) : Int) ≤ most) := fun h => by have := hqm.out h; omega
        have hgo : Hid (0 ≤ most → ¬ most ≤ (q : Int)) := fun h1 h2 => hmost ⟨h1, h2⟩
        clear hmost hqm hl
        generalize hM : l0.take q = M at *
        replace hM := hid hM
        have hq10 : M.length ≤ 10000 := by have := hMl.out; omega
        rcases Int.lt_or_le most 0 with m1 | m1
        · have m2 : ¬ (0 : Int) ≤ most := by omega
          go_upto_region 7 with fail
          obtain ⟨d, hde⟩ : ∃ d, d = wr.heap.size := ⟨_, rfl⟩
          rw [← hde] at hd hob
          simp only [← hde]
          clear z0 z1 hT hxd hgo
          replace hde := hid hde
          have I0 : (fun w' : World => w'.cell? ⟨d, 0, none⟩ = some (.string x.key) ∧ w'.cell? ⟨d, 1, none⟩ = some (.int .i64 x.no)) (wr.alloc (.cells #[.string x.key, .int .i64 x.no] 83)).drew := eS hd.out
          refine region_J (fun w' : World => w'.cell? ⟨d, 0, none⟩ = some (.string x.key) ∧ w'.cell? ⟨d, 1, none⟩ = some (.int .i64 x.no)) 12 (by kernel_rfl) ?_
          replace hT : Hid (KR w2 (wr.alloc (.cells #[.string x.key, .int .i64 x.no] 83)).drew (.slice K1 N1 d1) (.slice K2 N2 d2) (M.map Te.key) (M.map Te.no)) := hTd.out.ext (Ext.drewN _ 1)
          replace hd : Hid ((wr.alloc (.cells #[.string x.key, .int .i64 x.no] 83)).drew.heap[d]? = some (.cells #[.string x.key, .int .i64 x.no] 83 (0, 0))) := hd.out
          clear hTd
          generalize (wr.alloc (.cells #[.string x.key, .int .i64 x.no] 83)).drew = wr at *
          refine JO 0 (v := ?vt0) I0 ?yt0 ?rt0
          case yt0 => (intro w h; obtain ⟨_, _⟩ := h; go_simp; with_reducible rfl)
          simp only [Act.put, lyA, lyB, lyC, lyD, lyE, lyF]
          refine JO 1 (v := ?vt1) I0 ?yt1 ?rt1
          case yt1 => (intro w h; obtain ⟨_, _⟩ := h; go_simp; with_reducible rfl)
          simp only [Act.put, lyA, lyB, lyC, lyD, lyE, lyF]
          refine JO 2 (v := ?vt2) I0 ?yt2 ?rt2
          case yt2 => (intro w h; obtain ⟨_, _⟩ := h; go_simp; with_reducible rfl)
          simp only [Act.put, lyA, lyB, lyC, lyD, lyE, lyF]
          refine JO 5 (v := ?vt5) I0 ?yt5 ?rt5
          case yt5 => (intro w h; obtain ⟨_, _⟩ := h; go_simp; with_reducible rfl)
          simp only [Act.put, lyA, lyB, lyC, lyD, lyE, lyF]
          refine JO 6 (v := ?vt6) I0 ?yt6 ?rt6
          case yt6 => (intro w h; obtain ⟨_, _⟩ := h; go_simp; with_reducible rfl)
          simp only [Act.put, lyA, lyB, lyC, lyD, lyE, lyF]
          refine JO 7 (v := ?vt7) I0 ?yt7 ?rt7
          case yt7 => (intro w h; obtain ⟨_, _⟩ := h; go_simp; with_reducible rfl)
          simp only [Act.put, lyA, lyB, lyC, lyD, lyE, lyF]
          refine J_two 3 8 rfl rfl (by kernel_rfl) (fun K hK => ?_) (fun K hK => ?_)
          · go_simp
            have hTa := hid (hT.out.ext ((Ext.refl wr).alloc_right (.cells #[.string x.key] 9)))
            have rk := hid (rd_new1 wr (.string x.key) 9)
            have rk0 := hid ((hT.out.ob0 (Nat.le_refl wr.heap.size)))
            have rkl : Hid (wr.heap.size < (wr.alloc (.cells #[.string x.key] 9)).heap.size) := by unfold Hid; rw [World.size_alloc]; omega
            replace hd := hid ((((Ext.refl wr).alloc_right (.cells #[.string x.key] 9)).block (Array.getElem?_eq_some_iff.1 hd.out).1).trans hd.out)
            refine hK _ _ ⟨fun _ => eS hd.out, ?_⟩
            clear hK K
            try simp only [Act.put, lyA, lyB, lyC, lyD, lyE, lyF]
            generalize wr.heap.size = qk at *
            generalize (wr.alloc (.cells #[.string x.key] 9)) = wa at *
            refine J_two 4 8 rfl rfl (by kernel_rfl) (fun K hK => ?_) (fun K hK => ?_)
            · obtain ⟨K1', d1', wb, hap1, hTb, hkp⟩ := hTa.out.appK (es := [x.key]) rk.out (by rw [List.length_map]; omega) 28
              replace hTb := hid hTb
              replace hd := hid ((hkp.2 d (Array.getElem?_eq_some_iff.1 hd.out).1 hob.out.1).trans hd.out)
              replace hap1 := hid hap1
              refine step_run rfl _ (ex_append _ _ _ _ rfl _ _ (by simp [Act.eval, Act.put]) (by simp [Act.eval, Act.put]) _ hap1.out) ?_
              refine hK _ _ ⟨fun _ => eS hd.out, ?_⟩
              clear hK K
              try simp only [Act.put, lyA, lyB, lyC, lyD, lyE, lyF]
              clear hap1 hkp
              refine J_one 8 rfl (by kernel_rfl) (fun K hK => ?_)
              go_simp
              have hTc := hid (hTb.out.ext ((Ext.refl wb).alloc_right (.cells #[.int .i64 x.no] 3)))
              have rr := hid (rd_new1 wb (.int .i64 x.no) 3)
              have rr0 := hid ((hTb.out.ob0 (Nat.le_refl wb.heap.size)))
              have rrl : Hid (wb.heap.size < (wb.alloc (.cells #[.int .i64 x.no] 3)).heap.size) := by unfold Hid; rw [World.size_alloc]; omega
              replace hd := hid ((((Ext.refl wb).alloc_right (.cells #[.int .i64 x.no] 3)).block (Array.getElem?_eq_some_iff.1 hd.out).1).trans hd.out)
              refine hK _ _ ⟨fun _ => eS hd.out, ?_⟩
              clear hK K
              try simp only [Act.put, lyA, lyB, lyC, lyD, lyE, lyF]
              generalize wb.heap.size = qr at *
              generalize (wb.alloc (.cells #[.int .i64 x.no] 3)) = wc at *
              refine J_one 9 rfl (by kernel_rfl) (fun K hK => ?_)
              obtain ⟨K2', d2', wd, hap1, hTd, hkp⟩ := hTc.out.appR (es := [x.no]) rr.out (by rw [List.length_map]; omega) 29
              replace hTd := hid hTd
              replace hd := hid ((hkp.2 d (Array.getElem?_eq_some_iff.1 hd.out).1 hob.out.2).trans hd.out)
              replace hap1 := hid hap1
              refine step_run rfl _ (ex_append _ _ _ _ rfl _ _ (by simp [Act.eval, Act.put]) (by simp [Act.eval, Act.put]) _ hap1.out) ?_
              refine hK _ _ ⟨fun _ => eS hd.out, ?_⟩
              clear hK K
              try simp only [Act.put, lyA, lyB, lyC, lyD, lyE, lyF]
              clear hap1 hkp
              refine J_one 10 rfl (by kernel_rfl) (fun K hK => ?_)
              go_simp
              refine hK _ _ ⟨fun _ => eS hd.out, ?_⟩
              clear hK K
              try simp only [Act.put, lyA, lyB, lyC, lyD, lyE, lyF]
              refine J_one 11 rfl (by kernel_rfl) (fun K hK => ?_)
              go_simp
              refine hK _ _ ⟨fun _ => eS hd.out, ?_⟩
              clear hK K
              try simp only [Act.put, lyA, lyB, lyC, lyD, lyE, lyF]
              refine J_done (by kernel_rfl) (OnlyOn.normal ?_)
              clear I0
              go_wp2_with fail
              go_roundw
              case rel => exact ⟨q + 1, _, _, _, _, _, _, by omega, by go_num, rfl, rfl, by rw [hM1.out, List.map_append, List.map_append]; have h9 := hTd.out; rw [show (M.map Te.key ++ [x.key]).length = M.length + 1 by simp, show (M.map Te.no ++ [x.no]).length = M.length + 1 by simp] at h9; exact h9, hqm1⟩
              case measure => simp [intOf]; omega
            · go_simp
              have hTb := hid (hTa.out.ext ((Ext.refl wa).alloc_right (.cells #[.int .i64 x.no] 3)))
              have rr := hid (rd_new1 wa (.int .i64 x.no) 3)
              have rr0 := hid ((hTa.out.ob0 (Nat.le_refl wa.heap.size)))
              have rrl : Hid (wa.heap.size < (wa.alloc (.cells #[.int .i64 x.no] 3)).heap.size) := by unfold Hid; rw [World.size_alloc]; omega
              replace rk := hid (rk.out.ext ((Ext.refl wa).alloc_right (.cells #[.int .i64 x.no] 3)))
              replace rkl := hid (Nat.lt_of_lt_of_le rkl.out ((Ext.refl wa).alloc_right (.cells #[.int .i64 x.no] 3)).size)
              replace hd := hid ((((Ext.refl wa).alloc_right (.cells #[.int .i64 x.no] 3)).block (Array.getElem?_eq_some_iff.1 hd.out).1).trans hd.out)
              refine hK _ _ ⟨fun _ => eS hd.out, ?_⟩
              clear hK K
              try simp only [Act.put, lyA, lyB, lyC, lyD, lyE, lyF]
              generalize wa.heap.size = qr at *
              generalize (wa.alloc (.cells #[.int .i64 x.no] 3)) = wb at *
              refine J_one 4 rfl (by kernel_rfl) (fun K hK => ?_)
              obtain ⟨K1', d1', wc, hap1, hTc, hkp⟩ := hTb.out.appK (es := [x.key]) rk.out (by rw [List.length_map]; omega) 28
              replace hTc := hid hTc
              replace hd := hid ((hkp.2 d (Array.getElem?_eq_some_iff.1 hd.out).1 hob.out.1).trans hd.out)
              replace rr := hid (hkp.rd rrl.out rr0.out.1 rr.out)
              replace rrl := hid (Nat.lt_of_lt_of_le rrl.out hkp.1)
              replace hap1 := hid hap1
              refine step_run rfl _ (ex_append _ _ _ _ rfl _ _ (by simp [Act.eval, Act.put]) (by simp [Act.eval, Act.put]) _ hap1.out) ?_
              refine hK _ _ ⟨fun _ => eS hd.out, ?_⟩
              clear hK K
              try simp only [Act.put, lyA, lyB, lyC, lyD, lyE, lyF]
              clear hap1 hkp
              refine J_one 9 rfl (by kernel_rfl) (fun K hK => ?_)
              obtain ⟨K2', d2', wd, hap1, hTd, hkp⟩ := hTc.out.appR (es := [x.no]) rr.out (by rw [List.length_map]; omega) 29
              replace hTd := hid hTd
              replace hd := hid ((hkp.2 d (Array.getElem?_eq_some_iff.1 hd.out).1 hob.out.2).trans hd.out)
              replace hap1 := hid hap1
              refine step_run rfl _ (ex_append _ _ _ _ rfl _ _ (by simp [Act.eval, Act.put]) (by simp [Act.eval, Act.put]) _ hap1.out) ?_
              refine hK _ _ ⟨fun _ => eS hd.out, ?_⟩
              clear hK K
              try simp only [Act.put, lyA, lyB, lyC, lyD, lyE, lyF]
              clear hap1 hkp
              refine J_one 10 rfl (by kernel_rfl) (fun K hK => ?_)
              go_simp
              refine hK _ _ ⟨fun _ => eS hd.out, ?_⟩
              clear hK K
              try simp only [Act.put, lyA, lyB, lyC, lyD, lyE, lyF]
              refine J_one 11 rfl (by kernel_rfl) (fun K hK => ?_)
              go_simp
              refine hK _ _ ⟨fun _ => eS hd.out, ?_⟩
              clear hK K
              try simp only [Act.put, lyA, lyB, lyC, lyD, lyE, lyF]
              refine J_done (by kernel_rfl) (OnlyOn.normal ?_)
              clear I0
              go_wp2_with fail
              go_roundw
              case rel => exact ⟨q + 1, _, _, _, _, _, _, by omega, by go_num, rfl, rfl, by rw [hM1.out, List.map_append, List.map_append]; have h9 := hTd.out; rw [show (M.map Te.key ++ [x.key]).length = M.length + 1 by simp, show (M.map Te.no ++ [x.no]).length = M.length + 1 by simp] at h9; exact h9, hqm1⟩
              case measure => simp [intOf]; omega
          · go_simp
            have hTa := hid (hT.out.ext ((Ext.refl wr).alloc_right (.cells #[.int .i64 x.no] 3)))
            have rr := hid (rd_new1 wr (.int .i64 x.no) 3)
            have rr0 := hid ((hT.out.ob0 (Nat.le_refl wr.heap.size)))
            have rrl : Hid (wr.heap.size < (wr.alloc (.cells #[.int .i64 x.no] 3)).heap.size) := by unfold Hid; rw [World.size_alloc]; omega
            replace hd := hid ((((Ext.refl wr).alloc_right (.cells #[.int .i64 x.no] 3)).block (Array.getElem?_eq_some_iff.1 hd.out).1).trans hd.out)
            refine hK _ _ ⟨fun _ => eS hd.out, ?_⟩
            clear hK K
            try simp only [Act.put, lyA, lyB, lyC, lyD, lyE, lyF]
            generalize wr.heap.size = qr at *
            generalize (wr.alloc (.cells #[.int .i64 x.no] 3)) = wa at *
            refine J_one 3 rfl (by kernel_rfl) (fun K hK => ?_)
            go_simp
            have hTb := hid (hTa.out.ext ((Ext.refl wa).alloc_right (.cells #[.string x.key] 9)))
            have rk := hid (rd_new1 wa (.string x.key) 9)
            have rk0 := hid ((hTa.out.ob0 (Nat.le_refl wa.heap.size)))
            have rkl : Hid (wa.heap.size < (wa.alloc (.cells #[.string x.key] 9)).heap.size) := by unfold Hid; rw [World.size_alloc]; omega
            replace rr := hid (rr.out.ext ((Ext.refl wa).alloc_right (.cells #[.string x.key] 9)))
            replace rrl := hid (Nat.lt_of_lt_of_le rrl.out ((Ext.refl wa).alloc_right (.cells #[.string x.key] 9)).size)
            replace hd := hid ((((Ext.refl wa).alloc_right (.cells #[.string x.key] 9)).block (Array.getElem?_eq_some_iff.1 hd.out).1).trans hd.out)
            refine hK _ _ ⟨fun _ => eS hd.out, ?_⟩
            clear hK K
            try simp only [Act.put, lyA, lyB, lyC, lyD, lyE, lyF]
            generalize wa.heap.size = qk at *
            generalize (wa.alloc (.cells #[.string x.key] 9)) = wb at *
            refine J_one 4 rfl (by kernel_rfl) (fun K hK => ?_)
            obtain ⟨K1', d1', wc, hap1, hTc, hkp⟩ := hTb.out.appK (es := [x.key]) rk.out (by rw [List.length_map]; omega) 28
            replace hTc := hid hTc
            replace hd := hid ((hkp.2 d (Array.getElem?_eq_some_iff.1 hd.out).1 hob.out.1).trans hd.out)
            replace rr := hid (hkp.rd rrl.out rr0.out.1 rr.out)
            replace rrl := hid (Nat.lt_of_lt_of_le rrl.out hkp.1)
            replace hap1 := hid hap1
            refine step_run rfl _ (ex_append _ _ _ _ rfl _ _ (by simp [Act.eval, Act.put]) (by simp [Act.eval, Act.put]) _ hap1.out) ?_
            refine hK _ _ ⟨fun _ => eS hd.out, ?_⟩
            clear hK K
            try simp only [Act.put, lyA, lyB, lyC, lyD, lyE, lyF]
            clear hap1 hkp
            refine J_one 9 rfl (by kernel_rfl) (fun K hK => ?_)
            obtain ⟨K2', d2', wd, hap1, hTd, hkp⟩ := hTc.out.appR (es := [x.no]) rr.out (by rw [List.length_map]; omega) 29
            replace hTd := hid hTd
            replace hd := hid ((hkp.2 d (Array.getElem?_eq_some_iff.1 hd.out).1 hob.out.2).trans hd.out)
            replace hap1 := hid hap1
            refine step_run rfl _ (ex_append _ _ _ _ rfl _ _ (by simp [Act.eval, Act.put]) (by simp [Act.eval, Act.put]) _ hap1.out) ?_
            refine hK _ _ ⟨fun _ => eS hd.out, ?_⟩
            clear hK K
            try simp only [Act.put, lyA, lyB, lyC, lyD, lyE, lyF]
            clear hap1 hkp
            refine J_one 10 rfl (by kernel_rfl) (fun K hK => ?_)
            go_simp
            refine hK _ _ ⟨fun _ => eS hd.out, ?_⟩
            clear hK K
            try simp only [Act.put, lyA, lyB, lyC, lyD, lyE, lyF]
            refine J_one 11 rfl (by kernel_rfl) (fun K hK => ?_)
            go_simp
            refine hK _ _ ⟨fun _ => eS hd.out, ?_⟩
            clear hK K
            try simp only [Act.put, lyA, lyB, lyC, lyD, lyE, lyF]
            refine J_done (by kernel_rfl) (OnlyOn.normal ?_)
            clear I0
            go_wp2_with fail
            go_roundw
            case rel => exact ⟨q + 1, _, _, _, _, _, _, by omega, by go_num, rfl, rfl, by rw [hM1.out, List.map_append, List.map_append]; have h9 := hTd.out; rw [show (M.map Te.key ++ [x.key]).length = M.length + 1 by simp, show (M.map Te.no ++ [x.no]).length = M.length + 1 by simp] at h9; exact h9, hqm1⟩
            case measure => simp [intOf]; omega
        · have m2 := hgo.out m1
          go_upto_region 7 with fail
          obtain ⟨d, hde⟩ : ∃ d, d = wr.heap.size := ⟨_, rfl⟩
          rw [← hde] at hd hob
          simp only [← hde]
          clear z0 z1 hT hxd hgo
          replace hde := hid hde
          have I0 : (fun w' : World => w'.cell? ⟨d, 0, none⟩ = some (.string x.key) ∧ w'.cell? ⟨d, 1, none⟩ = some (.int .i64 x.no)) (wr.alloc (.cells #[.string x.key, .int .i64 x.no] 83)).drew := eS hd.out
          refine region_J (fun w' : World => w'.cell? ⟨d, 0, none⟩ = some (.string x.key) ∧ w'.cell? ⟨d, 1, none⟩ = some (.int .i64 x.no)) 12 (by kernel_rfl) ?_
          replace hT : Hid (KR w2 (wr.alloc (.cells #[.string x.key, .int .i64 x.no] 83)).drew (.slice K1 N1 d1) (.slice K2 N2 d2) (M.map Te.key) (M.map Te.no)) := hTd.out.ext (Ext.drewN _ 1)
          replace hd : Hid ((wr.alloc (.cells #[.string x.key, .int .i64 x.no] 83)).drew.heap[d]? = some (.cells #[.string x.key, .int .i64 x.no] 83 (0, 0))) := hd.out
          clear hTd
          generalize (wr.alloc (.cells #[.string x.key, .int .i64 x.no] 83)).drew = wr at *
          refine JO 0 (v := ?vu0) I0 ?yu0 ?ru0
          case yu0 => (intro w h; obtain ⟨_, _⟩ := h; go_simp; with_reducible rfl)
          simp only [Act.put, lyA, lyB, lyC, lyD, lyE, lyF]
          refine JO 1 (v := ?vu1) I0 ?yu1 ?ru1
          case yu1 => (intro w h; obtain ⟨_, _⟩ := h; go_simp; with_reducible rfl)
          simp only [Act.put, lyA, lyB, lyC, lyD, lyE, lyF]
          refine JO 2 (v := ?vu2) I0 ?yu2 ?ru2
          case yu2 => (intro w h; obtain ⟨_, _⟩ := h; go_simp; with_reducible rfl)
          simp only [Act.put, lyA, lyB, lyC, lyD, lyE, lyF]
          refine JO 5 (v := ?vu5) I0 ?yu5 ?ru5
          case yu5 => (intro w h; obtain ⟨_, _⟩ := h; go_simp; with_reducible rfl)
          simp only [Act.put, lyA, lyB, lyC, lyD, lyE, lyF]
          refine JO 6 (v := ?vu6) I0 ?yu6 ?ru6
          case yu6 => (intro w h; obtain ⟨_, _⟩ := h; go_simp; with_reducible rfl)
          simp only [Act.put, lyA, lyB, lyC, lyD, lyE, lyF]
          refine JO 7 (v := ?vu7) I0 ?yu7 ?ru7
          case yu7 => (intro w h; obtain ⟨_, _⟩ := h; go_simp; with_reducible rfl)
          simp only [Act.put, lyA, lyB, lyC, lyD, lyE, lyF]
          refine J_two 3 8 rfl rfl (by kernel_rfl) (fun K hK => ?_) (fun K hK => ?_)
          · go_simp
            have hTa := hid (hT.out.ext ((Ext.refl wr).alloc_right (.cells #[.string x.key] 9)))
            have rk := hid (rd_new1 wr (.string x.key) 9)
            have rk0 := hid ((hT.out.ob0 (Nat.le_refl wr.heap.size)))
            have rkl : Hid (wr.heap.size < (wr.alloc (.cells #[.string x.key] 9)).heap.size) := by unfold Hid; rw [World.size_alloc]; omega
            replace hd := hid ((((Ext.refl wr).alloc_right (.cells #[.string x.key] 9)).block (Array.getElem?_eq_some_iff.1 hd.out).1).trans hd.out)
            refine hK _ _ ⟨fun _ => eS hd.out, ?_⟩
            clear hK K
            try simp only [Act.put, lyA, lyB, lyC, lyD, lyE, lyF]
            generalize wr.heap.size = qk at *
            generalize (wr.alloc (.cells #[.string x.key] 9)) = wa at *
            refine J_two 4 8 rfl rfl (by kernel_rfl) (fun K hK => ?_) (fun K hK => ?_)
            · obtain ⟨K1', d1', wb, hap1, hTb, hkp⟩ := hTa.out.appK (es := [x.key]) rk.out (by rw [List.length_map]; omega) 28
              replace hTb := hid hTb
              replace hd := hid ((hkp.2 d (Array.getElem?_eq_some_iff.1 hd.out).1 hob.out.1).trans hd.out)
              replace hap1 := hid hap1
              refine step_run rfl _ (ex_append _ _ _ _ rfl _ _ (by simp [Act.eval, Act.put]) (by simp [Act.eval, Act.put]) _ hap1.out) ?_
              refine hK _ _ ⟨fun _ => eS hd.out, ?_⟩
              clear hK K
              try simp only [Act.put, lyA, lyB, lyC, lyD, lyE, lyF]
              clear hap1 hkp
              refine J_one 8 rfl (by kernel_rfl) (fun K hK => ?_)
              go_simp
              have hTc := hid (hTb.out.ext ((Ext.refl wb).alloc_right (.cells #[.int .i64 x.no] 3)))
              have rr := hid (rd_new1 wb (.int .i64 x.no) 3)
              have rr0 := hid ((hTb.out.ob0 (Nat.le_refl wb.heap.size)))
              have rrl : Hid (wb.heap.size < (wb.alloc (.cells #[.int .i64 x.no] 3)).heap.size) := by unfold Hid; rw [World.size_alloc]; omega
              replace hd := hid ((((Ext.refl wb).alloc_right (.cells #[.int .i64 x.no] 3)).block (Array.getElem?_eq_some_iff.1 hd.out).1).trans hd.out)
              refine hK _ _ ⟨fun _ => eS hd.out, ?_⟩
              clear hK K
              try simp only [Act.put, lyA, lyB, lyC, lyD, lyE, lyF]
              generalize wb.heap.size = qr at *
              generalize (wb.alloc (.cells #[.int .i64 x.no] 3)) = wc at *
              refine J_one 9 rfl (by kernel_rfl) (fun K hK => ?_)
              obtain ⟨K2', d2', wd, hap1, hTd, hkp⟩ := hTc.out.appR (es := [x.no]) rr.out (by rw [List.length_map]; omega) 29
              replace hTd := hid hTd
              replace hd := hid ((hkp.2 d (Array.getElem?_eq_some_iff.1 hd.out).1 hob.out.2).trans hd.out)
              replace hap1 := hid hap1
              refine step_run rfl _ (ex_append _ _ _ _ rfl _ _ (by simp [Act.eval, Act.put]) (by simp [Act.eval, Act.put]) _ hap1.out) ?_
              refine hK _ _ ⟨fun _ => eS hd.out, ?_⟩
              clear hK K
              try simp only [Act.put, lyA, lyB, lyC, lyD, lyE, lyF]
              clear hap1 hkp
              refine J_one 10 rfl (by kernel_rfl) (fun K hK => ?_)
              go_simp
              refine hK _ _ ⟨fun _ => eS hd.out, ?_⟩
              clear hK K
              try simp only [Act.put, lyA, lyB, lyC, lyD, lyE, lyF]
              refine J_one 11 rfl (by kernel_rfl) (fun K hK => ?_)
              go_simp
              refine hK _ _ ⟨fun _ => eS hd.out, ?_⟩
              clear hK K
              try simp only [Act.put, lyA, lyB, lyC, lyD, lyE, lyF]
              refine J_done (by kernel_rfl) (OnlyOn.normal ?_)
              clear I0
              go_wp2_with fail
              go_roundw
              case rel => exact ⟨q + 1, _, _, _, _, _, _, by omega, by go_num, rfl, rfl, by rw [hM1.out, List.map_append, List.map_append]; have h9 := hTd.out; rw [show (M.map Te.key ++ [x.key]).length = M.length + 1 by simp, show (M.map Te.no ++ [x.no]).length = M.length + 1 by simp] at h9; exact h9, hqm1⟩
              case measure => simp [intOf]; omega
            · go_simp
              have hTb := hid (hTa.out.ext ((Ext.refl wa).alloc_right (.cells #[.int .i64 x.no] 3)))
              have rr := hid (rd_new1 wa (.int .i64 x.no) 3)
              have rr0 := hid ((hTa.out.ob0 (Nat.le_refl wa.heap.size)))
              have rrl : Hid (wa.heap.size < (wa.alloc (.cells #[.int .i64 x.no] 3)).heap.size) := by unfold Hid; rw [World.size_alloc]; omega
              replace rk := hid (rk.out.ext ((Ext.refl wa).alloc_right (.cells #[.int .i64 x.no] 3)))
              replace rkl := hid (Nat.lt_of_lt_of_le rkl.out ((Ext.refl wa).alloc_right (.cells #[.int .i64 x.no] 3)).size)
              replace hd := hid ((((Ext.refl wa).alloc_right (.cells #[.int .i64 x.no] 3)).block (Array.getElem?_eq_some_iff.1 hd.out).1).trans hd.out)
              refine hK _ _ ⟨fun _ => eS hd.out, ?_⟩
              clear hK K
              try simp only [Act.put, lyA, lyB, lyC, lyD, lyE, lyF]
              generalize wa.heap.size = qr at *
              generalize (wa.alloc (.cells #[.int .i64 x.no] 3)) = wb at *
              refine J_one 4 rfl (by kernel_rfl) (fun K hK => ?_)
              obtain ⟨K1', d1', wc, hap1, hTc, hkp⟩ := hTb.out.appK (es := [x.key]) rk.out (by rw [List.length_map]; omega) 28
              replace hTc := hid hTc
              replace hd := hid ((hkp.2 d (Array.getElem?_eq_some_iff.1 hd.out).1 hob.out.1).trans hd.out)
              replace rr := hid (hkp.rd rrl.out rr0.out.1 rr.out)
              replace rrl := hid (Nat.lt_of_lt_of_le rrl.out hkp.1)
              replace hap1 := hid hap1
              refine step_run rfl _ (ex_append _ _ _ _ rfl _ _ (by simp [Act.eval, Act.put]) (by simp [Act.eval, Act.put]) _ hap1.out) ?_
              refine hK _ _ ⟨fun _ => eS hd.out, ?_⟩
              clear hK K
              try simp only [Act.put, lyA, lyB, lyC, lyD, lyE, lyF]
              clear hap1 hkp
              refine J_one 9 rfl (by kernel_rfl) (fun K hK => ?_)
              obtain ⟨K2', d2', wd, hap1, hTd, hkp⟩ := hTc.out.appR (es := [x.no]) rr.out (by rw [List.length_map]; omega) 29
              replace hTd := hid hTd
              replace hd := hid ((hkp.2 d (Array.getElem?_eq_some_iff.1 hd.out).1 hob.out.2).trans hd.out)
              replace hap1 := hid hap1
              refine step_run rfl _ (ex_append _ _ _ _ rfl _ _ (by simp [Act.eval, Act.put]) (by simp [Act.eval, Act.put]) _ hap1.out) ?_
              refine hK _ _ ⟨fun _ => eS hd.out, ?_⟩
              clear hK K
              try simp only [Act.put, lyA, lyB, lyC, lyD, lyE, lyF]
              clear hap1 hkp
              refine J_one 10 rfl (by kernel_rfl) (fun K hK => ?_)
              go_simp
              refine hK _ _ ⟨fun _ => eS hd.out, ?_⟩
              clear hK K
              try simp only [Act.put, lyA, lyB, lyC, lyD, lyE, lyF]
              refine J_one 11 rfl (by kernel_rfl) (fun K hK => ?_)
              go_simp
              refine hK _ _ ⟨fun _ => eS hd.out, ?_⟩
              clear hK K
              try simp only [Act.put, lyA, lyB, lyC, lyD, lyE, lyF]
              refine J_done (by kernel_rfl) (OnlyOn.normal ?_)
              clear I0
              go_wp2_with fail
              go_roundw
              case rel => exact ⟨q + 1, _, _, _, _, _, _, by omega, by go_num, rfl, rfl, by rw [hM1.out, List.map_append, List.map_append]; have h9 := hTd.out; rw [show (M.map Te.key ++ [x.key]).length = M.length + 1 by simp, show (M.map Te.no ++ [x.no]).length = M.length + 1 by simp] at h9; exact h9, hqm1⟩
              case measure => simp [intOf]; omega
          · go_simp
            have hTa := hid (hT.out.ext ((Ext.refl wr).alloc_right (.cells #[.int .i64 x.no] 3)))
            have rr := hid (rd_new1 wr (.int .i64 x.no) 3)
            have rr0 := hid ((hT.out.ob0 (Nat.le_refl wr.heap.size)))
            have rrl : Hid (wr.heap.size < (wr.alloc (.cells #[.int .i64 x.no] 3)).heap.size) := by unfold Hid; rw [World.size_alloc]; omega
            replace hd := hid ((((Ext.refl wr).alloc_right (.cells #[.int .i64 x.no] 3)).block (Array.getElem?_eq_some_iff.1 hd.out).1).trans hd.out)
            refine hK _ _ ⟨fun _ => eS hd.out, ?_⟩
            clear hK K
            try simp only [Act.put, lyA, lyB, lyC, lyD, lyE, lyF]
            generalize wr.heap.size = qr at *
            generalize (wr.alloc (.cells #[.int .i64 x.no] 3)) = wa at *
            refine J_one 3 rfl (by kernel_rfl) (fun K hK => ?_)
            go_simp
            have hTb := hid (hTa.out.ext ((Ext.refl wa).alloc_right (.cells #[.string x.key] 9)))
            have rk := hid (rd_new1 wa (.string x.key) 9)
            have rk0 := hid ((hTa.out.ob0 (Nat.le_refl wa.heap.size)))
            have rkl : Hid (wa.heap.size < (wa.alloc (.cells #[.string x.key] 9)).heap.size) := by unfold Hid; rw [World.size_alloc]; omega
            replace rr := hid (rr.out.ext ((Ext.refl wa).alloc_right (.cells #[.string x.key] 9)))
            replace rrl := hid (Nat.lt_of_lt_of_le rrl.out ((Ext.refl wa).alloc_right (.cells #[.string x.key] 9)).size)
            replace hd := hid ((((Ext.refl wa).alloc_right (.cells #[.string x.key] 9)).block (Array.getElem?_eq_some_iff.1 hd.out).1).trans hd.out)
            refine hK _ _ ⟨fun _ => eS hd.out, ?_⟩
            clear hK K
            try simp only [Act.put, lyA, lyB, lyC, lyD, lyE, lyF]
            generalize wa.heap.size = qk at *
            generalize (wa.alloc (.cells #[.string x.key] 9)) = wb at *
            refine J_one 4 rfl (by kernel_rfl) (fun K hK => ?_)
            obtain ⟨K1', d1', wc, hap1, hTc, hkp⟩ := hTb.out.appK (es := [x.key]) rk.out (by rw [List.length_map]; omega) 28
            replace hTc := hid hTc
            replace hd := hid ((hkp.2 d (Array.getElem?_eq_some_iff.1 hd.out).1 hob.out.1).trans hd.out)
            replace rr := hid (hkp.rd rrl.out rr0.out.1 rr.out)
            replace rrl := hid (Nat.lt_of_lt_of_le rrl.out hkp.1)
            replace hap1 := hid hap1
            refine step_run rfl _ (ex_append _ _ _ _ rfl _ _ (by simp [Act.eval, Act.put]) (by simp [Act.eval, Act.put]) _ hap1.out) ?_
            refine hK _ _ ⟨fun _ => eS hd.out, ?_⟩
            clear hK K
            try simp only [Act.put, lyA, lyB, lyC, lyD, lyE, lyF]
            clear hap1 hkp
            refine J_one 9 rfl (by kernel_rfl) (fun K hK => ?_)
            obtain ⟨K2', d2', wd, hap1, hTd, hkp⟩ := hTc.out.appR (es := [x.no]) rr.out (by rw [List.length_map]; omega) 29
            replace hTd := hid hTd
            replace hd := hid ((hkp.2 d (Array.getElem?_eq_some_iff.1 hd.out).1 hob.out.2).trans hd.out)
            replace hap1 := hid hap1
            refine step_run rfl _ (ex_append _ _ _ _ rfl _ _ (by simp [Act.eval, Act.put]) (by simp [Act.eval, Act.put]) _ hap1.out) ?_
            refine hK _ _ ⟨fun _ => eS hd.out, ?_⟩
            clear hK K
            try simp only [Act.put, lyA, lyB, lyC, lyD, lyE, lyF]
            clear hap1 hkp
            refine J_one 10 rfl (by kernel_rfl) (fun K hK => ?_)
            go_simp
            refine hK _ _ ⟨fun _ => eS hd.out, ?_⟩
            clear hK K
            try simp only [Act.put, lyA, lyB, lyC, lyD, lyE, lyF]
            refine J_one 11 rfl (by kernel_rfl) (fun K hK => ?_)
            go_simp
            refine hK _ _ ⟨fun _ => eS hd.out, ?_⟩
            clear hK K
            try simp only [Act.put, lyA, lyB, lyC, lyD, lyE, lyF]
            refine J_done (by kernel_rfl) (OnlyOn.normal ?_)
            clear I0
            go_wp2_with fail
            go_roundw
            case rel => exact ⟨q + 1, _, _, _, _, _, _, by omega, by go_num, rfl, rfl, by rw [hM1.out, List.map_append, List.map_append]; have h9 := hTd.out; rw [show (M.map Te.key ++ [x.key]).length = M.length + 1 by simp, show (M.map Te.no ++ [x.no]).length = M.length + 1 by simp] at h9; exact h9, hqm1⟩
            case measure => simp [intOf]; omega
    · obtain rfl : q = l0.length := by omega
      have hfin : Hid (l0.take l0.length = l) := by
        unfold Hid
        rw [hl.out, List.take_length]
        unfold rangeT
        rcases Int.lt_or_le most 0 with h1 | h1
        · rw [if_pos h1]
        · rw [if_neg (by omega), List.take_of_length_le (by have := hqm.out h1; omega)]
      have hgive := hid (KR.give (L := l0.take l0.length) hT.out hx.out)
      rw [hfin.out] at hgive
      clear hfin hl hqm hT
      go_wp2
      go_ret2
      exact hgive.out
end Go.Proofs.YtpijfiaecicpfaaGreat
