/-
  The reference's Range and Count.
-/
import Derived.Test.YtpijfiaecicpfaaGreatQ10
import Derived.Test.YtpijfiaecicpfaaGreatQ12
set_option maxRecDepth 100000
set_option maxHeartbeats 40000000
set_option linter.unusedVariables false
set_option linter.unusedSimpArgs false
namespace Go.Proofs.YtpijfiaecicpfaaGreat
open Go.RowKit Go.Shelf
def betB (lo hi : ByteArray) (x : Te) : Bool := !decide (cmpK x.key lo < 0) && (decide (hi = ⟨#[]⟩) || decide (cmpK x.key hi < 0))
theorem filter_range {α : Type} (p : α → Bool) (L : List α) (a e : Nat) (he : e ≤ L.length) (h : ∀ t (ht : t < L.length), p L[t] = (decide (a ≤ t) && decide (t < e))) : L.filter p = (L.take e).drop (min a e) := by
  have hm : min a e ≤ e := Nat.min_le_right _ _
  have e1 : L = L.take (min a e) ++ ((L.take e).drop (min a e) ++ L.drop e) := by
    rw [← List.append_assoc, show L.take (min a e) = (L.take e).take (min a e) by rw [List.take_take, Nat.min_eq_left hm], List.take_append_drop, List.take_append_drop]
  have f1 : (L.take (min a e)).filter p = [] := by
    rw [List.filter_eq_nil_iff]
    intro x hx
    obtain ⟨t, ht, rfl⟩ := List.mem_take_iff_getElem.1 hx
    rw [h t (by omega)]
    by_cases h1 : a ≤ t
    · have : ¬ t < e := by omega
      simp [this]
    · simp [h1]
  have f2 : ((L.take e).drop (min a e)).filter p = (L.take e).drop (min a e) := by
    rw [List.filter_eq_self]
    intro x hx
    obtain ⟨t, ht, rfl⟩ := List.mem_drop_iff_getElem.1 hx
    rw [List.length_take] at ht
    rw [List.getElem_take, h _ (by omega)]
    simp
    omega
  have f3 : (L.drop e).filter p = [] := by
    rw [List.filter_eq_nil_iff]
    intro x hx
    obtain ⟨t, ht, rfl⟩ := List.mem_drop_iff_getElem.1 hx
    rw [h _ (by omega)]
    simp
  calc L.filter p = (L.take (min a e) ++ ((L.take e).drop (min a e) ++ L.drop e)).filter p := by rw [← e1]
    _ = _ := by rw [List.filter_append, List.filter_append, f1, f2, f3, List.nil_append, List.append_nil]
theorem betw_filter {L : List Te} (hS : Srt L) (lo hi : ByteArray) : L.filter (betB lo hi) = betwT L lo hi := by
  obtain ⟨a1, a2, a3⟩ := keyR_cut hS lo
  refine filter_range _ L (keyR L lo) (endR L hi) (end_le hS hi) (fun t ht => ?_)
  have h1 : decide (cmpK L[t].key lo < 0) = decide (t < keyR L lo) := by
    rw [← tth_get ht]
    by_cases hc : t < keyR L lo
    · rw [decide_eq_true (a2 t hc), decide_eq_true hc]
    · rw [decide_eq_false (a3 t (by omega) ht), decide_eq_false hc]
  have h2 : (decide (hi = ⟨#[]⟩) || decide (cmpK L[t].key hi < 0)) = decide (t < endR L hi) := by
    unfold endR
    by_cases he : hi = ⟨#[]⟩
    · rw [if_pos he, decide_eq_true he, decide_eq_true ht]; rfl
    · obtain ⟨b1, b2, b3⟩ := keyR_cut hS hi
      rw [if_neg he, decide_eq_false he, Bool.false_or, ← tth_get ht]
      by_cases hc : t < keyR L hi
      · rw [decide_eq_true (b2 t hc), decide_eq_true hc]
      · rw [decide_eq_false (b3 t (by omega) ht), decide_eq_false hc]
  unfold betB
  rw [h1, h2]
  congr 1
  by_cases hc : t < keyR L lo
  · rw [decide_eq_true hc, decide_eq_false (by omega)]; rfl
  · rw [decide_eq_false hc, decide_eq_true (by omega)]; rfl
def gthT (L : List Te) (lo hi : ByteArray) (most : Int) (q : Nat) : List Te := rangeT ((L.take q).filter (betB lo hi)) most
theorem gth_no {L : List Te} {lo hi : ByteArray} {most : Int} {q : Nat} (hq : q < L.length) (h : betB lo hi (tth L q) = false) : gthT L lo hi most (q + 1) = gthT L lo hi most q := by
  unfold gthT
  rw [List.take_succ_eq_append_getElem hq, List.filter_append, ← tth_get hq]
  simp [h]
theorem gth_yes {L : List Te} {lo hi : ByteArray} {most : Int} {q : Nat} (hq : q < L.length) (h : betB lo hi (tth L q) = true) (hm : most < 0 ∨ ((gthT L lo hi most q).length : Int) < most) : gthT L lo hi most (q + 1) = gthT L lo hi most q ++ [tth L q] := by
  unfold gthT rangeT at *
  rw [List.take_succ_eq_append_getElem hq, List.filter_append, ← tth_get hq]
  have e : [tth L q].filter (betB lo hi) = [tth L q] := by simp [h]
  rw [e]
  by_cases hn : most < 0
  · rw [if_pos hn, if_pos hn]
  · rw [if_neg hn] at hm ⊢
    rw [if_neg hn]
    have hl : ((L.take q).filter (betB lo hi)).length < most.toNat := by
      rcases hm with hm | hm
      · omega
      · rw [List.length_take] at hm; omega
    rw [List.take_of_length_le (l := (L.take q).filter (betB lo hi) ++ [tth L q]) (by rw [List.length_append]; simp; omega), List.take_of_length_le (l := (L.take q).filter (betB lo hi)) (by omega)]
theorem gth_full {L : List Te} {lo hi : ByteArray} {most : Int} {q : Nat} (hq : q < L.length) (h0 : 0 ≤ most) (hm : most ≤ ((gthT L lo hi most q).length : Int)) : gthT L lo hi most (q + 1) = gthT L lo hi most q := by
  cases hb : betB lo hi (tth L q) with
  | false => exact gth_no hq hb
  | true =>
    unfold gthT rangeT at *
    rw [if_neg (by omega)] at hm ⊢
    rw [if_neg (by omega), List.take_succ_eq_append_getElem hq, List.filter_append]
    rw [List.length_take] at hm
    rw [List.take_append_of_le_length (by omega)]
theorem gth_le (L : List Te) (lo hi : ByteArray) (most : Int) (q : Nat) : (gthT L lo hi most q).length ≤ L.length := by
  unfold gthT rangeT
  have h1 := List.length_filter_le (betB lo hi) (L.take q)
  rw [List.length_take] at h1
  split
  · omega
  · rw [List.length_take]; omega
theorem rRange_any (r : Nat) (L : List Te) (lo hi : ByteArray) (most : Int) (w : World) (h : RTr w r L) (hS0 : Srt L) (hl : L.length ≤ 10000) (l : List Te) (hl0 : Hid (l = rangeT (betwT L lo hi) most)) : Calls Tryz.prog 33 #[.pointer (some ⟨r, 0, none⟩), .string lo, .string hi, .int .i64 most] w (GiveE l w) := by
  obtain ⟨A1, c1, A2, c2, z0, z1, lr, m1, m2, m3, m4, hat⟩ := h.at_
  replace hat := hid hat
  have hend : Hid (gthT L lo hi most L.length = l) := by
    unfold Hid gthT
    rw [List.take_length, betw_filter hS0, hl0.out]
  clear hl0 hS0
  go_enter Tryz.func33, Tryz.ntmps33
  go_wp2_with fail
  go_loopw [10, 11, 12] (fun kv rv i wr => ∃ (q N1 : Nat) (K1 K2 : Option Addr) (d1 d2 : Nat), q ≤ L.length ∧ i = .int .i64 q ∧ kv = .slice K1 N1 d1 ∧ rv = .slice K2 N1 d2 ∧ Hid (N1 = (gthT L lo hi most q).length) ∧ Hid (KR w wr (.slice K1 N1 d1) (.slice K2 N1 d2) ((gthT L lo hi most q).map Te.key) ((gthT L lo hi most q).map Te.no))) (fun _ _ i _ => L.length - (intOf i).toNat)
  case atStart => exact ⟨0, 0, none, none, 0, 0, Nat.zero_le _, rfl, rfl, rfl, by unfold gthT rangeT; rw [List.take_zero]; simp [Hid], by unfold gthT rangeT; rw [List.take_zero]; simp only [List.filter_nil, List.take_nil, ite_self, List.map_nil]; exact KR.start w⟩
  case round =>
    obtain ⟨q, N1, K1, K2, d1, d2, hq, rfl, rfl, rfl, hN, hT⟩ := hrel
    obtain rfl := hN.out
    have hM12 := gth_le L lo hi most q
    by_cases hlt : q < L.length
    · obtain ⟨a1, a2, rfl, rfl, y1, y2⟩ := hat.out q hlt
      have hki : (q : Int) < (L.length : Int) := by omega
      have hS : Hid (∀ w', Ext w w' → w'.cell? ⟨r, 0, none⟩ = some (.slice (some a1) L.length c1) ∧ w'.cell? ⟨r, 1, none⟩ = some (.slice (some a2) L.length c2) ∧ w'.cell? (a1.add q) = some (.string (tth L q).key) ∧ w'.cell? (a2.add q) = some (.int .i64 (tth L q).no)) := fun w' hx => ⟨hx.cell z0, hx.cell z1, hx.cell y1, hx.cell y2⟩
      replace z0 := hT.out.up.cell z0
      replace z1 := hT.out.up.cell z1
      replace y1 := hT.out.up.cell y1
      replace y2 := hT.out.up.cell y2
      replace lr := Nat.lt_of_lt_of_le lr hT.out.up.size
      have hno := hid (fun h => gth_no (lo := lo) (hi := hi) (most := most) hlt h)
      have hyes := hid (fun h => gth_yes (lo := lo) (hi := hi) (most := most) hlt h)
      have hfull := hid (gth_full (lo := lo) (hi := hi) (most := most) hlt)
      have hbet : Hid (betB lo hi (tth L q) = (!decide (cmpK (tth L q).key lo < 0) && (decide (hi = ⟨#[]⟩) || decide (cmpK (tth L q).key hi < 0)))) := rfl
      have hl1 : Hid (Op.bytesLess (tth L q).key.toList lo.toList = decide (cmpK (tth L q).key lo < 0)) := by unfold Hid; rw [ByteArray.toList_eq, ByteArray.toList_eq]; exact less_cmp _ _
      have hl2 : Hid (Op.bytesLess (tth L q).key.toList hi.toList = decide (cmpK (tth L q).key hi < 0)) := by unfold Hid; rw [ByteArray.toList_eq, ByteArray.toList_eq]; exact less_cmp _ _
      generalize hM : gthT L lo hi most q = M at *
      replace hM := hid hM
      generalize tth L q = x at *
      by_cases hlo : cmpK x.key lo < 0
      · have b1 : Op.bytesLess x.key.toList lo.toList = true := hl1.out.trans (decide_eq_true hlo)
        have hM1 := hid (hno.out (by rw [hbet.out, decide_eq_true hlo]; rfl))
        clear hno hyes hfull hbet hl1 hl2 hlo hat hS
        go_wp2_with fail
        go_roundw
        case rel => exact ⟨q + 1, _, _, _, _, _, by omega, by go_num, rfl, rfl, by rw [hM1.out]; rfl, by rw [hM1.out]; exact hT.out⟩
        case measure => simp [intOf]; omega
      · have b1 : Op.bytesLess x.key.toList lo.toList = false := hl1.out.trans (decide_eq_false hlo)
        rw [decide_eq_false hlo] at hbet
        by_cases hhi : hi = ⟨#[]⟩
        · subst hhi
          have hb1 := hid (show betB lo ⟨#[]⟩ x = true from hbet.out)
          clear hl1 hl2 hlo hbet hat hno
          by_cases m1 : most < 0
          · have hM1 := hid (hyes.out hb1.out (.inl m1))
            clear hyes hfull hb1
            go_upto_region 7 with fail
            have I0 : (fun w' : World => w'.cell? ⟨r, 0, none⟩ = some (.slice (some a1) L.length c1) ∧ w'.cell? ⟨r, 1, none⟩ = some (.slice (some a2) L.length c2) ∧ w'.cell? (a1.add q) = some (.string x.key) ∧ w'.cell? (a2.add q) = some (.int .i64 x.no)) wr.drew := hS.out _ (hT.out.up.drew_right)
            refine region_J (fun w' : World => w'.cell? ⟨r, 0, none⟩ = some (.slice (some a1) L.length c1) ∧ w'.cell? ⟨r, 1, none⟩ = some (.slice (some a2) L.length c2) ∧ w'.cell? (a1.add q) = some (.string x.key) ∧ w'.cell? (a2.add q) = some (.int .i64 x.no)) 22 (by kernel_rfl) ?_
            replace hT : Hid (KR w wr.drew (.slice K1 M.length d1) (.slice K2 M.length d2) (M.map Te.key) (M.map Te.no)) := hT.out.ext (Ext.drewN wr 1)
            clear z0 z1 y1 y2
            generalize wr.drew = wr at *
            refine JO 0 (v := ?vax0) I0 ?yax0 ?rax0
            case yax0 => (intro w h; obtain ⟨_, _, _, _⟩ := h; go_simp; with_reducible rfl)
            simp only [Act.put, lyA, lyB, lyC, lyD, lyE, lyF]
            refine JO 1 (v := ?vax1) I0 ?yax1 ?rax1
            case yax1 => (intro w h; obtain ⟨_, _, _, _⟩ := h; go_simp; with_reducible rfl)
            simp only [Act.put, lyA, lyB, lyC, lyD, lyE, lyF]
            refine JO 2 (v := ?vax2) I0 ?yax2 ?rax2
            case yax2 => (intro w h; obtain ⟨_, _, _, _⟩ := h; go_simp; with_reducible rfl)
            simp only [Act.put, lyA, lyB, lyC, lyD, lyE, lyF]
            refine JO 3 (v := ?vax3) I0 ?yax3 ?rax3
            case yax3 => (intro w h; obtain ⟨_, _, _, _⟩ := h; go_simp; with_reducible rfl)
            simp only [Act.put, lyA, lyB, lyC, lyD, lyE, lyF]
            refine JO 4 (v := ?vax4) I0 ?yax4 ?rax4
            case yax4 => (intro w h; obtain ⟨_, _, _, _⟩ := h; go_simp; with_reducible rfl)
            simp only [Act.put, lyA, lyB, lyC, lyD, lyE, lyF]
            refine JO 5 (v := ?vax5) I0 ?yax5 ?rax5
            case yax5 => (intro w h; obtain ⟨_, _, _, _⟩ := h; go_simp; with_reducible rfl)
            simp only [Act.put, lyA, lyB, lyC, lyD, lyE, lyF]
            refine JO 6 (v := ?vax6) I0 ?yax6 ?rax6
            case yax6 => (intro w h; obtain ⟨_, _, _, _⟩ := h; go_simp; with_reducible rfl)
            simp only [Act.put, lyA, lyB, lyC, lyD, lyE, lyF]
            refine JO 7 (v := ?vax7) I0 ?yax7 ?rax7
            case yax7 => (intro w h; obtain ⟨_, _, _, _⟩ := h; go_simp; with_reducible rfl)
            simp only [Act.put, lyA, lyB, lyC, lyD, lyE, lyF]
            refine JO 10 (v := ?vax10) I0 ?yax10 ?rax10
            case yax10 => (intro w h; obtain ⟨_, _, _, _⟩ := h; go_simp; with_reducible rfl)
            simp only [Act.put, lyA, lyB, lyC, lyD, lyE, lyF]
            refine JO 11 (v := ?vax11) I0 ?yax11 ?rax11
            case yax11 => (intro w h; obtain ⟨_, _, _, _⟩ := h; go_simp; with_reducible rfl)
            simp only [Act.put, lyA, lyB, lyC, lyD, lyE, lyF]
            refine JO 12 (v := ?vax12) I0 ?yax12 ?rax12
            case yax12 => (intro w h; obtain ⟨_, _, _, _⟩ := h; go_simp; with_reducible rfl)
            simp only [Act.put, lyA, lyB, lyC, lyD, lyE, lyF]
            refine JO 13 (v := ?vax13) I0 ?yax13 ?rax13
            case yax13 => (intro w h; obtain ⟨_, _, _, _⟩ := h; go_simp; with_reducible rfl)
            simp only [Act.put, lyA, lyB, lyC, lyD, lyE, lyF]
            refine JO 14 (v := ?vax14) I0 ?yax14 ?rax14
            case yax14 => (intro w h; obtain ⟨_, _, _, _⟩ := h; go_simp; with_reducible rfl)
            simp only [Act.put, lyA, lyB, lyC, lyD, lyE, lyF]
            refine JO 15 (v := ?vax15) I0 ?yax15 ?rax15
            case yax15 => (intro w h; obtain ⟨_, _, _, _⟩ := h; go_simp; with_reducible rfl)
            simp only [Act.put, lyA, lyB, lyC, lyD, lyE, lyF]
            refine JO 16 (v := ?vax16) I0 ?yax16 ?rax16
            case yax16 => (intro w h; obtain ⟨_, _, _, _⟩ := h; go_simp; with_reducible rfl)
            simp only [Act.put, lyA, lyB, lyC, lyD, lyE, lyF]
            refine JO 17 (v := ?vax17) I0 ?yax17 ?rax17
            case yax17 => (intro w h; obtain ⟨_, _, _, _⟩ := h; go_simp; with_reducible rfl)
            simp only [Act.put, lyA, lyB, lyC, lyD, lyE, lyF]
            refine J_two 8 18 rfl rfl (by kernel_rfl) (fun K hK => ?_) (fun K hK => ?_)
            · go_simp
              have hTa := hid (hT.out.ext ((Ext.refl wr).alloc_right (.cells #[.string x.key] 9)))
              have rk := hid (rd_new1 wr (.string x.key) 9)
              have rk0 := hid ((hT.out.ob0 (Nat.le_refl wr.heap.size)))
              have rkl : Hid (wr.heap.size < (wr.alloc (.cells #[.string x.key] 9)).heap.size) := by unfold Hid; rw [World.size_alloc]; omega
              refine hK _ _ ⟨fun _ => hS.out _ hTa.out.up, ?_⟩
              clear hK K
              try simp only [Act.put, lyA, lyB, lyC, lyD, lyE, lyF]
              generalize wr.heap.size = qk at *
              generalize (wr.alloc (.cells #[.string x.key] 9)) = wa at *
              refine J_two 9 18 rfl rfl (by kernel_rfl) (fun K hK => ?_) (fun K hK => ?_)
              · obtain ⟨K1', d1', wb, hap1, hTb, hkp⟩ := hTa.out.appK (es := [x.key]) rk.out (by rw [List.length_map]; omega) 28
                replace hTb := hid hTb
                replace hap1 := hid hap1
                refine step_run rfl _ (ex_append _ _ _ _ rfl _ _ (by simp [Act.eval, Act.put]) (by simp [Act.eval, Act.put]) _ hap1.out) ?_
                refine hK _ _ ⟨fun _ => hS.out _ hTb.out.up, ?_⟩
                clear hK K
                try simp only [Act.put, lyA, lyB, lyC, lyD, lyE, lyF]
                clear hap1 hkp
                refine J_one 18 rfl (by kernel_rfl) (fun K hK => ?_)
                go_simp
                have hTc := hid (hTb.out.ext ((Ext.refl wb).alloc_right (.cells #[.int .i64 x.no] 3)))
                have rr := hid (rd_new1 wb (.int .i64 x.no) 3)
                have rr0 := hid ((hTb.out.ob0 (Nat.le_refl wb.heap.size)))
                have rrl : Hid (wb.heap.size < (wb.alloc (.cells #[.int .i64 x.no] 3)).heap.size) := by unfold Hid; rw [World.size_alloc]; omega
                refine hK _ _ ⟨fun _ => hS.out _ hTc.out.up, ?_⟩
                clear hK K
                try simp only [Act.put, lyA, lyB, lyC, lyD, lyE, lyF]
                generalize wb.heap.size = qr at *
                generalize (wb.alloc (.cells #[.int .i64 x.no] 3)) = wc at *
                refine J_one 19 rfl (by kernel_rfl) (fun K hK => ?_)
                obtain ⟨K2', d2', wd, hap1, hTd, hkp⟩ := hTc.out.appR (es := [x.no]) rr.out (by rw [List.length_map]; omega) 29
                replace hTd := hid hTd
                replace hap1 := hid hap1
                refine step_run rfl _ (ex_append _ _ _ _ rfl _ _ (by simp [Act.eval, Act.put]) (by simp [Act.eval, Act.put]) _ hap1.out) ?_
                refine hK _ _ ⟨fun _ => hS.out _ hTd.out.up, ?_⟩
                clear hK K
                try simp only [Act.put, lyA, lyB, lyC, lyD, lyE, lyF]
                clear hap1 hkp
                refine J_one 20 rfl (by kernel_rfl) (fun K hK => ?_)
                go_simp
                refine hK _ _ ⟨fun _ => hS.out _ hTd.out.up, ?_⟩
                clear hK K
                try simp only [Act.put, lyA, lyB, lyC, lyD, lyE, lyF]
                refine J_one 21 rfl (by kernel_rfl) (fun K hK => ?_)
                go_simp
                refine hK _ _ ⟨fun _ => hS.out _ hTd.out.up, ?_⟩
                clear hK K
                try simp only [Act.put, lyA, lyB, lyC, lyD, lyE, lyF]
                refine J_done (by kernel_rfl) (OnlyOn.normal ?_)
                clear I0 hS
                go_wp2_with fail
                go_roundw
                case rel => exact ⟨q + 1, _, _, _, _, _, by omega, by go_num, rfl, rfl, by rw [hM1.out]; simp [Hid], by rw [hM1.out, List.map_append, List.map_append]; have h9 := hTd.out; rw [show (M.map Te.key ++ [x.key]).length = M.length + 1 by simp, show (M.map Te.no ++ [x.no]).length = M.length + 1 by simp] at h9; exact h9⟩
                case measure => simp [intOf]; omega
              · go_simp
                have hTb := hid (hTa.out.ext ((Ext.refl wa).alloc_right (.cells #[.int .i64 x.no] 3)))
                have rr := hid (rd_new1 wa (.int .i64 x.no) 3)
                have rr0 := hid ((hTa.out.ob0 (Nat.le_refl wa.heap.size)))
                have rrl : Hid (wa.heap.size < (wa.alloc (.cells #[.int .i64 x.no] 3)).heap.size) := by unfold Hid; rw [World.size_alloc]; omega
                replace rk := hid (rk.out.ext ((Ext.refl wa).alloc_right (.cells #[.int .i64 x.no] 3)))
                replace rkl := hid (Nat.lt_of_lt_of_le rkl.out ((Ext.refl wa).alloc_right (.cells #[.int .i64 x.no] 3)).size)
                refine hK _ _ ⟨fun _ => hS.out _ hTb.out.up, ?_⟩
                clear hK K
                try simp only [Act.put, lyA, lyB, lyC, lyD, lyE, lyF]
                generalize wa.heap.size = qr at *
                generalize (wa.alloc (.cells #[.int .i64 x.no] 3)) = wb at *
                refine J_one 9 rfl (by kernel_rfl) (fun K hK => ?_)
                obtain ⟨K1', d1', wc, hap1, hTc, hkp⟩ := hTb.out.appK (es := [x.key]) rk.out (by rw [List.length_map]; omega) 28
                replace hTc := hid hTc
                replace rr := hid (hkp.rd rrl.out rr0.out.1 rr.out)
                replace rrl := hid (Nat.lt_of_lt_of_le rrl.out hkp.1)
                replace hap1 := hid hap1
                refine step_run rfl _ (ex_append _ _ _ _ rfl _ _ (by simp [Act.eval, Act.put]) (by simp [Act.eval, Act.put]) _ hap1.out) ?_
                refine hK _ _ ⟨fun _ => hS.out _ hTc.out.up, ?_⟩
                clear hK K
                try simp only [Act.put, lyA, lyB, lyC, lyD, lyE, lyF]
                clear hap1 hkp
                refine J_one 19 rfl (by kernel_rfl) (fun K hK => ?_)
                obtain ⟨K2', d2', wd, hap1, hTd, hkp⟩ := hTc.out.appR (es := [x.no]) rr.out (by rw [List.length_map]; omega) 29
                replace hTd := hid hTd
                replace hap1 := hid hap1
                refine step_run rfl _ (ex_append _ _ _ _ rfl _ _ (by simp [Act.eval, Act.put]) (by simp [Act.eval, Act.put]) _ hap1.out) ?_
                refine hK _ _ ⟨fun _ => hS.out _ hTd.out.up, ?_⟩
                clear hK K
                try simp only [Act.put, lyA, lyB, lyC, lyD, lyE, lyF]
                clear hap1 hkp
                refine J_one 20 rfl (by kernel_rfl) (fun K hK => ?_)
                go_simp
                refine hK _ _ ⟨fun _ => hS.out _ hTd.out.up, ?_⟩
                clear hK K
                try simp only [Act.put, lyA, lyB, lyC, lyD, lyE, lyF]
                refine J_one 21 rfl (by kernel_rfl) (fun K hK => ?_)
                go_simp
                refine hK _ _ ⟨fun _ => hS.out _ hTd.out.up, ?_⟩
                clear hK K
                try simp only [Act.put, lyA, lyB, lyC, lyD, lyE, lyF]
                refine J_done (by kernel_rfl) (OnlyOn.normal ?_)
                clear I0 hS
                go_wp2_with fail
                go_roundw
                case rel => exact ⟨q + 1, _, _, _, _, _, by omega, by go_num, rfl, rfl, by rw [hM1.out]; simp [Hid], by rw [hM1.out, List.map_append, List.map_append]; have h9 := hTd.out; rw [show (M.map Te.key ++ [x.key]).length = M.length + 1 by simp, show (M.map Te.no ++ [x.no]).length = M.length + 1 by simp] at h9; exact h9⟩
                case measure => simp [intOf]; omega
            · go_simp
              have hTa := hid (hT.out.ext ((Ext.refl wr).alloc_right (.cells #[.int .i64 x.no] 3)))
              have rr := hid (rd_new1 wr (.int .i64 x.no) 3)
              have rr0 := hid ((hT.out.ob0 (Nat.le_refl wr.heap.size)))
              have rrl : Hid (wr.heap.size < (wr.alloc (.cells #[.int .i64 x.no] 3)).heap.size) := by unfold Hid; rw [World.size_alloc]; omega
              refine hK _ _ ⟨fun _ => hS.out _ hTa.out.up, ?_⟩
              clear hK K
              try simp only [Act.put, lyA, lyB, lyC, lyD, lyE, lyF]
              generalize wr.heap.size = qr at *
              generalize (wr.alloc (.cells #[.int .i64 x.no] 3)) = wa at *
              refine J_one 8 rfl (by kernel_rfl) (fun K hK => ?_)
              go_simp
              have hTb := hid (hTa.out.ext ((Ext.refl wa).alloc_right (.cells #[.string x.key] 9)))
              have rk := hid (rd_new1 wa (.string x.key) 9)
              have rk0 := hid ((hTa.out.ob0 (Nat.le_refl wa.heap.size)))
              have rkl : Hid (wa.heap.size < (wa.alloc (.cells #[.string x.key] 9)).heap.size) := by unfold Hid; rw [World.size_alloc]; omega
              replace rr := hid (rr.out.ext ((Ext.refl wa).alloc_right (.cells #[.string x.key] 9)))
              replace rrl := hid (Nat.lt_of_lt_of_le rrl.out ((Ext.refl wa).alloc_right (.cells #[.string x.key] 9)).size)
              refine hK _ _ ⟨fun _ => hS.out _ hTb.out.up, ?_⟩
              clear hK K
              try simp only [Act.put, lyA, lyB, lyC, lyD, lyE, lyF]
              generalize wa.heap.size = qk at *
              generalize (wa.alloc (.cells #[.string x.key] 9)) = wb at *
              refine J_one 9 rfl (by kernel_rfl) (fun K hK => ?_)
              obtain ⟨K1', d1', wc, hap1, hTc, hkp⟩ := hTb.out.appK (es := [x.key]) rk.out (by rw [List.length_map]; omega) 28
              replace hTc := hid hTc
              replace rr := hid (hkp.rd rrl.out rr0.out.1 rr.out)
              replace rrl := hid (Nat.lt_of_lt_of_le rrl.out hkp.1)
              replace hap1 := hid hap1
              refine step_run rfl _ (ex_append _ _ _ _ rfl _ _ (by simp [Act.eval, Act.put]) (by simp [Act.eval, Act.put]) _ hap1.out) ?_
              refine hK _ _ ⟨fun _ => hS.out _ hTc.out.up, ?_⟩
              clear hK K
              try simp only [Act.put, lyA, lyB, lyC, lyD, lyE, lyF]
              clear hap1 hkp
              refine J_one 19 rfl (by kernel_rfl) (fun K hK => ?_)
              obtain ⟨K2', d2', wd, hap1, hTd, hkp⟩ := hTc.out.appR (es := [x.no]) rr.out (by rw [List.length_map]; omega) 29
              replace hTd := hid hTd
              replace hap1 := hid hap1
              refine step_run rfl _ (ex_append _ _ _ _ rfl _ _ (by simp [Act.eval, Act.put]) (by simp [Act.eval, Act.put]) _ hap1.out) ?_
              refine hK _ _ ⟨fun _ => hS.out _ hTd.out.up, ?_⟩
              clear hK K
              try simp only [Act.put, lyA, lyB, lyC, lyD, lyE, lyF]
              clear hap1 hkp
              refine J_one 20 rfl (by kernel_rfl) (fun K hK => ?_)
              go_simp
              refine hK _ _ ⟨fun _ => hS.out _ hTd.out.up, ?_⟩
              clear hK K
              try simp only [Act.put, lyA, lyB, lyC, lyD, lyE, lyF]
              refine J_one 21 rfl (by kernel_rfl) (fun K hK => ?_)
              go_simp
              refine hK _ _ ⟨fun _ => hS.out _ hTd.out.up, ?_⟩
              clear hK K
              try simp only [Act.put, lyA, lyB, lyC, lyD, lyE, lyF]
              refine J_done (by kernel_rfl) (OnlyOn.normal ?_)
              clear I0 hS
              go_wp2_with fail
              go_roundw
              case rel => exact ⟨q + 1, _, _, _, _, _, by omega, by go_num, rfl, rfl, by rw [hM1.out]; simp [Hid], by rw [hM1.out, List.map_append, List.map_append]; have h9 := hTd.out; rw [show (M.map Te.key ++ [x.key]).length = M.length + 1 by simp, show (M.map Te.no ++ [x.no]).length = M.length + 1 by simp] at h9; exact h9⟩
              case measure => simp [intOf]; omega
          · by_cases m2 : (M.length : Int) < most
            · have hM1 := hid (hyes.out hb1.out (.inr m2))
              clear hyes hfull hb1
              go_upto_region 7 with fail
              have I0 : (fun w' : World => w'.cell? ⟨r, 0, none⟩ = some (.slice (some a1) L.length c1) ∧ w'.cell? ⟨r, 1, none⟩ = some (.slice (some a2) L.length c2) ∧ w'.cell? (a1.add q) = some (.string x.key) ∧ w'.cell? (a2.add q) = some (.int .i64 x.no)) wr.drew := hS.out _ (hT.out.up.drew_right)
              refine region_J (fun w' : World => w'.cell? ⟨r, 0, none⟩ = some (.slice (some a1) L.length c1) ∧ w'.cell? ⟨r, 1, none⟩ = some (.slice (some a2) L.length c2) ∧ w'.cell? (a1.add q) = some (.string x.key) ∧ w'.cell? (a2.add q) = some (.int .i64 x.no)) 22 (by kernel_rfl) ?_
              replace hT : Hid (KR w wr.drew (.slice K1 M.length d1) (.slice K2 M.length d2) (M.map Te.key) (M.map Te.no)) := hT.out.ext (Ext.drewN wr 1)
              clear z0 z1 y1 y2
              generalize wr.drew = wr at *
              refine JO 0 (v := ?vay0) I0 ?yay0 ?ray0
              case yay0 => (intro w h; obtain ⟨_, _, _, _⟩ := h; go_simp; with_reducible rfl)
              simp only [Act.put, lyA, lyB, lyC, lyD, lyE, lyF]
              refine JO 1 (v := ?vay1) I0 ?yay1 ?ray1
              case yay1 => (intro w h; obtain ⟨_, _, _, _⟩ := h; go_simp; with_reducible rfl)
              simp only [Act.put, lyA, lyB, lyC, lyD, lyE, lyF]
              refine JO 2 (v := ?vay2) I0 ?yay2 ?ray2
              case yay2 => (intro w h; obtain ⟨_, _, _, _⟩ := h; go_simp; with_reducible rfl)
              simp only [Act.put, lyA, lyB, lyC, lyD, lyE, lyF]
              refine JO 3 (v := ?vay3) I0 ?yay3 ?ray3
              case yay3 => (intro w h; obtain ⟨_, _, _, _⟩ := h; go_simp; with_reducible rfl)
              simp only [Act.put, lyA, lyB, lyC, lyD, lyE, lyF]
              refine JO 4 (v := ?vay4) I0 ?yay4 ?ray4
              case yay4 => (intro w h; obtain ⟨_, _, _, _⟩ := h; go_simp; with_reducible rfl)
              simp only [Act.put, lyA, lyB, lyC, lyD, lyE, lyF]
              refine JO 5 (v := ?vay5) I0 ?yay5 ?ray5
              case yay5 => (intro w h; obtain ⟨_, _, _, _⟩ := h; go_simp; with_reducible rfl)
              simp only [Act.put, lyA, lyB, lyC, lyD, lyE, lyF]
              refine JO 6 (v := ?vay6) I0 ?yay6 ?ray6
              case yay6 => (intro w h; obtain ⟨_, _, _, _⟩ := h; go_simp; with_reducible rfl)
              simp only [Act.put, lyA, lyB, lyC, lyD, lyE, lyF]
              refine JO 7 (v := ?vay7) I0 ?yay7 ?ray7
              case yay7 => (intro w h; obtain ⟨_, _, _, _⟩ := h; go_simp; with_reducible rfl)
              simp only [Act.put, lyA, lyB, lyC, lyD, lyE, lyF]
              refine JO 10 (v := ?vay10) I0 ?yay10 ?ray10
              case yay10 => (intro w h; obtain ⟨_, _, _, _⟩ := h; go_simp; with_reducible rfl)
              simp only [Act.put, lyA, lyB, lyC, lyD, lyE, lyF]
              refine JO 11 (v := ?vay11) I0 ?yay11 ?ray11
              case yay11 => (intro w h; obtain ⟨_, _, _, _⟩ := h; go_simp; with_reducible rfl)
              simp only [Act.put, lyA, lyB, lyC, lyD, lyE, lyF]
              refine JO 12 (v := ?vay12) I0 ?yay12 ?ray12
              case yay12 => (intro w h; obtain ⟨_, _, _, _⟩ := h; go_simp; with_reducible rfl)
              simp only [Act.put, lyA, lyB, lyC, lyD, lyE, lyF]
              refine JO 13 (v := ?vay13) I0 ?yay13 ?ray13
              case yay13 => (intro w h; obtain ⟨_, _, _, _⟩ := h; go_simp; with_reducible rfl)
              simp only [Act.put, lyA, lyB, lyC, lyD, lyE, lyF]
              refine JO 14 (v := ?vay14) I0 ?yay14 ?ray14
              case yay14 => (intro w h; obtain ⟨_, _, _, _⟩ := h; go_simp; with_reducible rfl)
              simp only [Act.put, lyA, lyB, lyC, lyD, lyE, lyF]
              refine JO 15 (v := ?vay15) I0 ?yay15 ?ray15
              case yay15 => (intro w h; obtain ⟨_, _, _, _⟩ := h; go_simp; with_reducible rfl)
              simp only [Act.put, lyA, lyB, lyC, lyD, lyE, lyF]
              refine JO 16 (v := ?vay16) I0 ?yay16 ?ray16
              case yay16 => (intro w h; obtain ⟨_, _, _, _⟩ := h; go_simp; with_reducible rfl)
              simp only [Act.put, lyA, lyB, lyC, lyD, lyE, lyF]
              refine JO 17 (v := ?vay17) I0 ?yay17 ?ray17
              case yay17 => (intro w h; obtain ⟨_, _, _, _⟩ := h; go_simp; with_reducible rfl)
              simp only [Act.put, lyA, lyB, lyC, lyD, lyE, lyF]
              refine J_two 8 18 rfl rfl (by kernel_rfl) (fun K hK => ?_) (fun K hK => ?_)
              · go_simp
                have hTa := hid (hT.out.ext ((Ext.refl wr).alloc_right (.cells #[.string x.key] 9)))
                have rk := hid (rd_new1 wr (.string x.key) 9)
                have rk0 := hid ((hT.out.ob0 (Nat.le_refl wr.heap.size)))
                have rkl : Hid (wr.heap.size < (wr.alloc (.cells #[.string x.key] 9)).heap.size) := by unfold Hid; rw [World.size_alloc]; omega
                refine hK _ _ ⟨fun _ => hS.out _ hTa.out.up, ?_⟩
                clear hK K
                try simp only [Act.put, lyA, lyB, lyC, lyD, lyE, lyF]
                generalize wr.heap.size = qk at *
                generalize (wr.alloc (.cells #[.string x.key] 9)) = wa at *
                refine J_two 9 18 rfl rfl (by kernel_rfl) (fun K hK => ?_) (fun K hK => ?_)
                · obtain ⟨K1', d1', wb, hap1, hTb, hkp⟩ := hTa.out.appK (es := [x.key]) rk.out (by rw [List.length_map]; omega) 28
                  replace hTb := hid hTb
                  replace hap1 := hid hap1
                  refine step_run rfl _ (ex_append _ _ _ _ rfl _ _ (by simp [Act.eval, Act.put]) (by simp [Act.eval, Act.put]) _ hap1.out) ?_
                  refine hK _ _ ⟨fun _ => hS.out _ hTb.out.up, ?_⟩
                  clear hK K
                  try simp only [Act.put, lyA, lyB, lyC, lyD, lyE, lyF]
                  clear hap1 hkp
                  refine J_one 18 rfl (by kernel_rfl) (fun K hK => ?_)
                  go_simp
                  have hTc := hid (hTb.out.ext ((Ext.refl wb).alloc_right (.cells #[.int .i64 x.no] 3)))
                  have rr := hid (rd_new1 wb (.int .i64 x.no) 3)
                  have rr0 := hid ((hTb.out.ob0 (Nat.le_refl wb.heap.size)))
                  have rrl : Hid (wb.heap.size < (wb.alloc (.cells #[.int .i64 x.no] 3)).heap.size) := by unfold Hid; rw [World.size_alloc]; omega
                  refine hK _ _ ⟨fun _ => hS.out _ hTc.out.up, ?_⟩
                  clear hK K
                  try simp only [Act.put, lyA, lyB, lyC, lyD, lyE, lyF]
                  generalize wb.heap.size = qr at *
                  generalize (wb.alloc (.cells #[.int .i64 x.no] 3)) = wc at *
                  refine J_one 19 rfl (by kernel_rfl) (fun K hK => ?_)
                  obtain ⟨K2', d2', wd, hap1, hTd, hkp⟩ := hTc.out.appR (es := [x.no]) rr.out (by rw [List.length_map]; omega) 29
                  replace hTd := hid hTd
                  replace hap1 := hid hap1
                  refine step_run rfl _ (ex_append _ _ _ _ rfl _ _ (by simp [Act.eval, Act.put]) (by simp [Act.eval, Act.put]) _ hap1.out) ?_
                  refine hK _ _ ⟨fun _ => hS.out _ hTd.out.up, ?_⟩
                  clear hK K
                  try simp only [Act.put, lyA, lyB, lyC, lyD, lyE, lyF]
                  clear hap1 hkp
                  refine J_one 20 rfl (by kernel_rfl) (fun K hK => ?_)
                  go_simp
                  refine hK _ _ ⟨fun _ => hS.out _ hTd.out.up, ?_⟩
                  clear hK K
                  try simp only [Act.put, lyA, lyB, lyC, lyD, lyE, lyF]
                  refine J_one 21 rfl (by kernel_rfl) (fun K hK => ?_)
                  go_simp
                  refine hK _ _ ⟨fun _ => hS.out _ hTd.out.up, ?_⟩
                  clear hK K
                  try simp only [Act.put, lyA, lyB, lyC, lyD, lyE, lyF]
                  refine J_done (by kernel_rfl) (OnlyOn.normal ?_)
                  clear I0 hS
                  go_wp2_with fail
                  go_roundw
                  case rel => exact ⟨q + 1, _, _, _, _, _, by omega, by go_num, rfl, rfl, by rw [hM1.out]; simp [Hid], by rw [hM1.out, List.map_append, List.map_append]; have h9 := hTd.out; rw [show (M.map Te.key ++ [x.key]).length = M.length + 1 by simp, show (M.map Te.no ++ [x.no]).length = M.length + 1 by simp] at h9; exact h9⟩
                  case measure => simp [intOf]; omega
                · go_simp
                  have hTb := hid (hTa.out.ext ((Ext.refl wa).alloc_right (.cells #[.int .i64 x.no] 3)))
                  have rr := hid (rd_new1 wa (.int .i64 x.no) 3)
                  have rr0 := hid ((hTa.out.ob0 (Nat.le_refl wa.heap.size)))
                  have rrl : Hid (wa.heap.size < (wa.alloc (.cells #[.int .i64 x.no] 3)).heap.size) := by unfold Hid; rw [World.size_alloc]; omega
                  replace rk := hid (rk.out.ext ((Ext.refl wa).alloc_right (.cells #[.int .i64 x.no] 3)))
                  replace rkl := hid (Nat.lt_of_lt_of_le rkl.out ((Ext.refl wa).alloc_right (.cells #[.int .i64 x.no] 3)).size)
                  refine hK _ _ ⟨fun _ => hS.out _ hTb.out.up, ?_⟩
                  clear hK K
                  try simp only [Act.put, lyA, lyB, lyC, lyD, lyE, lyF]
                  generalize wa.heap.size = qr at *
                  generalize (wa.alloc (.cells #[.int .i64 x.no] 3)) = wb at *
                  refine J_one 9 rfl (by kernel_rfl) (fun K hK => ?_)
                  obtain ⟨K1', d1', wc, hap1, hTc, hkp⟩ := hTb.out.appK (es := [x.key]) rk.out (by rw [List.length_map]; omega) 28
                  replace hTc := hid hTc
                  replace rr := hid (hkp.rd rrl.out rr0.out.1 rr.out)
                  replace rrl := hid (Nat.lt_of_lt_of_le rrl.out hkp.1)
                  replace hap1 := hid hap1
                  refine step_run rfl _ (ex_append _ _ _ _ rfl _ _ (by simp [Act.eval, Act.put]) (by simp [Act.eval, Act.put]) _ hap1.out) ?_
                  refine hK _ _ ⟨fun _ => hS.out _ hTc.out.up, ?_⟩
                  clear hK K
                  try simp only [Act.put, lyA, lyB, lyC, lyD, lyE, lyF]
                  clear hap1 hkp
                  refine J_one 19 rfl (by kernel_rfl) (fun K hK => ?_)
                  obtain ⟨K2', d2', wd, hap1, hTd, hkp⟩ := hTc.out.appR (es := [x.no]) rr.out (by rw [List.length_map]; omega) 29
                  replace hTd := hid hTd
                  replace hap1 := hid hap1
                  refine step_run rfl _ (ex_append _ _ _ _ rfl _ _ (by simp [Act.eval, Act.put]) (by simp [Act.eval, Act.put]) _ hap1.out) ?_
                  refine hK _ _ ⟨fun _ => hS.out _ hTd.out.up, ?_⟩
                  clear hK K
                  try simp only [Act.put, lyA, lyB, lyC, lyD, lyE, lyF]
                  clear hap1 hkp
                  refine J_one 20 rfl (by kernel_rfl) (fun K hK => ?_)
                  go_simp
                  refine hK _ _ ⟨fun _ => hS.out _ hTd.out.up, ?_⟩
                  clear hK K
                  try simp only [Act.put, lyA, lyB, lyC, lyD, lyE, lyF]
                  refine J_one 21 rfl (by kernel_rfl) (fun K hK => ?_)
                  go_simp
                  refine hK _ _ ⟨fun _ => hS.out _ hTd.out.up, ?_⟩
                  clear hK K
                  try simp only [Act.put, lyA, lyB, lyC, lyD, lyE, lyF]
                  refine J_done (by kernel_rfl) (OnlyOn.normal ?_)
                  clear I0 hS
                  go_wp2_with fail
                  go_roundw
                  case rel => exact ⟨q + 1, _, _, _, _, _, by omega, by go_num, rfl, rfl, by rw [hM1.out]; simp [Hid], by rw [hM1.out, List.map_append, List.map_append]; have h9 := hTd.out; rw [show (M.map Te.key ++ [x.key]).length = M.length + 1 by simp, show (M.map Te.no ++ [x.no]).length = M.length + 1 by simp] at h9; exact h9⟩
                  case measure => simp [intOf]; omega
              · go_simp
                have hTa := hid (hT.out.ext ((Ext.refl wr).alloc_right (.cells #[.int .i64 x.no] 3)))
                have rr := hid (rd_new1 wr (.int .i64 x.no) 3)
                have rr0 := hid ((hT.out.ob0 (Nat.le_refl wr.heap.size)))
                have rrl : Hid (wr.heap.size < (wr.alloc (.cells #[.int .i64 x.no] 3)).heap.size) := by unfold Hid; rw [World.size_alloc]; omega
                refine hK _ _ ⟨fun _ => hS.out _ hTa.out.up, ?_⟩
                clear hK K
                try simp only [Act.put, lyA, lyB, lyC, lyD, lyE, lyF]
                generalize wr.heap.size = qr at *
                generalize (wr.alloc (.cells #[.int .i64 x.no] 3)) = wa at *
                refine J_one 8 rfl (by kernel_rfl) (fun K hK => ?_)
                go_simp
                have hTb := hid (hTa.out.ext ((Ext.refl wa).alloc_right (.cells #[.string x.key] 9)))
                have rk := hid (rd_new1 wa (.string x.key) 9)
                have rk0 := hid ((hTa.out.ob0 (Nat.le_refl wa.heap.size)))
                have rkl : Hid (wa.heap.size < (wa.alloc (.cells #[.string x.key] 9)).heap.size) := by unfold Hid; rw [World.size_alloc]; omega
                replace rr := hid (rr.out.ext ((Ext.refl wa).alloc_right (.cells #[.string x.key] 9)))
                replace rrl := hid (Nat.lt_of_lt_of_le rrl.out ((Ext.refl wa).alloc_right (.cells #[.string x.key] 9)).size)
                refine hK _ _ ⟨fun _ => hS.out _ hTb.out.up, ?_⟩
                clear hK K
                try simp only [Act.put, lyA, lyB, lyC, lyD, lyE, lyF]
                generalize wa.heap.size = qk at *
                generalize (wa.alloc (.cells #[.string x.key] 9)) = wb at *
                refine J_one 9 rfl (by kernel_rfl) (fun K hK => ?_)
                obtain ⟨K1', d1', wc, hap1, hTc, hkp⟩ := hTb.out.appK (es := [x.key]) rk.out (by rw [List.length_map]; omega) 28
                replace hTc := hid hTc
                replace rr := hid (hkp.rd rrl.out rr0.out.1 rr.out)
                replace rrl := hid (Nat.lt_of_lt_of_le rrl.out hkp.1)
                replace hap1 := hid hap1
                refine step_run rfl _ (ex_append _ _ _ _ rfl _ _ (by simp [Act.eval, Act.put]) (by simp [Act.eval, Act.put]) _ hap1.out) ?_
                refine hK _ _ ⟨fun _ => hS.out _ hTc.out.up, ?_⟩
                clear hK K
                try simp only [Act.put, lyA, lyB, lyC, lyD, lyE, lyF]
                clear hap1 hkp
                refine J_one 19 rfl (by kernel_rfl) (fun K hK => ?_)
                obtain ⟨K2', d2', wd, hap1, hTd, hkp⟩ := hTc.out.appR (es := [x.no]) rr.out (by rw [List.length_map]; omega) 29
                replace hTd := hid hTd
                replace hap1 := hid hap1
                refine step_run rfl _ (ex_append _ _ _ _ rfl _ _ (by simp [Act.eval, Act.put]) (by simp [Act.eval, Act.put]) _ hap1.out) ?_
                refine hK _ _ ⟨fun _ => hS.out _ hTd.out.up, ?_⟩
                clear hK K
                try simp only [Act.put, lyA, lyB, lyC, lyD, lyE, lyF]
                clear hap1 hkp
                refine J_one 20 rfl (by kernel_rfl) (fun K hK => ?_)
                go_simp
                refine hK _ _ ⟨fun _ => hS.out _ hTd.out.up, ?_⟩
                clear hK K
                try simp only [Act.put, lyA, lyB, lyC, lyD, lyE, lyF]
                refine J_one 21 rfl (by kernel_rfl) (fun K hK => ?_)
                go_simp
                refine hK _ _ ⟨fun _ => hS.out _ hTd.out.up, ?_⟩
                clear hK K
                try simp only [Act.put, lyA, lyB, lyC, lyD, lyE, lyF]
                refine J_done (by kernel_rfl) (OnlyOn.normal ?_)
                clear I0 hS
                go_wp2_with fail
                go_roundw
                case rel => exact ⟨q + 1, _, _, _, _, _, by omega, by go_num, rfl, rfl, by rw [hM1.out]; simp [Hid], by rw [hM1.out, List.map_append, List.map_append]; have h9 := hTd.out; rw [show (M.map Te.key ++ [x.key]).length = M.length + 1 by simp, show (M.map Te.no ++ [x.no]).length = M.length + 1 by simp] at h9; exact h9⟩
                case measure => simp [intOf]; omega
            · have hM1 := hid (hfull.out (by omega) (by omega))
              clear hyes hfull hb1 hS
              go_wp2_with fail
              go_roundw
              case rel => exact ⟨q + 1, _, _, _, _, _, by omega, by go_num, rfl, rfl, by rw [hM1.out]; rfl, by rw [hM1.out]; exact hT.out⟩
              case measure => simp [intOf]; omega
        · have hhe : hi.toList.isEmpty = false := by
            cases he : hi.toList.isEmpty with
            | false => rfl
            | true => exact absurd (empty_is he) hhi
          rw [decide_eq_false hhi] at hbet
          by_cases hh2 : cmpK x.key hi < 0
          · have b2 : Op.bytesLess x.key.toList hi.toList = true := hl2.out.trans (decide_eq_true hh2)
            have hb1 := hid (show betB lo hi x = true by rw [hbet.out, decide_eq_true hh2]; rfl)
            clear hl1 hl2 hlo hbet hat hno hh2 hhi
            by_cases m1 : most < 0
            · have hM1 := hid (hyes.out hb1.out (.inl m1))
              clear hyes hfull hb1
              go_upto_region 7 with fail
              have I0 : (fun w' : World => w'.cell? ⟨r, 0, none⟩ = some (.slice (some a1) L.length c1) ∧ w'.cell? ⟨r, 1, none⟩ = some (.slice (some a2) L.length c2) ∧ w'.cell? (a1.add q) = some (.string x.key) ∧ w'.cell? (a2.add q) = some (.int .i64 x.no)) wr.drew := hS.out _ (hT.out.up.drew_right)
              refine region_J (fun w' : World => w'.cell? ⟨r, 0, none⟩ = some (.slice (some a1) L.length c1) ∧ w'.cell? ⟨r, 1, none⟩ = some (.slice (some a2) L.length c2) ∧ w'.cell? (a1.add q) = some (.string x.key) ∧ w'.cell? (a2.add q) = some (.int .i64 x.no)) 22 (by kernel_rfl) ?_
              replace hT : Hid (KR w wr.drew (.slice K1 M.length d1) (.slice K2 M.length d2) (M.map Te.key) (M.map Te.no)) := hT.out.ext (Ext.drewN wr 1)
              clear z0 z1 y1 y2
              generalize wr.drew = wr at *
              refine JO 0 (v := ?vbx0) I0 ?ybx0 ?rbx0
              case ybx0 => (intro w h; obtain ⟨_, _, _, _⟩ := h; go_simp; with_reducible rfl)
              simp only [Act.put, lyA, lyB, lyC, lyD, lyE, lyF]
              refine JO 1 (v := ?vbx1) I0 ?ybx1 ?rbx1
              case ybx1 => (intro w h; obtain ⟨_, _, _, _⟩ := h; go_simp; with_reducible rfl)
              simp only [Act.put, lyA, lyB, lyC, lyD, lyE, lyF]
              refine JO 2 (v := ?vbx2) I0 ?ybx2 ?rbx2
              case ybx2 => (intro w h; obtain ⟨_, _, _, _⟩ := h; go_simp; with_reducible rfl)
              simp only [Act.put, lyA, lyB, lyC, lyD, lyE, lyF]
              refine JO 3 (v := ?vbx3) I0 ?ybx3 ?rbx3
              case ybx3 => (intro w h; obtain ⟨_, _, _, _⟩ := h; go_simp; with_reducible rfl)
              simp only [Act.put, lyA, lyB, lyC, lyD, lyE, lyF]
              refine JO 4 (v := ?vbx4) I0 ?ybx4 ?rbx4
              case ybx4 => (intro w h; obtain ⟨_, _, _, _⟩ := h; go_simp; with_reducible rfl)
              simp only [Act.put, lyA, lyB, lyC, lyD, lyE, lyF]
              refine JO 5 (v := ?vbx5) I0 ?ybx5 ?rbx5
              case ybx5 => (intro w h; obtain ⟨_, _, _, _⟩ := h; go_simp; with_reducible rfl)
              simp only [Act.put, lyA, lyB, lyC, lyD, lyE, lyF]
              refine JO 6 (v := ?vbx6) I0 ?ybx6 ?rbx6
              case ybx6 => (intro w h; obtain ⟨_, _, _, _⟩ := h; go_simp; with_reducible rfl)
              simp only [Act.put, lyA, lyB, lyC, lyD, lyE, lyF]
              refine JO 7 (v := ?vbx7) I0 ?ybx7 ?rbx7
              case ybx7 => (intro w h; obtain ⟨_, _, _, _⟩ := h; go_simp; with_reducible rfl)
              simp only [Act.put, lyA, lyB, lyC, lyD, lyE, lyF]
              refine JO 10 (v := ?vbx10) I0 ?ybx10 ?rbx10
              case ybx10 => (intro w h; obtain ⟨_, _, _, _⟩ := h; go_simp; with_reducible rfl)
              simp only [Act.put, lyA, lyB, lyC, lyD, lyE, lyF]
              refine JO 11 (v := ?vbx11) I0 ?ybx11 ?rbx11
              case ybx11 => (intro w h; obtain ⟨_, _, _, _⟩ := h; go_simp; with_reducible rfl)
              simp only [Act.put, lyA, lyB, lyC, lyD, lyE, lyF]
              refine JO 12 (v := ?vbx12) I0 ?ybx12 ?rbx12
              case ybx12 => (intro w h; obtain ⟨_, _, _, _⟩ := h; go_simp; with_reducible rfl)
              simp only [Act.put, lyA, lyB, lyC, lyD, lyE, lyF]
              refine JO 13 (v := ?vbx13) I0 ?ybx13 ?rbx13
              case ybx13 => (intro w h; obtain ⟨_, _, _, _⟩ := h; go_simp; with_reducible rfl)
              simp only [Act.put, lyA, lyB, lyC, lyD, lyE, lyF]
              refine JO 14 (v := ?vbx14) I0 ?ybx14 ?rbx14
              case ybx14 => (intro w h; obtain ⟨_, _, _, _⟩ := h; go_simp; with_reducible rfl)
              simp only [Act.put, lyA, lyB, lyC, lyD, lyE, lyF]
              refine JO 15 (v := ?vbx15) I0 ?ybx15 ?rbx15
              case ybx15 => (intro w h; obtain ⟨_, _, _, _⟩ := h; go_simp; with_reducible rfl)
              simp only [Act.put, lyA, lyB, lyC, lyD, lyE, lyF]
              refine JO 16 (v := ?vbx16) I0 ?ybx16 ?rbx16
              case ybx16 => (intro w h; obtain ⟨_, _, _, _⟩ := h; go_simp; with_reducible rfl)
              simp only [Act.put, lyA, lyB, lyC, lyD, lyE, lyF]
              refine JO 17 (v := ?vbx17) I0 ?ybx17 ?rbx17
              case ybx17 => (intro w h; obtain ⟨_, _, _, _⟩ := h; go_simp; with_reducible rfl)
              simp only [Act.put, lyA, lyB, lyC, lyD, lyE, lyF]
              refine J_two 8 18 rfl rfl (by kernel_rfl) (fun K hK => ?_) (fun K hK => ?_)
              · go_simp
                have hTa := hid (hT.out.ext ((Ext.refl wr).alloc_right (.cells #[.string x.key] 9)))
                have rk := hid (rd_new1 wr (.string x.key) 9)
                have rk0 := hid ((hT.out.ob0 (Nat.le_refl wr.heap.size)))
                have rkl : Hid (wr.heap.size < (wr.alloc (.cells #[.string x.key] 9)).heap.size) := by unfold Hid; rw [World.size_alloc]; omega
                refine hK _ _ ⟨fun _ => hS.out _ hTa.out.up, ?_⟩
                clear hK K
                try simp only [Act.put, lyA, lyB, lyC, lyD, lyE, lyF]
                generalize wr.heap.size = qk at *
                generalize (wr.alloc (.cells #[.string x.key] 9)) = wa at *
                refine J_two 9 18 rfl rfl (by kernel_rfl) (fun K hK => ?_) (fun K hK => ?_)
                · obtain ⟨K1', d1', wb, hap1, hTb, hkp⟩ := hTa.out.appK (es := [x.key]) rk.out (by rw [List.length_map]; omega) 28
                  replace hTb := hid hTb
                  replace hap1 := hid hap1
                  refine step_run rfl _ (ex_append _ _ _ _ rfl _ _ (by simp [Act.eval, Act.put]) (by simp [Act.eval, Act.put]) _ hap1.out) ?_
                  refine hK _ _ ⟨fun _ => hS.out _ hTb.out.up, ?_⟩
                  clear hK K
                  try simp only [Act.put, lyA, lyB, lyC, lyD, lyE, lyF]
                  clear hap1 hkp
                  refine J_one 18 rfl (by kernel_rfl) (fun K hK => ?_)
                  go_simp
                  have hTc := hid (hTb.out.ext ((Ext.refl wb).alloc_right (.cells #[.int .i64 x.no] 3)))
                  have rr := hid (rd_new1 wb (.int .i64 x.no) 3)
                  have rr0 := hid ((hTb.out.ob0 (Nat.le_refl wb.heap.size)))
                  have rrl : Hid (wb.heap.size < (wb.alloc (.cells #[.int .i64 x.no] 3)).heap.size) := by unfold Hid; rw [World.size_alloc]; omega
                  refine hK _ _ ⟨fun _ => hS.out _ hTc.out.up, ?_⟩
                  clear hK K
                  try simp only [Act.put, lyA, lyB, lyC, lyD, lyE, lyF]
                  generalize wb.heap.size = qr at *
                  generalize (wb.alloc (.cells #[.int .i64 x.no] 3)) = wc at *
                  refine J_one 19 rfl (by kernel_rfl) (fun K hK => ?_)
                  obtain ⟨K2', d2', wd, hap1, hTd, hkp⟩ := hTc.out.appR (es := [x.no]) rr.out (by rw [List.length_map]; omega) 29
                  replace hTd := hid hTd
                  replace hap1 := hid hap1
                  refine step_run rfl _ (ex_append _ _ _ _ rfl _ _ (by simp [Act.eval, Act.put]) (by simp [Act.eval, Act.put]) _ hap1.out) ?_
                  refine hK _ _ ⟨fun _ => hS.out _ hTd.out.up, ?_⟩
                  clear hK K
                  try simp only [Act.put, lyA, lyB, lyC, lyD, lyE, lyF]
                  clear hap1 hkp
                  refine J_one 20 rfl (by kernel_rfl) (fun K hK => ?_)
                  go_simp
                  refine hK _ _ ⟨fun _ => hS.out _ hTd.out.up, ?_⟩
                  clear hK K
                  try simp only [Act.put, lyA, lyB, lyC, lyD, lyE, lyF]
                  refine J_one 21 rfl (by kernel_rfl) (fun K hK => ?_)
                  go_simp
                  refine hK _ _ ⟨fun _ => hS.out _ hTd.out.up, ?_⟩
                  clear hK K
                  try simp only [Act.put, lyA, lyB, lyC, lyD, lyE, lyF]
                  refine J_done (by kernel_rfl) (OnlyOn.normal ?_)
                  clear I0 hS
                  go_wp2_with fail
                  go_roundw
                  case rel => exact ⟨q + 1, _, _, _, _, _, by omega, by go_num, rfl, rfl, by rw [hM1.out]; simp [Hid], by rw [hM1.out, List.map_append, List.map_append]; have h9 := hTd.out; rw [show (M.map Te.key ++ [x.key]).length = M.length + 1 by simp, show (M.map Te.no ++ [x.no]).length = M.length + 1 by simp] at h9; exact h9⟩
                  case measure => simp [intOf]; omega
                · go_simp
                  have hTb := hid (hTa.out.ext ((Ext.refl wa).alloc_right (.cells #[.int .i64 x.no] 3)))
                  have rr := hid (rd_new1 wa (.int .i64 x.no) 3)
                  have rr0 := hid ((hTa.out.ob0 (Nat.le_refl wa.heap.size)))
                  have rrl : Hid (wa.heap.size < (wa.alloc (.cells #[.int .i64 x.no] 3)).heap.size) := by unfold Hid; rw [World.size_alloc]; omega
                  replace rk := hid (rk.out.ext ((Ext.refl wa).alloc_right (.cells #[.int .i64 x.no] 3)))
                  replace rkl := hid (Nat.lt_of_lt_of_le rkl.out ((Ext.refl wa).alloc_right (.cells #[.int .i64 x.no] 3)).size)
                  refine hK _ _ ⟨fun _ => hS.out _ hTb.out.up, ?_⟩
                  clear hK K
                  try simp only [Act.put, lyA, lyB, lyC, lyD, lyE, lyF]
                  generalize wa.heap.size = qr at *
                  generalize (wa.alloc (.cells #[.int .i64 x.no] 3)) = wb at *
                  refine J_one 9 rfl (by kernel_rfl) (fun K hK => ?_)
                  obtain ⟨K1', d1', wc, hap1, hTc, hkp⟩ := hTb.out.appK (es := [x.key]) rk.out (by rw [List.length_map]; omega) 28
                  replace hTc := hid hTc
                  replace rr := hid (hkp.rd rrl.out rr0.out.1 rr.out)
                  replace rrl := hid (Nat.lt_of_lt_of_le rrl.out hkp.1)
                  replace hap1 := hid hap1
                  refine step_run rfl _ (ex_append _ _ _ _ rfl _ _ (by simp [Act.eval, Act.put]) (by simp [Act.eval, Act.put]) _ hap1.out) ?_
                  refine hK _ _ ⟨fun _ => hS.out _ hTc.out.up, ?_⟩
                  clear hK K
                  try simp only [Act.put, lyA, lyB, lyC, lyD, lyE, lyF]
                  clear hap1 hkp
                  refine J_one 19 rfl (by kernel_rfl) (fun K hK => ?_)
                  obtain ⟨K2', d2', wd, hap1, hTd, hkp⟩ := hTc.out.appR (es := [x.no]) rr.out (by rw [List.length_map]; omega) 29
                  replace hTd := hid hTd
                  replace hap1 := hid hap1
                  refine step_run rfl _ (ex_append _ _ _ _ rfl _ _ (by simp [Act.eval, Act.put]) (by simp [Act.eval, Act.put]) _ hap1.out) ?_
                  refine hK _ _ ⟨fun _ => hS.out _ hTd.out.up, ?_⟩
                  clear hK K
                  try simp only [Act.put, lyA, lyB, lyC, lyD, lyE, lyF]
                  clear hap1 hkp
                  refine J_one 20 rfl (by kernel_rfl) (fun K hK => ?_)
                  go_simp
                  refine hK _ _ ⟨fun _ => hS.out _ hTd.out.up, ?_⟩
                  clear hK K
                  try simp only [Act.put, lyA, lyB, lyC, lyD, lyE, lyF]
                  refine J_one 21 rfl (by kernel_rfl) (fun K hK => ?_)
                  go_simp
                  refine hK _ _ ⟨fun _ => hS.out _ hTd.out.up, ?_⟩
                  clear hK K
                  try simp only [Act.put, lyA, lyB, lyC, lyD, lyE, lyF]
                  refine J_done (by kernel_rfl) (OnlyOn.normal ?_)
                  clear I0 hS
                  go_wp2_with fail
                  go_roundw
                  case rel => exact ⟨q + 1, _, _, _, _, _, by omega, by go_num, rfl, rfl, by rw [hM1.out]; simp [Hid], by rw [hM1.out, List.map_append, List.map_append]; have h9 := hTd.out; rw [show (M.map Te.key ++ [x.key]).length = M.length + 1 by simp, show (M.map Te.no ++ [x.no]).length = M.length + 1 by simp] at h9; exact h9⟩
                  case measure => simp [intOf]; omega
              · go_simp
                have hTa := hid (hT.out.ext ((Ext.refl wr).alloc_right (.cells #[.int .i64 x.no] 3)))
                have rr := hid (rd_new1 wr (.int .i64 x.no) 3)
                have rr0 := hid ((hT.out.ob0 (Nat.le_refl wr.heap.size)))
                have rrl : Hid (wr.heap.size < (wr.alloc (.cells #[.int .i64 x.no] 3)).heap.size) := by unfold Hid; rw [World.size_alloc]; omega
                refine hK _ _ ⟨fun _ => hS.out _ hTa.out.up, ?_⟩
                clear hK K
                try simp only [Act.put, lyA, lyB, lyC, lyD, lyE, lyF]
                generalize wr.heap.size = qr at *
                generalize (wr.alloc (.cells #[.int .i64 x.no] 3)) = wa at *
                refine J_one 8 rfl (by kernel_rfl) (fun K hK => ?_)
                go_simp
                have hTb := hid (hTa.out.ext ((Ext.refl wa).alloc_right (.cells #[.string x.key] 9)))
                have rk := hid (rd_new1 wa (.string x.key) 9)
                have rk0 := hid ((hTa.out.ob0 (Nat.le_refl wa.heap.size)))
                have rkl : Hid (wa.heap.size < (wa.alloc (.cells #[.string x.key] 9)).heap.size) := by unfold Hid; rw [World.size_alloc]; omega
                replace rr := hid (rr.out.ext ((Ext.refl wa).alloc_right (.cells #[.string x.key] 9)))
                replace rrl := hid (Nat.lt_of_lt_of_le rrl.out ((Ext.refl wa).alloc_right (.cells #[.string x.key] 9)).size)
                refine hK _ _ ⟨fun _ => hS.out _ hTb.out.up, ?_⟩
                clear hK K
                try simp only [Act.put, lyA, lyB, lyC, lyD, lyE, lyF]
                generalize wa.heap.size = qk at *
                generalize (wa.alloc (.cells #[.string x.key] 9)) = wb at *
                refine J_one 9 rfl (by kernel_rfl) (fun K hK => ?_)
                obtain ⟨K1', d1', wc, hap1, hTc, hkp⟩ := hTb.out.appK (es := [x.key]) rk.out (by rw [List.length_map]; omega) 28
                replace hTc := hid hTc
                replace rr := hid (hkp.rd rrl.out rr0.out.1 rr.out)
                replace rrl := hid (Nat.lt_of_lt_of_le rrl.out hkp.1)
                replace hap1 := hid hap1
                refine step_run rfl _ (ex_append _ _ _ _ rfl _ _ (by simp [Act.eval, Act.put]) (by simp [Act.eval, Act.put]) _ hap1.out) ?_
                refine hK _ _ ⟨fun _ => hS.out _ hTc.out.up, ?_⟩
                clear hK K
                try simp only [Act.put, lyA, lyB, lyC, lyD, lyE, lyF]
                clear hap1 hkp
                refine J_one 19 rfl (by kernel_rfl) (fun K hK => ?_)
                obtain ⟨K2', d2', wd, hap1, hTd, hkp⟩ := hTc.out.appR (es := [x.no]) rr.out (by rw [List.length_map]; omega) 29
                replace hTd := hid hTd
                replace hap1 := hid hap1
                refine step_run rfl _ (ex_append _ _ _ _ rfl _ _ (by simp [Act.eval, Act.put]) (by simp [Act.eval, Act.put]) _ hap1.out) ?_
                refine hK _ _ ⟨fun _ => hS.out _ hTd.out.up, ?_⟩
                clear hK K
                try simp only [Act.put, lyA, lyB, lyC, lyD, lyE, lyF]
                clear hap1 hkp
                refine J_one 20 rfl (by kernel_rfl) (fun K hK => ?_)
                go_simp
                refine hK _ _ ⟨fun _ => hS.out _ hTd.out.up, ?_⟩
                clear hK K
                try simp only [Act.put, lyA, lyB, lyC, lyD, lyE, lyF]
                refine J_one 21 rfl (by kernel_rfl) (fun K hK => ?_)
                go_simp
                refine hK _ _ ⟨fun _ => hS.out _ hTd.out.up, ?_⟩
                clear hK K
                try simp only [Act.put, lyA, lyB, lyC, lyD, lyE, lyF]
                refine J_done (by kernel_rfl) (OnlyOn.normal ?_)
                clear I0 hS
                go_wp2_with fail
                go_roundw
                case rel => exact ⟨q + 1, _, _, _, _, _, by omega, by go_num, rfl, rfl, by rw [hM1.out]; simp [Hid], by rw [hM1.out, List.map_append, List.map_append]; have h9 := hTd.out; rw [show (M.map Te.key ++ [x.key]).length = M.length + 1 by simp, show (M.map Te.no ++ [x.no]).length = M.length + 1 by simp] at h9; exact h9⟩
                case measure => simp [intOf]; omega
            · by_cases m2 : (M.length : Int) < most
              · have hM1 := hid (hyes.out hb1.out (.inr m2))
                clear hyes hfull hb1
                go_upto_region 7 with fail
                have I0 : (fun w' : World => w'.cell? ⟨r, 0, none⟩ = some (.slice (some a1) L.length c1) ∧ w'.cell? ⟨r, 1, none⟩ = some (.slice (some a2) L.length c2) ∧ w'.cell? (a1.add q) = some (.string x.key) ∧ w'.cell? (a2.add q) = some (.int .i64 x.no)) wr.drew := hS.out _ (hT.out.up.drew_right)
                refine region_J (fun w' : World => w'.cell? ⟨r, 0, none⟩ = some (.slice (some a1) L.length c1) ∧ w'.cell? ⟨r, 1, none⟩ = some (.slice (some a2) L.length c2) ∧ w'.cell? (a1.add q) = some (.string x.key) ∧ w'.cell? (a2.add q) = some (.int .i64 x.no)) 22 (by kernel_rfl) ?_
                replace hT : Hid (KR w wr.drew (.slice K1 M.length d1) (.slice K2 M.length d2) (M.map Te.key) (M.map Te.no)) := hT.out.ext (Ext.drewN wr 1)
                clear z0 z1 y1 y2
                generalize wr.drew = wr at *
                refine JO 0 (v := ?vby0) I0 ?yby0 ?rby0
                case yby0 => (intro w h; obtain ⟨_, _, _, _⟩ := h; go_simp; with_reducible rfl)
                simp only [Act.put, lyA, lyB, lyC, lyD, lyE, lyF]
                refine JO 1 (v := ?vby1) I0 ?yby1 ?rby1
                case yby1 => (intro w h; obtain ⟨_, _, _, _⟩ := h; go_simp; with_reducible rfl)
                simp only [Act.put, lyA, lyB, lyC, lyD, lyE, lyF]
                refine JO 2 (v := ?vby2) I0 ?yby2 ?rby2
                case yby2 => (intro w h; obtain ⟨_, _, _, _⟩ := h; go_simp; with_reducible rfl)
                simp only [Act.put, lyA, lyB, lyC, lyD, lyE, lyF]
                refine JO 3 (v := ?vby3) I0 ?yby3 ?rby3
                case yby3 => (intro w h; obtain ⟨_, _, _, _⟩ := h; go_simp; with_reducible rfl)
                simp only [Act.put, lyA, lyB, lyC, lyD, lyE, lyF]
                refine JO 4 (v := ?vby4) I0 ?yby4 ?rby4
                case yby4 => (intro w h; obtain ⟨_, _, _, _⟩ := h; go_simp; with_reducible rfl)
                simp only [Act.put, lyA, lyB, lyC, lyD, lyE, lyF]
                refine JO 5 (v := ?vby5) I0 ?yby5 ?rby5
                case yby5 => (intro w h; obtain ⟨_, _, _, _⟩ := h; go_simp; with_reducible rfl)
                simp only [Act.put, lyA, lyB, lyC, lyD, lyE, lyF]
                refine JO 6 (v := ?vby6) I0 ?yby6 ?rby6
                case yby6 => (intro w h; obtain ⟨_, _, _, _⟩ := h; go_simp; with_reducible rfl)
                simp only [Act.put, lyA, lyB, lyC, lyD, lyE, lyF]
                refine JO 7 (v := ?vby7) I0 ?yby7 ?rby7
                case yby7 => (intro w h; obtain ⟨_, _, _, _⟩ := h; go_simp; with_reducible rfl)
                simp only [Act.put, lyA, lyB, lyC, lyD, lyE, lyF]
                refine JO 10 (v := ?vby10) I0 ?yby10 ?rby10
                case yby10 => (intro w h; obtain ⟨_, _, _, _⟩ := h; go_simp; with_reducible rfl)
                simp only [Act.put, lyA, lyB, lyC, lyD, lyE, lyF]
                refine JO 11 (v := ?vby11) I0 ?yby11 ?rby11
                case yby11 => (intro w h; obtain ⟨_, _, _, _⟩ := h; go_simp; with_reducible rfl)
                simp only [Act.put, lyA, lyB, lyC, lyD, lyE, lyF]
                refine JO 12 (v := ?vby12) I0 ?yby12 ?rby12
                case yby12 => (intro w h; obtain ⟨_, _, _, _⟩ := h; go_simp; with_reducible rfl)
                simp only [Act.put, lyA, lyB, lyC, lyD, lyE, lyF]
                refine JO 13 (v := ?vby13) I0 ?yby13 ?rby13
                case yby13 => (intro w h; obtain ⟨_, _, _, _⟩ := h; go_simp; with_reducible rfl)
                simp only [Act.put, lyA, lyB, lyC, lyD, lyE, lyF]
                refine JO 14 (v := ?vby14) I0 ?yby14 ?rby14
                case yby14 => (intro w h; obtain ⟨_, _, _, _⟩ := h; go_simp; with_reducible rfl)
                simp only [Act.put, lyA, lyB, lyC, lyD, lyE, lyF]
                refine JO 15 (v := ?vby15) I0 ?yby15 ?rby15
                case yby15 => (intro w h; obtain ⟨_, _, _, _⟩ := h; go_simp; with_reducible rfl)
                simp only [Act.put, lyA, lyB, lyC, lyD, lyE, lyF]
                refine JO 16 (v := ?vby16) I0 ?yby16 ?rby16
                case yby16 => (intro w h; obtain ⟨_, _, _, _⟩ := h; go_simp; with_reducible rfl)
                simp only [Act.put, lyA, lyB, lyC, lyD, lyE, lyF]
                refine JO 17 (v := ?vby17) I0 ?yby17 ?rby17
                case yby17 => (intro w h; obtain ⟨_, _, _, _⟩ := h; go_simp; with_reducible rfl)
                simp only [Act.put, lyA, lyB, lyC, lyD, lyE, lyF]
                refine J_two 8 18 rfl rfl (by kernel_rfl) (fun K hK => ?_) (fun K hK => ?_)
                · go_simp
                  have hTa := hid (hT.out.ext ((Ext.refl wr).alloc_right (.cells #[.string x.key] 9)))
                  have rk := hid (rd_new1 wr (.string x.key) 9)
                  have rk0 := hid ((hT.out.ob0 (Nat.le_refl wr.heap.size)))
                  have rkl : Hid (wr.heap.size < (wr.alloc (.cells #[.string x.key] 9)).heap.size) := by unfold Hid; rw [World.size_alloc]; omega
                  refine hK _ _ ⟨fun _ => hS.out _ hTa.out.up, ?_⟩
                  clear hK K
                  try simp only [Act.put, lyA, lyB, lyC, lyD, lyE, lyF]
                  generalize wr.heap.size = qk at *
                  generalize (wr.alloc (.cells #[.string x.key] 9)) = wa at *
                  refine J_two 9 18 rfl rfl (by kernel_rfl) (fun K hK => ?_) (fun K hK => ?_)
                  · obtain ⟨K1', d1', wb, hap1, hTb, hkp⟩ := hTa.out.appK (es := [x.key]) rk.out (by rw [List.length_map]; omega) 28
                    replace hTb := hid hTb
                    replace hap1 := hid hap1
                    refine step_run rfl _ (ex_append _ _ _ _ rfl _ _ (by simp [Act.eval, Act.put]) (by simp [Act.eval, Act.put]) _ hap1.out) ?_
                    refine hK _ _ ⟨fun _ => hS.out _ hTb.out.up, ?_⟩
                    clear hK K
                    try simp only [Act.put, lyA, lyB, lyC, lyD, lyE, lyF]
                    clear hap1 hkp
                    refine J_one 18 rfl (by kernel_rfl) (fun K hK => ?_)
                    go_simp
                    have hTc := hid (hTb.out.ext ((Ext.refl wb).alloc_right (.cells #[.int .i64 x.no] 3)))
                    have rr := hid (rd_new1 wb (.int .i64 x.no) 3)
                    have rr0 := hid ((hTb.out.ob0 (Nat.le_refl wb.heap.size)))
                    have rrl : Hid (wb.heap.size < (wb.alloc (.cells #[.int .i64 x.no] 3)).heap.size) := by unfold Hid; rw [World.size_alloc]; omega
                    refine hK _ _ ⟨fun _ => hS.out _ hTc.out.up, ?_⟩
                    clear hK K
                    try simp only [Act.put, lyA, lyB, lyC, lyD, lyE, lyF]
                    generalize wb.heap.size = qr at *
                    generalize (wb.alloc (.cells #[.int .i64 x.no] 3)) = wc at *
                    refine J_one 19 rfl (by kernel_rfl) (fun K hK => ?_)
                    obtain ⟨K2', d2', wd, hap1, hTd, hkp⟩ := hTc.out.appR (es := [x.no]) rr.out (by rw [List.length_map]; omega) 29
                    replace hTd := hid hTd
                    replace hap1 := hid hap1
                    refine step_run rfl _ (ex_append _ _ _ _ rfl _ _ (by simp [Act.eval, Act.put]) (by simp [Act.eval, Act.put]) _ hap1.out) ?_
                    refine hK _ _ ⟨fun _ => hS.out _ hTd.out.up, ?_⟩
                    clear hK K
                    try simp only [Act.put, lyA, lyB, lyC, lyD, lyE, lyF]
                    clear hap1 hkp
                    refine J_one 20 rfl (by kernel_rfl) (fun K hK => ?_)
                    go_simp
                    refine hK _ _ ⟨fun _ => hS.out _ hTd.out.up, ?_⟩
                    clear hK K
                    try simp only [Act.put, lyA, lyB, lyC, lyD, lyE, lyF]
                    refine J_one 21 rfl (by kernel_rfl) (fun K hK => ?_)
                    go_simp
                    refine hK _ _ ⟨fun _ => hS.out _ hTd.out.up, ?_⟩
                    clear hK K
                    try simp only [Act.put, lyA, lyB, lyC, lyD, lyE, lyF]
                    refine J_done (by kernel_rfl) (OnlyOn.normal ?_)
                    clear I0 hS
                    go_wp2_with fail
                    go_roundw
                    case rel => exact ⟨q + 1, _, _, _, _, _, by omega, by go_num, rfl, rfl, by rw [hM1.out]; simp [Hid], by rw [hM1.out, List.map_append, List.map_append]; have h9 := hTd.out; rw [show (M.map Te.key ++ [x.key]).length = M.length + 1 by simp, show (M.map Te.no ++ [x.no]).length = M.length + 1 by simp] at h9; exact h9⟩
                    case measure => simp [intOf]; omega
                  · go_simp
                    have hTb := hid (hTa.out.ext ((Ext.refl wa).alloc_right (.cells #[.int .i64 x.no] 3)))
                    have rr := hid (rd_new1 wa (.int .i64 x.no) 3)
                    have rr0 := hid ((hTa.out.ob0 (Nat.le_refl wa.heap.size)))
                    have rrl : Hid (wa.heap.size < (wa.alloc (.cells #[.int .i64 x.no] 3)).heap.size) := by unfold Hid; rw [World.size_alloc]; omega
                    replace rk := hid (rk.out.ext ((Ext.refl wa).alloc_right (.cells #[.int .i64 x.no] 3)))
                    replace rkl := hid (Nat.lt_of_lt_of_le rkl.out ((Ext.refl wa).alloc_right (.cells #[.int .i64 x.no] 3)).size)
                    refine hK _ _ ⟨fun _ => hS.out _ hTb.out.up, ?_⟩
                    clear hK K
                    try simp only [Act.put, lyA, lyB, lyC, lyD, lyE, lyF]
                    generalize wa.heap.size = qr at *
                    generalize (wa.alloc (.cells #[.int .i64 x.no] 3)) = wb at *
                    refine J_one 9 rfl (by kernel_rfl) (fun K hK => ?_)
                    obtain ⟨K1', d1', wc, hap1, hTc, hkp⟩ := hTb.out.appK (es := [x.key]) rk.out (by rw [List.length_map]; omega) 28
                    replace hTc := hid hTc
                    replace rr := hid (hkp.rd rrl.out rr0.out.1 rr.out)
                    replace rrl := hid (Nat.lt_of_lt_of_le rrl.out hkp.1)
                    replace hap1 := hid hap1
                    refine step_run rfl _ (ex_append _ _ _ _ rfl _ _ (by simp [Act.eval, Act.put]) (by simp [Act.eval, Act.put]) _ hap1.out) ?_
                    refine hK _ _ ⟨fun _ => hS.out _ hTc.out.up, ?_⟩
                    clear hK K
                    try simp only [Act.put, lyA, lyB, lyC, lyD, lyE, lyF]
                    clear hap1 hkp
                    refine J_one 19 rfl (by kernel_rfl) (fun K hK => ?_)
                    obtain ⟨K2', d2', wd, hap1, hTd, hkp⟩ := hTc.out.appR (es := [x.no]) rr.out (by rw [List.length_map]; omega) 29
                    replace hTd := hid hTd
                    replace hap1 := hid hap1
                    refine step_run rfl _ (ex_append _ _ _ _ rfl _ _ (by simp [Act.eval, Act.put]) (by simp [Act.eval, Act.put]) _ hap1.out) ?_
                    refine hK _ _ ⟨fun _ => hS.out _ hTd.out.up, ?_⟩
                    clear hK K
                    try simp only [Act.put, lyA, lyB, lyC, lyD, lyE, lyF]
                    clear hap1 hkp
                    refine J_one 20 rfl (by kernel_rfl) (fun K hK => ?_)
                    go_simp
                    refine hK _ _ ⟨fun _ => hS.out _ hTd.out.up, ?_⟩
                    clear hK K
                    try simp only [Act.put, lyA, lyB, lyC, lyD, lyE, lyF]
                    refine J_one 21 rfl (by kernel_rfl) (fun K hK => ?_)
                    go_simp
                    refine hK _ _ ⟨fun _ => hS.out _ hTd.out.up, ?_⟩
                    clear hK K
                    try simp only [Act.put, lyA, lyB, lyC, lyD, lyE, lyF]
                    refine J_done (by kernel_rfl) (OnlyOn.normal ?_)
                    clear I0 hS
                    go_wp2_with fail
                    go_roundw
                    case rel => exact ⟨q + 1, _, _, _, _, _, by omega, by go_num, rfl, rfl, by rw [hM1.out]; simp [Hid], by rw [hM1.out, List.map_append, List.map_append]; have h9 := hTd.out; rw [show (M.map Te.key ++ [x.key]).length = M.length + 1 by simp, show (M.map Te.no ++ [x.no]).length = M.length + 1 by simp] at h9; exact h9⟩
                    case measure => simp [intOf]; omega
                · go_simp
                  have hTa := hid (hT.out.ext ((Ext.refl wr).alloc_right (.cells #[.int .i64 x.no] 3)))
                  have rr := hid (rd_new1 wr (.int .i64 x.no) 3)
                  have rr0 := hid ((hT.out.ob0 (Nat.le_refl wr.heap.size)))
                  have rrl : Hid (wr.heap.size < (wr.alloc (.cells #[.int .i64 x.no] 3)).heap.size) := by unfold Hid; rw [World.size_alloc]; omega
                  refine hK _ _ ⟨fun _ => hS.out _ hTa.out.up, ?_⟩
                  clear hK K
                  try simp only [Act.put, lyA, lyB, lyC, lyD, lyE, lyF]
                  generalize wr.heap.size = qr at *
                  generalize (wr.alloc (.cells #[.int .i64 x.no] 3)) = wa at *
                  refine J_one 8 rfl (by kernel_rfl) (fun K hK => ?_)
                  go_simp
                  have hTb := hid (hTa.out.ext ((Ext.refl wa).alloc_right (.cells #[.string x.key] 9)))
                  have rk := hid (rd_new1 wa (.string x.key) 9)
                  have rk0 := hid ((hTa.out.ob0 (Nat.le_refl wa.heap.size)))
                  have rkl : Hid (wa.heap.size < (wa.alloc (.cells #[.string x.key] 9)).heap.size) := by unfold Hid; rw [World.size_alloc]; omega
                  replace rr := hid (rr.out.ext ((Ext.refl wa).alloc_right (.cells #[.string x.key] 9)))
                  replace rrl := hid (Nat.lt_of_lt_of_le rrl.out ((Ext.refl wa).alloc_right (.cells #[.string x.key] 9)).size)
                  refine hK _ _ ⟨fun _ => hS.out _ hTb.out.up, ?_⟩
                  clear hK K
                  try simp only [Act.put, lyA, lyB, lyC, lyD, lyE, lyF]
                  generalize wa.heap.size = qk at *
                  generalize (wa.alloc (.cells #[.string x.key] 9)) = wb at *
                  refine J_one 9 rfl (by kernel_rfl) (fun K hK => ?_)
                  obtain ⟨K1', d1', wc, hap1, hTc, hkp⟩ := hTb.out.appK (es := [x.key]) rk.out (by rw [List.length_map]; omega) 28
                  replace hTc := hid hTc
                  replace rr := hid (hkp.rd rrl.out rr0.out.1 rr.out)
                  replace rrl := hid (Nat.lt_of_lt_of_le rrl.out hkp.1)
                  replace hap1 := hid hap1
                  refine step_run rfl _ (ex_append _ _ _ _ rfl _ _ (by simp [Act.eval, Act.put]) (by simp [Act.eval, Act.put]) _ hap1.out) ?_
                  refine hK _ _ ⟨fun _ => hS.out _ hTc.out.up, ?_⟩
                  clear hK K
                  try simp only [Act.put, lyA, lyB, lyC, lyD, lyE, lyF]
                  clear hap1 hkp
                  refine J_one 19 rfl (by kernel_rfl) (fun K hK => ?_)
                  obtain ⟨K2', d2', wd, hap1, hTd, hkp⟩ := hTc.out.appR (es := [x.no]) rr.out (by rw [List.length_map]; omega) 29
                  replace hTd := hid hTd
                  replace hap1 := hid hap1
                  refine step_run rfl _ (ex_append _ _ _ _ rfl _ _ (by simp [Act.eval, Act.put]) (by simp [Act.eval, Act.put]) _ hap1.out) ?_
                  refine hK _ _ ⟨fun _ => hS.out _ hTd.out.up, ?_⟩
                  clear hK K
                  try simp only [Act.put, lyA, lyB, lyC, lyD, lyE, lyF]
                  clear hap1 hkp
                  refine J_one 20 rfl (by kernel_rfl) (fun K hK => ?_)
                  go_simp
                  refine hK _ _ ⟨fun _ => hS.out _ hTd.out.up, ?_⟩
                  clear hK K
                  try simp only [Act.put, lyA, lyB, lyC, lyD, lyE, lyF]
                  refine J_one 21 rfl (by kernel_rfl) (fun K hK => ?_)
                  go_simp
                  refine hK _ _ ⟨fun _ => hS.out _ hTd.out.up, ?_⟩
                  clear hK K
                  try simp only [Act.put, lyA, lyB, lyC, lyD, lyE, lyF]
                  refine J_done (by kernel_rfl) (OnlyOn.normal ?_)
                  clear I0 hS
                  go_wp2_with fail
                  go_roundw
                  case rel => exact ⟨q + 1, _, _, _, _, _, by omega, by go_num, rfl, rfl, by rw [hM1.out]; simp [Hid], by rw [hM1.out, List.map_append, List.map_append]; have h9 := hTd.out; rw [show (M.map Te.key ++ [x.key]).length = M.length + 1 by simp, show (M.map Te.no ++ [x.no]).length = M.length + 1 by simp] at h9; exact h9⟩
                  case measure => simp [intOf]; omega
              · have hM1 := hid (hfull.out (by omega) (by omega))
                clear hyes hfull hb1 hS
                go_wp2_with fail
                go_roundw
                case rel => exact ⟨q + 1, _, _, _, _, _, by omega, by go_num, rfl, rfl, by rw [hM1.out]; rfl, by rw [hM1.out]; exact hT.out⟩
                case measure => simp [intOf]; omega
          · have b2 : Op.bytesLess x.key.toList hi.toList = false := hl2.out.trans (decide_eq_false hh2)
            have hM1 := hid (hno.out (by rw [hbet.out, decide_eq_false hh2]; rfl))
            clear hno hyes hfull hbet hl1 hl2 hlo hat hh2 hhi hS
            go_wp2_with fail
            go_roundw
            case rel => exact ⟨q + 1, _, _, _, _, _, by omega, by go_num, rfl, rfl, by rw [hM1.out]; rfl, by rw [hM1.out]; exact hT.out⟩
            case measure => simp [intOf]; omega
    · obtain rfl : q = L.length := by omega
      replace z0 := hT.out.up.cell z0
      replace lr := Nat.lt_of_lt_of_le lr hT.out.up.size
      generalize gthT L lo hi most L.length = G at *
      obtain rfl : G = l := hend.out
      have hgive := hid (KR.give (L := G) hT.out (Ext.refl w))
      clear hT hat z1 hend hN
      go_wp2_with fail
      go_ret2
      exact hgive.out
theorem rCount_any (r : Nat) (L : List Te) (lo hi : ByteArray) (w : World) (h : RTr w r L) (hS : Srt L) (hl : L.length ≤ 10000) (l : List Te) (hl0 : Hid (l = betwT L lo hi)) : Calls Tryz.prog 37 #[.pointer (some ⟨r, 0, none⟩), .string lo, .string hi] w (Give (.int .i64 l.length) w) := by
  have hB := hid (rRange_any r L lo hi (-1) w h hS hl l (by unfold Hid rangeT; rw [if_pos (by decide)]; exact hl0.out))
  clear h hS hl0
  go_enter Tryz.func37, Tryz.ntmps37
  go_wp2_with fail
  refine hB.out.mono ?_
  rintro e w2 ⟨A1, c1, A2, c2, rfl, h1, h2, hx, -, -⟩
  have hmx := Rd.max h1
  clear h1 h2
  go_wp2
  go_ret
  exact ⟨rfl, hx⟩
end Go.Proofs.YtpijfiaecicpfaaGreat
