/-
  The reference's capitals, small letters and weights of a text.
-/
import Derived.Test.YtlhnabkfacmmnaaPg12
namespace Go.Proofs.Ytlhnabkfacmmnaa
open Go.RowKit
set_option linter.unusedVariables false
set_option linter.unusedSimpArgs false
attribute [local go_sem] conv_new
theorem byte_at (s : ByteArray) {k : Nat} (hlt : k < s.size) : ((s[k]'hlt).toNat : Int) = bth s.toList k := by
  have hk' : k < s.data.size := hlt
  simp only [bth, List.getD, ByteArray.toList_eq, Array.getElem?_toList]
  rw [show s.data[k]? = some s.data[k] by simp [hk']]
  rfl

set_option maxRecDepth 100000 in
set_option maxHeartbeats 2000000 in
theorem rUpper_any (s : ByteArray) (p : Int) (w : World) : Calls Try.prog 23 #[.string s, .int .i64 p] w (GiveSN (okA p s (mapS (fun x => upS_ x p) s)) (askE p [s]) w) := by
  by_cases h : askE p [s] = 0
  · have e1 : (askE p [s] != 0) = false := by simp [h]
    have Fin : Hid (okA p s (mapS (fun x => upS_ x p) s) = mapS (fun x => upS_ x p) s) := by unfold Hid okA; rw [if_pos h]
    have Fin2 := hid h
    have ho := ask_ok h
    have hp := hid ho.2
    have hsz : s.size ≤ 1000000 := by omega
    have hlen : Hid (s.toList.length = s.size) := by unfold Hid; rw [ByteArray.toList_eq]; rfl
    have hfin := hid (mpTo_all (fun x => upS_ x p) s.toList)
    clear ho h
    go_enter Try.func23, Try.ntmps23
    go_wp2_with fail
    refine (rasked_any 2048 _ _ _ [s] 0 _ _ _ [p] _ (((RdS.new1 w s 9).alloc (.cells #[.int .i64 p] 3) : RdS ((w.alloc (.cells #[.string s] 9)).alloc (.cells #[.int .i64 p] 3)) _ _ _ _)) (RdI.new1b w (.cells #[.string s] 9) p 3)).mono ?_
    rintro e w1 ⟨rfl, rfl⟩
    have hx1 := hid (((Ext.refl w).alloc_right (.cells #[.string s] 9)).alloc_right (.cells #[.int .i64 p] 3))
    rw [askR_E]
    generalize hw1 : (w.alloc (.cells #[.string s] 9)).alloc (.cells #[.int .i64 p] 3) = w1 at *
    clear hw1
    have hcap := capB_in w1 s hsz
    have hB := hid (newB_bk w1 s)
    have hE := hid (newB_ext w1 s)
    have hg : w1.heap.size < (newB w1 s).heap.size := by simp [newB]
    go_wp2_with fail
    go_loopw [8] (fun i wr => ∃ k : Nat, k ≤ s.size ∧ i = .int .i64 k ∧ Hid (Bk wr w1.heap.size s.size (mpTo (fun x => upS_ x p) s.toList k)) ∧ Hid (Ext w1 wr)) (fun i _ => s.size - (intOf i).toNat)
    case atStart => exact ⟨0, by omega, rfl, hB, hE⟩
    case round =>
      obtain ⟨k, hk, rfl, hb, hx⟩ := hrel
      by_cases hlt : k < s.size
      · have hlt' : k < s.toList.length := by rw [hlen.out]; exact hlt
        have hc := (hb.out.2 k hlt).1
        have hfree := (hb.out.2 k hlt).2
        have hxe := byte_at s hlt
        have hr := bth_in s.toList k
        have hst := mpTo_succ (fun x => upS_ x p) s.toList k hlt'
        rw [← hxe] at hr hst
        clear hlt' hxe
        have hst := hid hst
        go_wp2_with fail
        refine (rupper_any _ _ hp.out _ hr.1 hr.2).mono ?_
        rintro e w' ⟨rfl, rfl⟩
        have hw := upS_rng (p := p) hr.1 hr.2
        have hb2 := hid (hb.out.set hlt (upS_ (s[k].toNat : Int) p) hw.1 hw.2)
        have hx2 := hid (hx.out.set (p := ⟨w1.heap.size, k, none⟩) (Nat.le_refl _) (.int .u8 (upS_ (s[k].toNat : Int) p)))
        go_wp2
        go_roundw
        case rel => exact ⟨k + 1, by omega, by go_num, by rw [← hst.out]; exact hb2, hx2⟩
        case measure => simp [intOf]; omega
      · obtain rfl : k = s.size := by omega
        have hrd := hb.out.rd hcap.1 hcap.2
        have hcv := conv_RdB hrd
        rw [← hlen.out, hfin.out] at hcv
        rw [hlen.out] at hcv
        have hmap : strB (s.toList.map fun b => bOf (upS_ (b.toNat : Int) p)) = mapS (fun x => upS_ x p) s := rfl
        rw [hmap] at hcv
        clear hmap hrd
        go_wp2
        go_ret2
        exact ⟨by rw [Fin.out, Fin2.out]; rfl, hx1.out.trans hx.out⟩
  · have e1 : (askE p [s] != 0) = true := by simp [h]
    have Fin : Hid (okA p s (mapS (fun x => upS_ x p) s) = ByteArray.empty) := by unfold Hid okA; rw [if_neg h]
    clear h
    go_enter Try.func23, Try.ntmps23
    go_wp2_with fail
    refine (rasked_any 2048 _ _ _ [s] 0 _ _ _ [p] _ (((RdS.new1 w s 9).alloc (.cells #[.int .i64 p] 3) : RdS ((w.alloc (.cells #[.string s] 9)).alloc (.cells #[.int .i64 p] 3)) _ _ _ _)) (RdI.new1b w (.cells #[.string s] 9) p 3)).mono ?_
    rintro e w1 ⟨rfl, rfl⟩
    rw [askR_E]
    go_wp2
    go_ret2
    exact ⟨by rw [Fin.out]; rfl, ((Ext.refl w).alloc_right _).alloc_right _⟩

set_option maxRecDepth 100000 in
set_option maxHeartbeats 2000000 in
theorem rLower_any (s : ByteArray) (p : Int) (w : World) : Calls Try.prog 24 #[.string s, .int .i64 p] w (GiveSN (okA p s (mapS (fun x => lowS x p) s)) (askE p [s]) w) := by
  by_cases h : askE p [s] = 0
  · have e1 : (askE p [s] != 0) = false := by simp [h]
    have Fin : Hid (okA p s (mapS (fun x => lowS x p) s) = mapS (fun x => lowS x p) s) := by unfold Hid okA; rw [if_pos h]
    have Fin2 := hid h
    have ho := ask_ok h
    have hp := hid ho.2
    have hsz : s.size ≤ 1000000 := by omega
    have hlen : Hid (s.toList.length = s.size) := by unfold Hid; rw [ByteArray.toList_eq]; rfl
    have hfin := hid (mpTo_all (fun x => lowS x p) s.toList)
    clear ho h
    go_enter Try.func24, Try.ntmps24
    go_wp2_with fail
    refine (rasked_any 2048 _ _ _ [s] 0 _ _ _ [p] _ (((RdS.new1 w s 9).alloc (.cells #[.int .i64 p] 3) : RdS ((w.alloc (.cells #[.string s] 9)).alloc (.cells #[.int .i64 p] 3)) _ _ _ _)) (RdI.new1b w (.cells #[.string s] 9) p 3)).mono ?_
    rintro e w1 ⟨rfl, rfl⟩
    have hx1 := hid (((Ext.refl w).alloc_right (.cells #[.string s] 9)).alloc_right (.cells #[.int .i64 p] 3))
    rw [askR_E]
    generalize hw1 : (w.alloc (.cells #[.string s] 9)).alloc (.cells #[.int .i64 p] 3) = w1 at *
    clear hw1
    have hcap := capB_in w1 s hsz
    have hB := hid (newB_bk w1 s)
    have hE := hid (newB_ext w1 s)
    have hg : w1.heap.size < (newB w1 s).heap.size := by simp [newB]
    go_wp2_with fail
    go_loopw [8] (fun i wr => ∃ k : Nat, k ≤ s.size ∧ i = .int .i64 k ∧ Hid (Bk wr w1.heap.size s.size (mpTo (fun x => lowS x p) s.toList k)) ∧ Hid (Ext w1 wr)) (fun i _ => s.size - (intOf i).toNat)
    case atStart => exact ⟨0, by omega, rfl, hB, hE⟩
    case round =>
      obtain ⟨k, hk, rfl, hb, hx⟩ := hrel
      by_cases hlt : k < s.size
      · have hlt' : k < s.toList.length := by rw [hlen.out]; exact hlt
        have hc := (hb.out.2 k hlt).1
        have hfree := (hb.out.2 k hlt).2
        have hxe := byte_at s hlt
        have hr := bth_in s.toList k
        have hst := mpTo_succ (fun x => lowS x p) s.toList k hlt'
        rw [← hxe] at hr hst
        clear hlt' hxe
        have hst := hid hst
        go_wp2_with fail
        refine (rlower_any _ _ hp.out _ hr.1 hr.2).mono ?_
        rintro e w' ⟨rfl, rfl⟩
        have hw := lowS_rng (p := p) hr.1 hr.2
        have hb2 := hid (hb.out.set hlt (lowS (s[k].toNat : Int) p) hw.1 hw.2)
        have hx2 := hid (hx.out.set (p := ⟨w1.heap.size, k, none⟩) (Nat.le_refl _) (.int .u8 (lowS (s[k].toNat : Int) p)))
        go_wp2
        go_roundw
        case rel => exact ⟨k + 1, by omega, by go_num, by rw [← hst.out]; exact hb2, hx2⟩
        case measure => simp [intOf]; omega
      · obtain rfl : k = s.size := by omega
        have hrd := hb.out.rd hcap.1 hcap.2
        have hcv := conv_RdB hrd
        rw [← hlen.out, hfin.out] at hcv
        rw [hlen.out] at hcv
        have hmap : strB (s.toList.map fun b => bOf (lowS (b.toNat : Int) p)) = mapS (fun x => lowS x p) s := rfl
        rw [hmap] at hcv
        clear hmap hrd
        go_wp2
        go_ret2
        exact ⟨by rw [Fin.out, Fin2.out]; rfl, hx1.out.trans hx.out⟩
  · have e1 : (askE p [s] != 0) = true := by simp [h]
    have Fin : Hid (okA p s (mapS (fun x => lowS x p) s) = ByteArray.empty) := by unfold Hid okA; rw [if_neg h]
    clear h
    go_enter Try.func24, Try.ntmps24
    go_wp2_with fail
    refine (rasked_any 2048 _ _ _ [s] 0 _ _ _ [p] _ (((RdS.new1 w s 9).alloc (.cells #[.int .i64 p] 3) : RdS ((w.alloc (.cells #[.string s] 9)).alloc (.cells #[.int .i64 p] 3)) _ _ _ _)) (RdI.new1b w (.cells #[.string s] 9) p 3)).mono ?_
    rintro e w1 ⟨rfl, rfl⟩
    rw [askR_E]
    go_wp2
    go_ret2
    exact ⟨by rw [Fin.out]; rfl, ((Ext.refl w).alloc_right _).alloc_right _⟩

set_option maxRecDepth 100000 in
set_option maxHeartbeats 2000000 in
theorem rWeights_any (s : ByteArray) (p c : Int) (w : World) : Calls Try.prog 15 #[.string s, .int .i64 p, .int .i64 c] w (GiveSN (okC p c [s] (mapS (fun x => weightS x p c) s)) (askC p c [s]) w) := by
  by_cases h : askC p c [s] = 0
  · have e1 : (askC p c [s] != 0) = false := by simp [h]
    have Fin : Hid (okC p c [s] (mapS (fun x => weightS x p c) s) = mapS (fun x => weightS x p c) s) := by unfold Hid okC; rw [if_pos h]
    have Fin2 := hid h
    have ho := ask_ok (askC_ok h).1
    have hp := hid ho.2
    have hsz : s.size ≤ 1000000 := by omega
    have hlen : Hid (s.toList.length = s.size) := by unfold Hid; rw [ByteArray.toList_eq]; rfl
    have hfin := hid (mpTo_all (fun x => weightS x p c) s.toList)
    clear ho h
    go_enter Try.func15, Try.ntmps15
    go_wp2_with fail
    refine (rasked_any 2048 _ _ _ [s] c _ _ _ [p] _ (((RdS.new1 w s 9).alloc (.cells #[.int .i64 p] 3) : RdS ((w.alloc (.cells #[.string s] 9)).alloc (.cells #[.int .i64 p] 3)) _ _ _ _)) (RdI.new1b w (.cells #[.string s] 9) p 3)).mono ?_
    rintro e w1 ⟨rfl, rfl⟩
    have hx1 := hid (((Ext.refl w).alloc_right (.cells #[.string s] 9)).alloc_right (.cells #[.int .i64 p] 3))
    rw [askR_C]
    generalize hw1 : (w.alloc (.cells #[.string s] 9)).alloc (.cells #[.int .i64 p] 3) = w1 at *
    clear hw1
    have hcap := capB_in w1 s hsz
    have hB := hid (newB_bk w1 s)
    have hE := hid (newB_ext w1 s)
    have hg : w1.heap.size < (newB w1 s).heap.size := by simp [newB]
    go_wp2_with fail
    go_loopw [10] (fun i wr => ∃ k : Nat, k ≤ s.size ∧ i = .int .i64 k ∧ Hid (Bk wr w1.heap.size s.size (mpTo (fun x => weightS x p c) s.toList k)) ∧ Hid (Ext w1 wr)) (fun i _ => s.size - (intOf i).toNat)
    case atStart => exact ⟨0, by omega, rfl, hB, hE⟩
    case round =>
      obtain ⟨k, hk, rfl, hb, hx⟩ := hrel
      by_cases hlt : k < s.size
      · have hlt' : k < s.toList.length := by rw [hlen.out]; exact hlt
        have hc := (hb.out.2 k hlt).1
        have hfree := (hb.out.2 k hlt).2
        have hxe := byte_at s hlt
        have hr := bth_in s.toList k
        have hst := mpTo_succ (fun x => weightS x p c) s.toList k hlt'
        rw [← hxe] at hr hst
        clear hlt' hxe
        have hst := hid hst
        go_wp2_with fail
        refine (rweight_any _ _ _ hp.out _ hr.1 hr.2).mono ?_
        rintro e w' ⟨rfl, rfl⟩
        have hw := weight_rng (c := c) hp.out hr.1 hr.2
        have hb2 := hid (hb.out.set hlt (weightS (s[k].toNat : Int) p c) hw.1 hw.2)
        have hx2 := hid (hx.out.set (p := ⟨w1.heap.size, k, none⟩) (Nat.le_refl _) (.int .u8 (weightS (s[k].toNat : Int) p c)))
        go_wp2
        go_roundw
        case rel => exact ⟨k + 1, by omega, by go_num, by rw [← hst.out]; exact hb2, hx2⟩
        case measure => simp [intOf]; omega
      · obtain rfl : k = s.size := by omega
        have hrd := hb.out.rd hcap.1 hcap.2
        have hcv := conv_RdB hrd
        rw [← hlen.out, hfin.out] at hcv
        rw [hlen.out] at hcv
        have hmap : strB (s.toList.map fun b => bOf (weightS (b.toNat : Int) p c)) = mapS (fun x => weightS x p c) s := rfl
        rw [hmap] at hcv
        clear hmap hrd
        go_wp2
        go_ret2
        exact ⟨by rw [Fin.out, Fin2.out]; rfl, hx1.out.trans hx.out⟩
  · have e1 : (askC p c [s] != 0) = true := by simp [h]
    have Fin : Hid (okC p c [s] (mapS (fun x => weightS x p c) s) = ByteArray.empty) := by unfold Hid okC; rw [if_neg h]
    clear h
    go_enter Try.func15, Try.ntmps15
    go_wp2_with fail
    refine (rasked_any 2048 _ _ _ [s] c _ _ _ [p] _ (((RdS.new1 w s 9).alloc (.cells #[.int .i64 p] 3) : RdS ((w.alloc (.cells #[.string s] 9)).alloc (.cells #[.int .i64 p] 3)) _ _ _ _)) (RdI.new1b w (.cells #[.string s] 9) p 3)).mono ?_
    rintro e w1 ⟨rfl, rfl⟩
    rw [askR_C]
    go_wp2
    go_ret2
    exact ⟨by rw [Fin.out]; rfl, ((Ext.refl w).alloc_right _).alloc_right _⟩
end Go.Proofs.Ytlhnabkfacmmnaa
