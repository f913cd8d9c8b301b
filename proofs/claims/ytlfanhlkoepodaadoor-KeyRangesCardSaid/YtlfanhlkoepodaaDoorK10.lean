/-
  What the keys of texts begin with: the program and the reference.
-/
import Derived.Test.YtlfanhlkoepodaaDoorK7
import Derived.Deep.RegionWith
namespace Go.Proofs.YtlfanhlkoepodaaDoor
open Go.RowKit
set_option linter.unusedVariables false
set_option linter.unusedSimpArgs false
def preL (s : ByteArray) (p c : Int) : List UInt8 := byo 4 :: escL (wt s p c)
theorem preL_len (s : ByteArray) (p c : Int) : (preL s p c).length ≤ 97 := by unfold preL; have := escL_len (wt s p c); have := wt_len s p c; simp; omega
def prE (s : ByteArray) (p c : Int) : Int := if askV 4 0 s p c = 0 then (if 48 < s.size then 3 else 0) else askV 4 0 s p c
def prS (s : ByteArray) (p c : Int) (d : Bool) : ByteArray := if prE s p c = 0 then turnS d (strB (preL s p c)) else ByteArray.empty
theorem val4 (s : ByteArray) : valE 4 0 s = if 2048 < s.size then 3 else 0 := by unfold valE; rw [isV_4]; split <;> rfl
theorem prS_no {s : ByteArray} {p c : Int} {d : Bool} (h : prE s p c ≠ 0) : prS s p c d = ByteArray.empty := by unfold prS; rw [if_neg h]
theorem prS_yes {s : ByteArray} {p c : Int} {d : Bool} (h : prE s p c = 0) : prS s p c d = turnS d (strB (preL s p c)) := by unfold prS; rw [if_pos h]
theorem prE_1 {s : ByteArray} {p c : Int} (h : askV 4 0 s p c ≠ 0) : prE s p c = askV 4 0 s p c := by unfold prE; rw [if_neg h]
theorem prE_2 {s : ByteArray} {p c : Int} (h : askV 4 0 s p c = 0) (hl : 48 < s.size) : prE s p c = 3 := by unfold prE; rw [if_pos h, if_pos hl]
theorem prE_3 {s : ByteArray} {p c : Int} (h : askV 4 0 s p c = 0) (hl : ¬ 48 < s.size) : prE s p c = 0 := by unfold prE; rw [if_pos h, if_neg hl]
theorem pre_add (s : ByteArray) (p c : Int) : ∀ wx, (Op.stringOp .add (strB [byo 4]) (strB (escL (wt s p c)))).run Tryd.prog wx = .ok (.string (strB (preL s p c))) wx := by
  intro wx
  have := esc_size s p c
  rw [str_add (strB [byo 4]) (strB (escL (wt s p c))) (by rw [strB_size]; simp; omega) wx, strB_cons]
  rfl
theorem conv_ext {wx w' : World} {g : Nat} (hg : wx.heap.size = g) (h : Ext (wx.alloc (.cells #[.int .u8 4] 5)) w') : (convert 49 9 (.slice (some ⟨g, 0, none⟩) 1 1)).run Tryd.prog w' = .ok (.string (strB [byo 4])) w' := by
  subst hg
  have h0 : Pg.RdB (wx.alloc (.cells #[.int .u8 4] 5)) (some ⟨wx.heap.size, 0, none⟩) 1 1 [Pg.bOf 4] := by
    have := Pg.Rd.new_ wx [.int .u8 4] 5 1 rfl (by decide)
    rw [Pg.byt_of 4 (by omega) (by omega)] at this ⊢
    exact this
  exact Pg.conv_RdB (h0.ext h)
set_option maxRecDepth 100000 in
set_option maxHeartbeats 4000000 in
theorem Prefix_any (s : ByteArray) (p c : Int) (d : Bool) (w : World) (hm : ML w) : Calls Tryd.prog 27 #[.string s, .int .i64 p, .int .i64 c, .bool d] w (GiveSE (prS s p c d) (prE s p c) w) := by
  have ha := hid (fun w => asked_any 4 0 s p c w)
  unfold vV at ha
  by_cases he : askV 4 0 s p c = 0
  rotate_left
  · have d0 : (askV 4 0 s p c != 0) = true := by simpa using he
    have e1 := prE_1 he
    rw [prS_no (by rw [e1]; exact he), e1]
    clear he e1
    generalize askV 4 0 s p c = E at *
    go_enter Tryd.func27, Tryd.ntmps27
    go_wp2_with fail
    refine (ha.out _).mono ?_
    rintro e w2 ⟨rfl, hx⟩
    go_wp2
    go_ret2
    exact ⟨rfl, hx⟩
  by_cases hl : 48 < s.size
  · have d1 : decide ((48 : Int) < (s.size : Int)) = true := by simp; omega
    have e1 := prE_2 he hl
    rw [prS_no (by rw [e1]; decide), e1]
    rw [he] at ha
    clear he e1 hl
    go_enter Tryd.func27, Tryd.ntmps27
    go_wp2_with fail
    refine (ha.out _).mono ?_
    rintro e w2 ⟨rfl, hx⟩
    go_wp2
    go_ret2
    exact ⟨rfl, hx⟩
  have d1 : decide ((48 : Int) < (s.size : Int)) = false := by simp; omega
  have e1 := prE_3 he hl
  rw [prS_yes e1, e1]
  obtain ⟨hv, hco⟩ := askV_ok he
  have hW := hid (fun w hm => weights_any s p c hco w hm)
  have ad := pre_add s p c
  rw [he] at ha
  replace hm := hid hm
  clear he e1 hl hv hco
  cases d with
  | false =>
    rw [turnS_f]
    have hT := hid (fun w => turn1_any (strB (preL s p c)) w)
    generalize strB (preL s p c) = K at *
    
    generalize strB (escL (wt s p c)) = Y at *
    have ht := hid (fun w => turner_any false w)
    have en := enterT1
    go_enter Tryd.func27, Tryd.ntmps27
    go_wp2_with fail
    refine (ha.out _).mono ?_
    rintro e w2 ⟨rfl, hx2⟩
    replace hx2 := hid hx2
    go_wp2_with fail
    have f1 := conv_ext (wx := w2) (g := w2.heap.size) rfl (Ext.refl _).drew_right
    have f0 := conv_ext (wx := w2) (g := w2.heap.size) rfl (Ext.refl _)
    go_region_with (first | (go_at_call 56; refine (ht.out _).mono ?_; rintro e w3 ⟨rfl, rfl⟩) | (go_at_call 63; refine (hW.out _ (hm.out.ext (by first | exact hx2.out.drew_right | exact (hx2.out.alloc_right _).drew_right | exact hx2.out | exact hx2.out.alloc_right _))).mono ?_; rintro e w4 ⟨rfl, hx4⟩; (first | (have g1 := conv_ext (wx := w2) (g := w2.heap.size) rfl (Ext.trans (Ext.refl _).drew_right hx4); have hE4 := hid (Ext.trans (hx2.out.alloc_right _).drew_right hx4)) | (have g1 := conv_ext (wx := w4) (g := w4.heap.size) rfl (Ext.refl _); have g2 := conv_ext (wx := w4) (g := w4.heap.size) rfl (Ext.refl _).drew_right; have hE4 := hid (Ext.trans hx2.out.drew_right hx4)))) | (go_at_call 80; refine (hT.out _).mono ?_; rintro e w5 ⟨rfl, rfl⟩))
    all_goals go_wp2
    all_goals go_ret2
    all_goals exact ⟨rfl, by first | exact hE4.out | exact hE4.out.alloc_right _ | exact (hE4.out.alloc_right _).drew_right⟩
  | true =>
    rw [turnS_t]
    have hT := hid (fun w => turn2_any (strB (preL s p c)) (by have := preL_len s p c; rw [strB_size]; omega) w)
    generalize strB (preL s p c) = K at *
    generalize strB (turnL K.toList) = TK at *
    generalize strB (escL (wt s p c)) = Y at *
    have ht := hid (fun w => turner_any true w)
    have en := enterT2
    go_enter Tryd.func27, Tryd.ntmps27
    go_wp2_with fail
    refine (ha.out _).mono ?_
    rintro e w2 ⟨rfl, hx2⟩
    replace hx2 := hid hx2
    go_wp2_with fail
    have f1 := conv_ext (wx := w2) (g := w2.heap.size) rfl (Ext.refl _).drew_right
    have f0 := conv_ext (wx := w2) (g := w2.heap.size) rfl (Ext.refl _)
    go_region_with (first | (go_at_call 56; refine (ht.out _).mono ?_; rintro e w3 ⟨rfl, rfl⟩) | (go_at_call 63; refine (hW.out _ (hm.out.ext (by first | exact hx2.out.drew_right | exact (hx2.out.alloc_right _).drew_right | exact hx2.out | exact hx2.out.alloc_right _))).mono ?_; rintro e w4 ⟨rfl, hx4⟩; (first | (have g1 := conv_ext (wx := w2) (g := w2.heap.size) rfl (Ext.trans (Ext.refl _).drew_right hx4); have hE4 := hid (Ext.trans (hx2.out.alloc_right _).drew_right hx4)) | (have g1 := conv_ext (wx := w4) (g := w4.heap.size) rfl (Ext.refl _); have g2 := conv_ext (wx := w4) (g := w4.heap.size) rfl (Ext.refl _).drew_right; have hE4 := hid (Ext.trans hx2.out.drew_right hx4)))) | (go_at_call 81; refine (hT.out _).mono ?_; rintro e w5 ⟨rfl, hx5⟩))
    all_goals go_wp2
    all_goals go_ret2
    all_goals exact ⟨rfl, by first | exact hE4.out.trans hx5 | exact (hE4.out.alloc_right _).trans hx5 | exact (hE4.out.alloc_right _).drew_right.trans hx5⟩
set_option maxRecDepth 100000 in
set_option maxHeartbeats 4000000 in
theorem rPrefixOf_any (s : ByteArray) (p c : Int) (d : Bool) (h : Co p c) (w : World) : Calls Tryd.prog 64 #[.string s, .int .i64 p, .int .i64 c, .bool d] w (Give (.string (turnS d (strB (preL s p c)))) w) := by
  have hW := hid (fun w => rweighed_any s p c h w)
  have ad := pre_add s p c
  have hT := hid (fun w => rturned_any (strB (preL s p c)) d (by have := preL_len s p c; rw [strB_size]; omega) w)
  generalize strB (preL s p c) = K at *
  generalize turnS d K = TK at *
  generalize strB (escL (wt s p c)) = Y at *
  have f1 := conv_ext (wx := w) (g := w.heap.size) rfl (Ext.refl _).drew_right
  have f0 := conv_ext (wx := w) (g := w.heap.size) rfl (Ext.refl _)
  go_enter Tryd.func64, Tryd.ntmps64
  go_wp2_with fail
  go_region_with (first | (go_at_call 78; refine (hW.out _).mono ?_; rintro e w4 ⟨rfl, hx4⟩; (first | (have g1 := conv_ext (wx := w) (g := w.heap.size) rfl (Ext.trans (Ext.refl _).drew_right hx4); have hE4 := hid (Ext.trans ((Ext.refl w).alloc_right _).drew_right hx4)) | (have g1 := conv_ext (wx := w4) (g := w4.heap.size) rfl (Ext.refl _); have g2 := conv_ext (wx := w4) (g := w4.heap.size) rfl (Ext.refl _).drew_right; have hE4 := hid (Ext.trans (Ext.refl w).drew_right hx4)))) | (go_at_call 68; refine (hT.out _).mono ?_; rintro e w5 ⟨rfl, hx5⟩))
  all_goals go_wp2
  all_goals go_ret
  all_goals exact ⟨rfl, by first | exact hE4.out.trans hx5 | exact (hE4.out.alloc_right _).trans hx5 | exact (hE4.out.alloc_right _).drew_right.trans hx5⟩
set_option maxRecDepth 100000 in
set_option maxHeartbeats 4000000 in
theorem rPrefix_any (s : ByteArray) (p c : Int) (d : Bool) (w : World) : Calls Tryd.prog 28 #[.string s, .int .i64 p, .int .i64 c, .bool d] w (GiveSE (prS s p c d) (prE s p c) w) := by
  have ha := hid (fun w => rAsked_any p c w)
  by_cases h2 : 2048 < s.size
  · have d1 : decide ((2048 : Int) < (s.size : Int)) = true := by simp; omega
    have e0 : askV 4 0 s p c = 3 := by rw [askV_no (by rw [val4, if_pos h2]; decide), val4, if_pos h2]
    have e1 : prE s p c = 3 := by rw [prE_1 (by rw [e0]; decide), e0]
    rw [prS_no (by rw [e1]; decide), e1]
    clear h2 e0 e1
    go_enter Tryd.func28, Tryd.ntmps28
    go_wp2
    go_ret2
    exact ⟨rfl, Ext.refl _⟩
  have d1 : decide ((2048 : Int) < (s.size : Int)) = false := by simp; omega
  have e0 : askV 4 0 s p c = askP p c := askV_yes (by rw [val4, if_neg h2])
  clear h2
  by_cases he : askP p c = 0
  rotate_left
  · have d0 : (askP p c != 0) = true := by simpa using he
    have e1 : prE s p c = askP p c := by rw [prE_1 (by rw [e0]; exact he), e0]
    rw [prS_no (by rw [e1]; exact he), e1]
    clear he e0 e1
    generalize askP p c = E at *
    go_enter Tryd.func28, Tryd.ntmps28
    go_wp2_with fail
    refine (ha.out _).mono ?_
    rintro e w2 ⟨rfl, rfl⟩
    go_wp2
    go_ret2
    exact ⟨rfl, Ext.refl _⟩
  rw [he] at e0 ha
  by_cases hl : 48 < s.size
  · have d2 : decide ((48 : Int) < (s.size : Int)) = true := by simp; omega
    have e1 := prE_2 e0 hl
    rw [prS_no (by rw [e1]; decide), e1]
    clear he e0 e1 hl
    go_enter Tryd.func28, Tryd.ntmps28
    go_wp2_with fail
    refine (ha.out _).mono ?_
    rintro e w2 ⟨rfl, rfl⟩
    go_wp2
    go_ret2
    exact ⟨rfl, Ext.refl _⟩
  have d2 : decide ((48 : Int) < (s.size : Int)) = false := by simp; omega
  have e1 := prE_3 e0 hl
  rw [prS_yes e1, e1]
  have hP := hid (fun w => rPrefixOf_any s p c d (askP_ok he) w)
  generalize turnS d (strB (preL s p c)) = K at *
  clear he e0 e1 hl
  go_enter Tryd.func28, Tryd.ntmps28
  go_wp2_with fail
  refine (ha.out _).mono ?_
  rintro e w2 ⟨rfl, rfl⟩
  go_wp2_with fail
  refine (hP.out _).mono ?_
  rintro e w3 ⟨rfl, hx3⟩
  go_wp2
  go_ret2
  exact ⟨rfl, hx3⟩
end Go.Proofs.YtlfanhlkoepodaaDoor
