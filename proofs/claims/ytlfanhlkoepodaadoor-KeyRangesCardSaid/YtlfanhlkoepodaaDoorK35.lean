/-
  Between which keys the texts are that are nearly equal; the bounds of descending keys.
-/
import Derived.Test.YtlfanhlkoepodaaDoorK10
import Derived.Test.YtlfanhlkoepodaaDoorK5
namespace Go.Proofs.YtlfanhlkoepodaaDoor
open Go.RowKit
set_option linter.unusedVariables false
set_option linter.unusedSimpArgs false
attribute [local go_sem] Pg.conv_new
def GiveSS (a b : ByteArray) (w : World) (e : Ending) (w' : World) : Prop := e = .returned (.tuple #[.string a, .string b]) ∧ Ext w w'
/-- The text that near looks at. -/
def trS (s : ByteArray) (x : Bool) : ByteArray := if x then trimR s 32 else s
def neaL (s : ByteArray) (x : Bool) (p c : Int) : ByteArray := strB (preL (trS s x) p c)
def neaH (s : ByteArray) (x : Bool) (p c : Int) : ByteArray := behS (neaL s x p c)
def trnL (hi : ByteArray) : ByteArray := behS (strB (turnL hi.toList))
set_option maxRecDepth 100000 in
set_option maxHeartbeats 4000000 in
theorem near_any (s : ByteArray) (x : Bool) (p c : Int) (hs : s.size ≤ maxLen) (hco : Co p c) (w : World) (hm : ML w) : Calls Tryd.prog 94 #[.string s, .bool x, .int .i64 p, .int .i64 c] w (GiveSS (neaL s x p c) (neaH s x p c) w) := by
  have ct := hid (fun w => TrimRight_any s hs w)
  unfold neaH neaL
  cases x with
  | true =>
    rw [show trS s true = trimR s 32 from rfl]
    have hW := hid (fun w hm => weights_any (trimR s 32) p c hco w hm)
    have ad := pre_add (trimR s 32) p c
    have cB := hid (fun w => Behind_any (strB (preL (trimR s 32) p c)) (by have := preL_len (trimR s 32) p c; rw [strB_size]; omega) w)
    generalize strB (preL (trimR s 32) p c) = K at *
    generalize strB (escL (wt (trimR s 32) p c)) = Y at *
    generalize behS K = H at *
    generalize behO K = O at *
    replace hm := hid hm
    go_enter Tryd.func94, Tryd.ntmps94
    go_wp2_with fail
    refine (ct.out _).mono ?_
    rintro e w2 ⟨rfl, rfl⟩
    go_wp2_with fail
    have f1 := conv_ext (wx := w) (g := w.heap.size) rfl (Ext.refl _).drew_right
    have f0 := conv_ext (wx := w) (g := w.heap.size) rfl (Ext.refl _)
    go_region_with (first | (go_at_call 63; refine (hW.out _ (hm.out.ext (by first | exact (Ext.refl w).drew_right | exact ((Ext.refl w).alloc_right _).drew_right | exact (Ext.refl w) | exact (Ext.refl w).alloc_right _))).mono ?_; rintro e w4 ⟨rfl, hx4⟩; (first | (have g1 := conv_ext (wx := w) (g := w.heap.size) rfl (Ext.trans (Ext.refl _).drew_right hx4); have hE4 := hid (Ext.trans ((Ext.refl w).alloc_right _).drew_right hx4)) | (have g1 := conv_ext (wx := w4) (g := w4.heap.size) rfl (Ext.refl _); have g2 := conv_ext (wx := w4) (g := w4.heap.size) rfl (Ext.refl _).drew_right; have hE4 := hid (Ext.trans (Ext.refl w).drew_right hx4)))))
    all_goals
      go_wp2_with fail
      refine (cB.out _).mono ?_
      rintro e w5 ⟨rfl, hx5⟩
      go_wp2
      go_ret2
      exact ⟨rfl, by first | exact hE4.out.trans hx5 | exact (hE4.out.alloc_right _).trans hx5 | exact (hE4.out.alloc_right _).drew_right.trans hx5⟩
  | false =>
    rw [show trS s false = s from rfl]
    have hW := hid (fun w hm => weights_any s p c hco w hm)
    have ad := pre_add s p c
    have cB := hid (fun w => Behind_any (strB (preL s p c)) (by have := preL_len s p c; rw [strB_size]; omega) w)
    generalize strB (preL s p c) = K at *
    generalize strB (escL (wt s p c)) = Y at *
    generalize behS K = H at *
    generalize behO K = O at *
    replace hm := hid hm
    go_enter Tryd.func94, Tryd.ntmps94
    go_wp2_with fail
    have f1 := conv_ext (wx := w) (g := w.heap.size) rfl (Ext.refl _).drew_right
    have f0 := conv_ext (wx := w) (g := w.heap.size) rfl (Ext.refl _)
    go_region_with (first | (go_at_call 63; refine (hW.out _ (hm.out.ext (by first | exact (Ext.refl w).drew_right | exact ((Ext.refl w).alloc_right _).drew_right | exact (Ext.refl w) | exact (Ext.refl w).alloc_right _))).mono ?_; rintro e w4 ⟨rfl, hx4⟩; (first | (have g1 := conv_ext (wx := w) (g := w.heap.size) rfl (Ext.trans (Ext.refl _).drew_right hx4); have hE4 := hid (Ext.trans ((Ext.refl w).alloc_right _).drew_right hx4)) | (have g1 := conv_ext (wx := w4) (g := w4.heap.size) rfl (Ext.refl _); have g2 := conv_ext (wx := w4) (g := w4.heap.size) rfl (Ext.refl _).drew_right; have hE4 := hid (Ext.trans (Ext.refl w).drew_right hx4)))))
    all_goals
      go_wp2_with fail
      refine (cB.out _).mono ?_
      rintro e w5 ⟨rfl, hx5⟩
      go_wp2
      go_ret2
      exact ⟨rfl, by first | exact hE4.out.trans hx5 | exact (hE4.out.alloc_right _).trans hx5 | exact (hE4.out.alloc_right _).drew_right.trans hx5⟩
set_option maxRecDepth 100000 in
set_option maxHeartbeats 4000000 in
theorem turned_any (a b : ByteArray) (ha : a.size ≤ 1000000) (hb : b.size ≤ 1000000) (w : World) : Calls Tryd.prog 76 #[.string a, .string b] w (GiveSS (trnL b) (trnL a) w) := by
  have ctr := hid (fun w => turner_any true w)
  have ca := hid (fun w => turn2_any b hb w)
  have cb := hid (fun w => turn2_any a ha w)
  have ba := hid (fun w => Behind_any (strB (turnL b.toList)) (by rw [strB_size, turnL_len, len_toList]; omega) w)
  have bb := hid (fun w => Behind_any (strB (turnL a.toList)) (by rw [strB_size, turnL_len, len_toList]; omega) w)
  unfold trnL
  generalize strB (turnL b.toList) = B1 at *
  generalize strB (turnL a.toList) = A1 at *
  generalize behS B1 = B2 at *
  generalize behS A1 = A2 at *
  generalize behO B1 = B3 at *
  generalize behO A1 = A3 at *
  have en := enterT2
  go_enter Tryd.func76, Tryd.ntmps76
  go_wp2_with fail
  refine (ctr.out _).mono ?_
  rintro e w2 ⟨rfl, rfl⟩
  go_wp2_with fail
  refine (ca.out _).mono ?_
  rintro e w3 ⟨rfl, hx3⟩
  have hE := hid hx3
  clear hx3
  go_wp2_with fail
  refine (ba.out _).mono ?_
  rintro e w4 ⟨rfl, hx4⟩
  replace hE := hid (hE.out.trans hx4)
  clear hx4
  go_wp2_with fail
  refine (cb.out _).mono ?_
  rintro e w5 ⟨rfl, hx5⟩
  replace hE := hid (hE.out.trans hx5)
  clear hx5
  go_wp2_with fail
  refine (bb.out _).mono ?_
  rintro e w6 ⟨rfl, hx6⟩
  replace hE := hid (hE.out.trans hx6)
  clear hx6
  go_wp2
  go_ret2
  exact ⟨rfl, hE.out⟩
end Go.Proofs.YtlfanhlkoepodaaDoor
