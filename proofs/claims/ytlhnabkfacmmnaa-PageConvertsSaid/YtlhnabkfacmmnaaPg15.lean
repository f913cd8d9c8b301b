/-
  How two texts are ordered by their weights: the program and the reference.
-/
import Derived.Test.YtlhnabkfacmmnaaPg13
import Derived.Lib.Strings
import Derived.Lib.Slices
import Derived.Lib.Walk
import Derived.Lib.Bytealg
namespace Go.Proofs.Ytlhnabkfacmmnaa
open Go.RowKit
set_option linter.unusedVariables false
set_option linter.unusedSimpArgs false
set_option maxHeartbeats 1000000 in
set_option maxRecDepth 100000 in
theorem cmpStr_any (a b : ByteArray) (w : World) :
    Calls Try.prog 55 #[.string a, .string b] w fun e w' => e = .returned (.int .i64 (Lib.compareBytes a.data.toList b.data.toList)) ∧ w = w' := by
  go_enter Try.func55, Try.ntmps55
  go_wp2
  rw [run_callFunc_extern Try.func57 (by kernel_rfl) (by kernel_rfl) (by kernel_rfl) (e := Extern.BytealgCompare.compare) (by kernel_rfl), Lib.run_compareString]
  simp only [Result.andThen]
  rw [Oper.upon_value]
  go_wp2
  go_ret
  exact ⟨rfl, rfl⟩
set_option maxHeartbeats 1000000 in
theorem Compare_any (a b : ByteArray) (w : World) :
    Calls Try.prog 41 #[.string a, .string b] w fun e w' => e = .returned (.int .i64 (Lib.compareBytes a.data.toList b.data.toList)) ∧ w = w' := by
  go_enter Try.func41, Try.ntmps41
  go_wp2_with (go_at_call 55; refine (cmpStr_any _ _ _).mono ?_; rintro e w' ⟨rfl, rfl⟩)
  go_ret
  exact ⟨rfl, rfl⟩
/-- The weights of bytes. -/
def wl (l : List UInt8) (p c : Int) : List UInt8 := l.map fun b => bOf (weightS (b.toNat : Int) p c)
def ordS (s t : ByteArray) (p c : Int) : Int := Lib.compareBytes (wl s.toList p c) (wl t.toList p c)
theorem cmp_rng : ∀ a b : List UInt8, -1 ≤ Lib.compareBytes a b ∧ Lib.compareBytes a b ≤ 1
  | [], [] => by decide
  | [], _ :: _ => by simp [Lib.compareBytes]
  | _ :: _, [] => by simp [Lib.compareBytes]
  | x :: a, y :: b => by
    have h := cmp_rng a b
    unfold Lib.compareBytes
    repeat' split
    all_goals omega
def okI (p c : Int) (l : List ByteArray) (x : Int) : Int := if askC p c l = 0 then x else 0
def GiveNN (x y : Int) (w : World) (e : Ending) (w' : World) : Prop := e = .returned (.tuple #[.int .i64 x, .int .i64 y]) ∧ Ext w w'
theorem ask_ok2 {p c : Int} {s t : ByteArray} (h : askC p c [s, t] = 0) : s.size ≤ 2048 ∧ t.size ≤ 2048 ∧ Pg p := by
  have h := (askC_ok h).1
  unfold askE at h
  split at h
  · cases h
  · rename_i h1
    split at h
    · cases h
    · rename_i h2
      refine ⟨?_, ?_, ?_⟩
      · have : ¬ 2048 < s.size := fun h3 => h1 (by simp [longTo, h3])
        omega
      · have : ¬ 2048 < t.size := fun h3 => h1 (by simp [longTo, h3])
        omega
      · unfold Pg
        simp [pgB] at h2
        omega
set_option maxRecDepth 100000 in
set_option maxHeartbeats 2000000 in
theorem Order_any (s t : ByteArray) (p c : Int) (w : World) : Calls Try.prog 16 #[.string s, .string t, .int .i64 p, .int .i64 c] w (GiveNN (okI p c [s, t] (ordS s t p c)) (askC p c [s, t]) w) := by
  by_cases h : askC p c [s, t] = 0
  · have e1 : (askC p c [s, t] != 0) = false := by simp [h]
    have Fin : Hid (okI p c [s, t] (ordS s t p c) = ordS s t p c) := by unfold Hid okI; rw [if_pos h]
    have Fin2 := hid h
    have ho := ask_ok2 h
    have hv : Hid (Lib.compareBytes (mapS (fun x => weightS x p c) s).data.toList (mapS (fun x => weightS x p c) t).data.toList = ordS s t p c) := rfl
    clear h
    go_enter Try.func16, Try.ntmps16
    go_wp2_with fail
    refine (askedColl_any p c _ _ _ [s, t] _ (RdS.new2 w s t _)).mono ?_
    rintro e w1 ⟨rfl, rfl⟩
    have hx1 := hid ((Ext.refl w).alloc_right (.cells #[.string s, .string t] 9))
    go_wp2_with fail
    refine (weights_any s p c ho.2.2 (by omega) _).mono ?_
    rintro e w2 ⟨rfl, hx2⟩
    have hx2 := hid (Ext.trans hx1.out hx2)
    go_wp2_with fail
    refine (weights_any t p c ho.2.2 (by omega) _).mono ?_
    rintro e w3 ⟨rfl, hx3⟩
    have hx3 := hid (Ext.trans hx2.out hx3)
    go_wp2_with fail
    refine (Compare_any _ _ _).mono ?_
    rintro e w4 ⟨rfl, rfl⟩
    rw [hv.out]
    go_wp2
    go_ret2
    exact ⟨by rw [Fin.out, Fin2.out]; rfl, hx3.out⟩
  · have e1 : (askC p c [s, t] != 0) = true := by simp [h]
    have Fin : Hid (okI p c [s, t] (ordS s t p c) = 0) := by unfold Hid okI; rw [if_neg h]
    clear h
    go_enter Try.func16, Try.ntmps16
    go_wp2_with fail
    refine (askedColl_any p c _ _ _ [s, t] _ (RdS.new2 w s t _)).mono ?_
    rintro e w1 ⟨rfl, rfl⟩
    go_wp2
    go_ret2
    exact ⟨by rw [Fin.out]; rfl, (Ext.refl w).alloc_right _⟩
theorem bOf_lt {x y : Int} (hx : 0 ≤ x ∧ x ≤ 255) (hy : 0 ≤ y ∧ y ≤ 255) : bOf x < bOf y ↔ x < y := by
  have e1 := bOf_val x hx.1 hx.2
  have e2 := bOf_val y hy.1 hy.2
  rw [UInt8.lt_iff_toNat_lt]
  omega
def wb (l : List UInt8) (p c : Int) (k : Nat) : Int := weightS (bth l k) p c
theorem wl_cons (l : List UInt8) (p c : Int) (k : Nat) (hk : k < l.length) : (wl l p c).drop k = bOf (wb l p c k) :: (wl l p c).drop (k + 1) := by
  unfold wl
  rw [List.drop_eq_getElem_cons (by simpa using hk)]
  simp [wb, bth, List.getD, hk]
/-- From the k-th byte on they are ordered as the whole. -/
def Cmp (s t : ByteArray) (p c : Int) (k : Nat) : Prop := Lib.compareBytes ((wl s.toList p c).drop k) ((wl t.toList p c).drop k) = ordS s t p c
theorem cmp_step {s t : ByteArray} {p c : Int} {k : Nat} (hp : Pg p) (h : Cmp s t p c k) (h1 : k < s.toList.length) (h2 : k < t.toList.length) :
    (wb s.toList p c k < wb t.toList p c k → ordS s t p c = -1) ∧ (wb t.toList p c k < wb s.toList p c k → ordS s t p c = 1) ∧ (wb s.toList p c k = wb t.toList p c k → Cmp s t p c (k + 1)) := by
  have a1 := bth_in s.toList k
  have a2 := bth_in t.toList k
  have r1 := weight_rng (c := c) hp a1.1 a1.2
  have r2 := weight_rng (c := c) hp a2.1 a2.2
  unfold Cmp at h
  rw [wl_cons _ _ _ _ h1, wl_cons _ _ _ _ h2] at h
  unfold Lib.compareBytes at h
  have l1 : bOf (wb s.toList p c k) < bOf (wb t.toList p c k) ↔ wb s.toList p c k < wb t.toList p c k := bOf_lt r1 r2
  have l2 : bOf (wb t.toList p c k) < bOf (wb s.toList p c k) ↔ wb t.toList p c k < wb s.toList p c k := bOf_lt r2 r1
  refine ⟨fun hh => ?_, fun hh => ?_, fun hh => ?_⟩
  · rw [if_pos (l1.2 hh)] at h; exact h.symm
  · rw [if_neg (fun hx => by have := l1.1 hx; omega), if_pos (l2.2 hh)] at h; exact h.symm
  · rw [if_neg (fun hx => by have := l1.1 hx; omega), if_neg (fun hx => by have := l2.1 hx; omega)] at h; exact h
theorem cmp_end {s t : ByteArray} {p c : Int} {k : Nat} (h : Cmp s t p c k) (hk : k = s.toList.length ∨ k = t.toList.length) (h1 : k ≤ s.toList.length) (h2 : k ≤ t.toList.length) :
    ordS s t p c = if s.toList.length < t.toList.length then -1 else if t.toList.length < s.toList.length then 1 else 0 := by
  have ls : (wl s.toList p c).length = s.toList.length := by simp [wl]
  have lt : (wl t.toList p c).length = t.toList.length := by simp [wl]
  have d1 : ((wl s.toList p c).drop k).length = s.toList.length - k := by simp [ls]
  have d2 : ((wl t.toList p c).drop k).length = t.toList.length - k := by simp [lt]
  unfold Cmp at h
  rw [← h]
  generalize (wl s.toList p c).drop k = A at *
  generalize (wl t.toList p c).drop k = B at *
  cases A with
  | nil =>
    cases B with
    | nil => simp at d1 d2; rw [if_neg (by omega), if_neg (by omega)]; rfl
    | cons y B => simp at d1 d2; rw [if_pos (by omega)]; rfl
  | cons x A =>
    cases B with
    | nil => simp at d1 d2; rw [if_neg (by omega), if_pos (by omega)]; rfl
    | cons y B => simp at d1 d2; omega
theorem RdS.new2' (w : World) (s u : ByteArray) (t : TypeId) (o : Obj) : RdS ((w.alloc (.cells #[.string s, .string u] t)).alloc o) (some ⟨w.heap.size, 0, none⟩) 2 2 [s, u] := (RdS.new2 w s u t).alloc o
set_option maxRecDepth 100000 in
set_option maxHeartbeats 4000000 in
theorem rOrder_any (s t : ByteArray) (p c : Int) (w : World) : Calls Try.prog 17 #[.string s, .string t, .int .i64 p, .int .i64 c] w (GiveNN (okI p c [s, t] (ordS s t p c)) (askC p c [s, t]) w) := by
  by_cases h : askC p c [s, t] = 0
  · have e1 : (askC p c [s, t] != 0) = false := by simp [h]
    have Fin : Hid (okI p c [s, t] (ordS s t p c) = ordS s t p c) := by unfold Hid okI; rw [if_pos h]
    have Fin2 := hid h
    have ho := ask_ok2 h
    have hp := hid ho.2.2
    have hs1 := ho.1
    have hs2 := ho.2.1
    have hl1 : Hid (s.toList.length = s.size) := by unfold Hid; rw [ByteArray.toList_eq]; rfl
    have hl2 : Hid (t.toList.length = t.size) := by unfold Hid; rw [ByteArray.toList_eq]; rfl
    clear h ho
    go_enter Try.func17, Try.ntmps17
    go_wp2_with fail
    refine (rasked_any 2048 _ _ _ [s, t] c _ _ _ [p] _ (RdS.new2' w s t 9 (.cells #[.int .i64 p] 3)) (RdI.new1b w (.cells #[.string s, .string t] 9) p 3)).mono ?_
    rintro e w1 ⟨rfl, rfl⟩
    rw [askR_C]
    have hx1 := hid (((Ext.refl w).alloc_right (.cells #[.string s, .string t] 9)).alloc_right (.cells #[.int .i64 p] 3))
    generalize hw1 : (w.alloc (.cells #[.string s, .string t] 9)).alloc (.cells #[.int .i64 p] 3) = w1 at *
    clear hw1
    go_wp2_with fail
    go_loopw [11] (fun i wr => ∃ k : Nat, k ≤ s.size ∧ k ≤ t.size ∧ i = .int .i64 k ∧ Hid (Cmp s t p c k) ∧ Hid (Dr w1 wr)) (fun i _ => s.size - (intOf i).toNat)
    case atStart => exact ⟨0, by omega, by omega, rfl, (rfl : Cmp s t p c 0), Dr.refl _⟩
    case round =>
      obtain ⟨k, hk, hk2, rfl, hcm, hx⟩ := hrel
      by_cases hlt : k < s.size
      · by_cases hlt2 : k < t.size
        · have b1 : decide ((k : Int) < (s.size : Int)) = true := by simp; omega
          have b2 : decide ((k : Int) < (t.size : Int)) = true := by simp; omega
          have hxe := byte_at s hlt
          have hye := byte_at t hlt2
          have hr := bth_in s.toList k
          have hr2 := bth_in t.toList k
          have hst := hid (cmp_step hp.out hcm.out (by rw [hl1.out]; exact hlt) (by rw [hl2.out]; exact hlt2))
          have wx : Hid (weightS (s[k].toNat : Int) p c = wb s.toList p c k) := by unfold Hid wb; rw [hxe]
          have wy : Hid (weightS (t[k].toNat : Int) p c = wb t.toList p c k) := by unfold Hid wb; rw [hye]
          have r1 : (s[k].toNat : Int) ≤ 255 := by rw [hxe]; exact hr.2
          have r2 : (t[k].toNat : Int) ≤ 255 := by rw [hye]; exact hr2.2
          clear hxe hye hr hr2
          by_cases c1 : weightS (s[k].toNat : Int) p c < weightS (t[k].toNat : Int) p c
          · have d1 : decide (weightS (s[k].toNat : Int) p c < weightS (t[k].toNat : Int) p c) = true := by simpa using c1
            have hv := hid (hst.out.1 (by rw [← wx.out, ← wy.out]; exact c1))
            clear c1
            go_wp2
            go_quiet ((go_at_call 40; exact quiet_left (rweight_any _ _ _ hp.out _ (by omega) (by assumption))))
            go_wp2
            go_ret2
            exact ⟨by rw [Fin.out, Fin2.out, hv.out]; rfl, hx1.out.trans (Dr.step hx.out _).ext⟩
          · have d1 : decide (weightS (s[k].toNat : Int) p c < weightS (t[k].toNat : Int) p c) = false := by simpa using c1
            by_cases c2 : weightS (t[k].toNat : Int) p c < weightS (s[k].toNat : Int) p c
            · have d2 : decide (weightS (t[k].toNat : Int) p c < weightS (s[k].toNat : Int) p c) = true := by simpa using c2
              have hv := hid (hst.out.2.1 (by rw [← wx.out, ← wy.out]; exact c2))
              clear c1 c2
              go_wp2
              go_quiet ((go_at_call 40; exact quiet_left (rweight_any _ _ _ hp.out _ (by omega) (by assumption))))
              go_wp2
              go_ret2
              exact ⟨by rw [Fin.out, Fin2.out, hv.out]; rfl, hx1.out.trans (Dr.step hx.out _).ext⟩
            · have d2 : decide (weightS (t[k].toNat : Int) p c < weightS (s[k].toNat : Int) p c) = false := by simpa using c2
              have hv := hid (hst.out.2.2 (by rw [← wx.out, ← wy.out]; omega))
              clear c1 c2
              go_wp2
              go_quiet ((go_at_call 40; exact quiet_left (rweight_any _ _ _ hp.out _ (by omega) (by assumption))))
              go_wp2
              go_roundw
              case rel => exact ⟨k + 1, by omega, by omega, by go_num, hv, Dr.step hx.out _⟩
              case measure => simp [intOf]; omega
        · have hv := hid (cmp_end hcm.out (Or.inr (by rw [hl2.out]; omega)) (by rw [hl1.out]; omega) (by rw [hl2.out]; omega))
          have b1 : decide ((k : Int) < (s.size : Int)) = true := by simp; omega
          have b2 : decide ((k : Int) < (t.size : Int)) = false := by simp; omega
          have b3 : decide ((s.size : Int) < (t.size : Int)) = false := by simp; omega
          have b4 : decide ((t.size : Int) < (s.size : Int)) = true := by simp; omega
          have hv2 : Hid (ordS s t p c = 1) := by unfold Hid; rw [hv.out, hl1.out, hl2.out, if_neg (by omega), if_pos (by omega)]
          go_wp2
          go_ret2
          exact ⟨by rw [Fin.out, Fin2.out, hv2.out]; rfl, hx1.out.trans hx.out.ext⟩
      · have hv := hid (cmp_end hcm.out (Or.inl (by rw [hl1.out]; omega)) (by rw [hl1.out]; omega) (by rw [hl2.out]; omega))
        have b1 : decide ((k : Int) < (s.size : Int)) = false := by simp; omega
        have b4 : decide ((t.size : Int) < (s.size : Int)) = false := by simp; omega
        by_cases c1 : s.size < t.size
        · have b3 : decide ((s.size : Int) < (t.size : Int)) = true := by simp; omega
          have hv2 : Hid (ordS s t p c = -1) := by unfold Hid; rw [hv.out, hl1.out, hl2.out, if_pos (by omega)]
          go_wp2
          go_ret2
          exact ⟨by rw [Fin.out, Fin2.out, hv2.out]; rfl, hx1.out.trans hx.out.ext⟩
        · have b3 : decide ((s.size : Int) < (t.size : Int)) = false := by simp; omega
          have hv2 : Hid (ordS s t p c = 0) := by unfold Hid; rw [hv.out, hl1.out, hl2.out, if_neg (by omega), if_neg (by omega)]
          go_wp2
          go_ret2
          exact ⟨by rw [Fin.out, Fin2.out, hv2.out]; rfl, hx1.out.trans hx.out.ext⟩
  · have e1 : (askC p c [s, t] != 0) = true := by simp [h]
    have Fin : Hid (okI p c [s, t] (ordS s t p c) = 0) := by unfold Hid okI; rw [if_neg h]
    clear h
    go_enter Try.func17, Try.ntmps17
    go_wp2_with fail
    refine (rasked_any 2048 _ _ _ [s, t] c _ _ _ [p] _ (RdS.new2' w s t 9 (.cells #[.int .i64 p] 3)) (RdI.new1b w (.cells #[.string s, .string t] 9) p 3)).mono ?_
    rintro e w1 ⟨rfl, rfl⟩
    rw [askR_C]
    go_wp2
    go_ret2
    exact ⟨by rw [Fin.out]; rfl, ((Ext.refl w).alloc_right _).alloc_right _⟩
end Go.Proofs.Ytlhnabkfacmmnaa
