/-
  The capitals and small letters of a text; its weights.
-/
import Derived.Test.YtlhnabkfacmmnaaPg3
namespace Go.Proofs.Ytlhnabkfacmmnaa
open Go.RowKit
set_option linter.unusedVariables false
set_option linter.unusedSimpArgs false
attribute [local go_sem] conv_new

def GiveSN (s : ByteArray) (x : Int) (w : World) (e : Ending) (w' : World) : Prop := e = .returned (.tuple #[.string s, .int .i64 x]) ∧ Ext w w'
theorem ask_ok {p : Int} {s : ByteArray} (h : askE p [s] = 0) : s.size ≤ 2048 ∧ Pg p := by
  unfold askE at h
  split at h
  · cases h
  · rename_i h1
    split at h
    · cases h
    · rename_i h2
      refine ⟨?_, ?_⟩
      · have : ¬ 2048 < s.size := by
          intro h3
          exact h1 (by simp [longTo, h3])
        omega
      · unfold Pg
        simp [pgB] at h2
        omega
def okA (p : Int) (s : ByteArray) (t : ByteArray) : ByteArray := if askE p [s] = 0 then t else ByteArray.empty
theorem enterUpper (args : Array Value) (w : World) : (callFunc 32 args).run Try.prog w = .ok (.enter 32 args) w := by kernel_rfl
theorem enterLower (args : Array Value) (w : World) : (callFunc 43 args).run Try.prog w = .ok (.enter 43 args) w := by kernel_rfl

set_option maxRecDepth 100000 in
set_option maxHeartbeats 1000000 in
theorem mapped_any (fn : Nat) (f : Int → Int → Int) (hcf : ∀ args w, (callFunc fn args).run Try.prog w = .ok (.enter fn args) w)
    (hf : ∀ x p w, Pg p → 0 ≤ x → x ≤ 255 → Calls Try.prog fn #[.int .u8 x, .int .i64 p] w fun e w' => e = .returned (.int .u8 (f x p)) ∧ w = w')
    (hr0 : ∀ x p, Pg p → 0 ≤ x → x ≤ 255 → 0 ≤ f x p ∧ f x p ≤ 255) (s : ByteArray) (p : Int) (w : World) :
    Calls Try.prog 42 #[.string s, .int .i64 p, .func (.func fn) #[] #[]] w (GiveSN (okA p s (mapS (fun x => f x p) s)) (askE p [s]) w) := by
  have HF := hid hf
  have HR := hid hr0
  clear hf hr0
  by_cases h : askE p [s] = 0
  · have e1 : (askE p [s] != 0) = false := by simp [h]
    have Fin : Hid (okA p s (mapS (fun x => f x p) s) = mapS (fun x => f x p) s) := by unfold Hid okA; rw [if_pos h]
    have Fin2 := hid h
    have ho := ask_ok h
    have hp := hid ho.2
    have hsz : s.size ≤ 1000000 := by omega
    have hlen : Hid (s.toList.length = s.size) := by unfold Hid; rw [ByteArray.toList_eq]; rfl
    have hfin := hid (mpTo_all (fun x => f x p) s.toList)
    clear ho h
    go_enter Try.func42, Try.ntmps42
    go_wp2_with fail
    refine (asked_any p _ _ _ [s] _ (RdS.new1 w s _)).mono ?_
    rintro e w1 ⟨rfl, rfl⟩
    have hx1 := hid ((Ext.refl w).alloc_right (.cells #[.string s] 9))
    have hs1 := hx1.out.size
    generalize hw1 : w.alloc (.cells #[.string s] 9) = w1 at *
    clear hw1
    have hcap := capB_in w1 s hsz
    have hB := hid (newB_bk w1 s)
    have hE := hid (newB_ext w1 s)
    have hg : w1.heap.size < (newB w1 s).heap.size := by simp [newB]
    go_wp2_with fail
    go_loopw [23] (fun i wr => ∃ k : Nat, k ≤ s.size ∧ i = .int .i64 k ∧ Hid (Bk wr w1.heap.size s.size (mpTo (fun x => f x p) s.toList k)) ∧ Hid (Ext w1 wr)) (fun i _ => s.size - (intOf i).toNat)
    case atStart => exact ⟨0, by omega, rfl, hB, hE⟩
    case round =>
      obtain ⟨k, hk, rfl, hb, hx⟩ := hrel
      by_cases hlt : k < s.size
      · have hlt' : k < s.toList.length := by rw [hlen.out]; exact hlt
        have hc := (hb.out.2 k hlt).1
        have hfree := (hb.out.2 k hlt).2
        rw [mpTo_at _ _ k hlt'] at hc
        have hr := bth_in s.toList k
        have hst := hid (mpTo_succ (fun x => f x p) s.toList k hlt')
        clear hlt'
        go_wp2_with fail
        refine (HF.out _ _ _ hp.out hr.1 hr.2).mono ?_
        rintro e w' ⟨rfl, rfl⟩
        have hw := HR.out (bth s.toList k) p hp.out hr.1 hr.2
        have hb2 := hid (hb.out.set hlt (f (bth s.toList k) p) hw.1 hw.2)
        have hx2 := hid (hx.out.set (p := ⟨w1.heap.size, k, none⟩) (Nat.le_refl _) (.int .u8 (f (bth s.toList k) p)))
        go_wp2
        go_roundw
        case rel => exact ⟨k + 1, by omega, by go_num, by rw [← hst.out]; exact hb2, hx2⟩
        case measure => simp [intOf]; omega
      · obtain rfl : k = s.size := by omega
        have hrd := hb.out.rd hcap.1 hcap.2
        have hcv := conv_RdB hrd
        rw [← hlen.out, hfin.out] at hcv
        rw [hlen.out] at hcv
        have hmap : strB (s.toList.map fun b => bOf (f (b.toNat : Int) p)) = mapS (fun x => f x p) s := rfl
        rw [hmap] at hcv
        clear hmap hrd
        go_wp2
        go_ret2
        exact ⟨by rw [Fin.out, Fin2.out]; rfl, hx1.out.trans hx.out⟩
  · have e1 : (askE p [s] != 0) = true := by simp [h]
    have Fin : Hid (okA p s (mapS (fun x => f x p) s) = ByteArray.empty) := by unfold Hid okA; rw [if_neg h]
    clear h
    go_enter Try.func42, Try.ntmps42
    go_wp2_with fail
    refine (asked_any p _ _ _ [s] _ (RdS.new1 w s _)).mono ?_
    rintro e w1 ⟨rfl, rfl⟩
    go_wp2
    go_ret2
    exact ⟨by rw [Fin.out]; rfl, (Ext.refl w).alloc_right _⟩
theorem Upper_any (s : ByteArray) (p : Int) (w : World) : Calls Try.prog 18 #[.string s, .int .i64 p] w (GiveSN (okA p s (mapS (fun x => upS_ x p) s)) (askE p [s]) w) := by
  go_enter Try.func18, Try.ntmps18
  go_wp2_with fail
  refine (mapped_any 32 upS_ enterUpper (fun x p w hp h0 h1 => upper_any x p hp w h0 h1) (fun x p hp h0 h1 => upS_rng h0 h1) s p _).mono ?_
  rintro e w1 ⟨rfl, hx⟩
  go_wp2
  go_ret2
  exact ⟨rfl, hx⟩
theorem Lower_any (s : ByteArray) (p : Int) (w : World) : Calls Try.prog 19 #[.string s, .int .i64 p] w (GiveSN (okA p s (mapS (fun x => lowS x p) s)) (askE p [s]) w) := by
  go_enter Try.func19, Try.ntmps19
  go_wp2_with fail
  refine (mapped_any 43 lowS enterLower (fun x p w hp h0 h1 => lower_any x p hp w h0 h1) (fun x p hp h0 h1 => lowS_rng h0 h1) s p _).mono ?_
  rintro e w1 ⟨rfl, hx⟩
  go_wp2
  go_ret2
  exact ⟨rfl, hx⟩
end Go.Proofs.Ytlhnabkfacmmnaa
