/-
  The least text above all that begin with a prefix: the program and the reference.
-/
import Derived.Test.YtlfanhlkoepodaaDoorK2
import Derived.Test.YtlfanhlkoepodaaDoorKQ
import Derived.Deep.DeepCutAuto
import Derived.Deep.DrawnRows
import Derived.Laws.EntriesVeiled
namespace Go.Proofs.YtlfanhlkoepodaaDoor
open Go.RowKit
set_option linter.unusedVariables false
set_option linter.unusedSimpArgs false
attribute [local go_sem] Pg.conv_new
def behS (s : ByteArray) : ByteArray := match behL s.toList with | some l => strB l | none => ByteArray.empty
def behO (s : ByteArray) : Bool := (behL s.toList).isSome
theorem beh_n {s : ByteArray} (h : behL s.toList = none) : behS s = ByteArray.empty ∧ behO s = false := by unfold behS behO; rw [h]; exact ⟨rfl, rfl⟩
theorem beh_s {s : ByteArray} {l : List UInt8} (h : behL s.toList = some l) : behS s = strB l ∧ behO s = true := by unfold behS behO; rw [h]; exact ⟨rfl, rfl⟩
def GiveSB (s : ByteArray) (b : Bool) (w : World) (e : Ending) (w' : World) : Prop := e = .returned (.tuple #[.string s, .bool b]) ∧ Ext w w'
theorem take_byte (s : ByteArray) {k : Nat} (hk : k < s.size) : s.toList.take (k + 1) = s.toList.take k ++ [s[k]'hk] := by
  have hl : k < s.toList.length := by rw [len_toList]; exact hk
  rw [List.take_succ_eq_append_getElem hl, list_byte s hk hl]
theorem take_all (s : ByteArray) : s.toList.take s.size = s.toList := by rw [List.take_of_length_le]; rw [len_toList]; exact Nat.le_refl _
theorem ext0 (s : ByteArray) (k : Nat) : s.extract 0 k = strB (s.toList.take k) := by rw [ext_str, List.drop_zero, Nat.sub_zero]
theorem ext0_size (s : ByteArray) {k : Nat} (h : k ≤ s.size) : (s.extract 0 k).size = k := by rw [ByteArray.size_extract]; omega
theorem Bk_take {w : World} {g n m : Nat} {l : List UInt8} (h : Pg.Bk w g n l) (hm : m ≤ n) : Pg.Bk w g m (l.take m) := by
  refine ⟨by rw [List.length_take, h.1]; omega, fun j hj => ⟨?_, (h.2 j (by omega)).2⟩⟩
  rw [(h.2 j (by omega)).1]
  unfold Pg.bth
  simp [List.getD, List.getElem?_take, hj]
theorem conv_one_d (w : World) (n : Nat) (h1 : n ≤ 255) : (convert 49 9 (.slice (some ⟨w.heap.size, 0, none⟩) 1 1)).run Tryd.prog (w.alloc (.cells #[.int .u8 (n : Int)] 5)).drew = .ok (.string (strB [byo n])) (w.alloc (.cells #[.int .u8 (n : Int)] 5)).drew := by
  have h : Pg.RdB (w.alloc (.cells #[.int .u8 (n : Int)] 5)) (some ⟨w.heap.size, 0, none⟩) 1 1 [Pg.bOf n] := by
    have := Pg.Rd.new_ w [.int .u8 (n : Int)] 5 1 rfl (by decide)
    rw [Pg.byt_of n (by omega) (by omega)] at this ⊢
    exact this
  exact Pg.conv_RdB (h.ext (Ext.refl _).drew_right)
theorem bth_byte (s : ByteArray) {k : Nat} (hk : k < s.size) : Pg.bth s.toList k = ((s[k]'hk).toNat : Int) := (byte_at s hk).symm
set_option maxRecDepth 100000 in
set_option maxHeartbeats 4000000 in
theorem Behind_any (s : ByteArray) (hs : s.size ≤ 1000000) (w : World) : Calls Tryd.prog 29 #[.string s] w (GiveSB (behS s) (behO s) w) := by
  have hinv0 : Hid (behL (s.toList.take s.size) = behL s.toList) := by unfold Hid; rw [take_all]
  have ew0 : IntKind.i64.wrap ((s.size : Int) - 1) = (s.size : Int) - 1 := IntWalk.i64_in _ (by omega)
  go_enter Tryd.func29, Tryd.ntmps29
  go_wp2_with fail
  go_loopw [4] (fun v wr => (∃ (m : Nat) (x : Int), m ≤ s.size ∧ v = .int .i64 x ∧ Hid (x = (m : Int) - 1) ∧ Hid (behL (s.toList.take m) = behL s.toList)) ∧ wr = w) (fun v _ => (intOf v + 1).toNat)
  case atStart => exact ⟨⟨s.size, _, by omega, rfl, rfl, hinv0⟩, rfl⟩
  case round =>
    obtain ⟨⟨m, x, hm, rfl, hxm, hinv⟩, rfl⟩ := hrel
    cases m with
    | zero =>
      obtain rfl : x = -1 := hxm.out
      have hr := hid (beh_n (s := s) hinv.out.symm)
      generalize behS s = S at *
      generalize behO s = O at *
      clear hinv hinv0 ew0
      go_wp2
      go_ret2
      exact ⟨by rw [hr.out.1, hr.out.2]; rfl, Ext.refl _⟩
    | succ j =>
      obtain rfl : x = (j : Int) := by have := hxm.out; omega
      have hlt : j < s.size := by omega
      have hi := hinv.out
      rw [take_byte s hlt] at hi
      have hb0 := (s[j]'hlt).toNat_lt
      have ej : IntKind.i64.wrap ((j : Int) - 1) = (j : Int) - 1 := IntWalk.i64_in _ (by omega)
      rcases Bool.eq_false_or_eq_true (((s[j]'hlt).toNat : Int) == 255) with q | q
      · have hq : (s[j]'hlt).toNat = 255 := by simp at q; omega
        rw [beh_skip hq] at hi
        have hn := hid hi
        clear hi hq hinv hinv0 hxm
        go_wp2
        go_roundw
        case rel => exact ⟨⟨j, _, by omega, rfl, rfl, hn⟩, by trivial⟩
        case measure => simp [intOf]
      · have hq : (s[j]'hlt).toNat ≠ 255 := by simp at q; omega
        rw [beh_hit hq] at hi
        have hr := hid (beh_s hi.symm)
        have hz := ext0_size s (k := j) (by omega)
        have ad := str_add (s.extract 0 j) (strB [byo ((s[j]'hlt).toNat + 1)]) (by rw [hz, strB_size]; simp; omega)
        rw [ext0, strB_add] at ad
        rw [← ext0, ← hr.out.1] at ad
        have hcv : ∀ wx : World, (convert 49 9 (.slice (some ⟨wx.heap.size, 0, none⟩) 1 1)).run Tryd.prog (wx.alloc (.cells #[.int .u8 (((s[j]'hlt).toNat : Int) + 1)] 5)) = .ok (.string (strB [byo ((s[j]'hlt).toNat + 1)])) (wx.alloc (.cells #[.int .u8 (((s[j]'hlt).toNat : Int) + 1)] 5)) := fun wx => Pg.conv_one wx (((s[j]'hlt).toNat : Int) + 1) (by omega) (by omega)
        have hcv1 := conv_one_d wr ((s[j]'hlt).toNat + 1) (by omega)
        rw [show (((s[j]'hlt).toNat + 1 : Nat) : Int) = ((s[j]'hlt).toNat : Int) + 1 by omega] at hcv1
        have ew : IntKind.u8.wrap (((s[j]'hlt).toNat : Int) + 1) = ((s[j]'hlt).toNat : Int) + 1 := Pg.u8_in _ (by omega) (by omega)
        have d0 : decide ((j : Int) < 0) = false := by simp
        generalize strB [byo ((s[j]'hlt).toNat + 1)] = Z at *
        generalize behS s = S at *
        generalize behO s = O at *
        clear hi hq hinv hinv0 hxm hz ew0 ej
        go_wp2
        go_region
        all_goals go_wp2
        all_goals go_ret2
        all_goals exact ⟨by rw [hr.out.2]; rfl, ((Ext.refl _).drew_right).alloc_right _⟩
set_option maxRecDepth 100000 in
set_option maxHeartbeats 4000000 in
theorem rBehind_any (s : ByteArray) (hs : s.size ≤ 1000000) (w : World) : Calls Tryd.prog 30 #[.string s] w (GiveSB (behS s) (behO s) w) := by
  have hinv0 : Hid (behL (s.toList.take s.size) = behL s.toList) := by unfold Hid; rw [take_all]
  have hcap := Pg.capB_in w s hs
  have hB := hid (Pg.newB_bk w s)
  have hE := hid (Pg.newB_ext w s)
  have hg : w.heap.size < (Pg.newB w s).heap.size := by simp [Pg.newB]
  generalize hcp : Pg.capB w s = cp at *
  go_enter Tryd.func30, Tryd.ntmps30
  go_wp2_with fail
  generalize Pg.newB w s = w1 at *
  clear hcp
  go_loopw [4] (fun v wr => (∃ m : Nat, m ≤ s.size ∧ v = .slice (some ⟨w.heap.size, 0, none⟩) m cp ∧ Hid (behL (s.toList.take m) = behL s.toList)) ∧ wr = w1) (fun v _ => lenOf v)
  case atStart => exact ⟨⟨s.size, by omega, rfl, hinv0⟩, rfl⟩
  case round =>
    obtain ⟨⟨m, hm, rfl, hinv⟩, rfl⟩ := hrel
    cases m with
    | zero =>
      have hr := hid (beh_n (s := s) hinv.out.symm)
      generalize behS s = S at *
      generalize behO s = O at *
      clear hinv hinv0
      go_wp2
      go_ret2
      exact ⟨by rw [hr.out.1, hr.out.2]; rfl, hE.out⟩
    | succ j =>
      have hlt : j < s.size := by omega
      have hi := hinv.out
      rw [take_byte s hlt] at hi
      have hb0 := (s[j]'hlt).toNat_lt
      have hc := (hB.out.2 j hlt).1
      have hfree := (hB.out.2 j hlt).2
      rw [bth_byte s hlt] at hc
      have ejj : ((j + 1 : Nat) : Int) - 1 = (j : Int) := by omega
      have ej : IntKind.i64.wrap (((j + 1 : Nat) : Int) - 1) = (j : Int) := by rw [ejj]; exact IntWalk.i64_in _ (by omega)
      have d0 : decide ((0 : Int) < ((j + 1 : Nat) : Int)) = true := by simp
      rcases Bool.eq_false_or_eq_true (((s[j]'hlt).toNat : Int) == 255) with q | q
      · have hq : (s[j]'hlt).toNat = 255 := by simp at q; omega
        rw [beh_skip hq] at hi
        have hn := hid hi
        clear hi hq hinv hinv0
        generalize ((s[j]'hlt).toNat : Int) = b at *
        go_wp2
        go_roundw
        case rel => exact ⟨⟨j, by omega, rfl, hn⟩, by trivial⟩
        case measure => simp [lenOf]
      · have hq : (s[j]'hlt).toNat ≠ 255 := by simp at q; omega
        rw [beh_hit hq] at hi
        have hr := hid (beh_s hi.symm)
        have hb2 := hB.out.set hlt (((s[j]'hlt).toNat : Int) + 1) (by omega) (by omega)
        have hx2 := hid (hE.out.set (p := ⟨w.heap.size, j, none⟩) (Nat.le_refl _) (.int .u8 (((s[j]'hlt).toNat : Int) + 1)))
        have hrd := (Bk_take hb2 (m := j + 1) (by omega)).rd (c := cp) (by omega) hcap.2
        have hcv := Pg.conv_RdB hrd
        have hl : (s.toList.set j (Pg.bOf (((s[j]'hlt).toNat : Int) + 1))).take (j + 1) = s.toList.take j ++ [byo ((s[j]'hlt).toNat + 1)] := by
          have hl' : j < s.toList.length := by rw [len_toList]; exact hlt
          rw [List.take_succ_eq_append_getElem (by rw [List.length_set]; exact hl'), List.getElem_set_self, List.take_set_of_le (Nat.le_refl _)]
          rfl
        rw [hl] at hcv
        have hs2 : Pg.strB (s.toList.take j ++ [byo ((s[j]'hlt).toNat + 1)]) = behS s := hr.out.1.symm
        rw [hs2] at hcv
        have ew : IntKind.u8.wrap (((s[j]'hlt).toNat : Int) + 1) = ((s[j]'hlt).toNat : Int) + 1 := Pg.u8_in _ (by omega) (by omega)
        generalize behS s = S at *
        generalize behO s = O at *
        clear hi hq hinv hinv0 hb2 hrd hl hs2
        generalize ((s[j]'hlt).toNat : Int) = b at *
        go_wp2
        go_ret2
        exact ⟨by rw [hr.out.2]; rfl, hx2.out⟩
end Go.Proofs.YtlfanhlkoepodaaDoor
