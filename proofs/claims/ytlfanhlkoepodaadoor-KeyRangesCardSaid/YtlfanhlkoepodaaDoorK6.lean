/-
  The shortest text between two: the program and the reference.
-/
import Derived.Test.YtlfanhlkoepodaaDoorK5
import Derived.BigQuiet
namespace Go.Proofs.YtlfanhlkoepodaaDoor
open Go.RowKit
set_option linter.unusedVariables false
set_option linter.unusedSimpArgs false
attribute [local go_sem] Pg.conv_new
def furS (s : ByteArray) : ByteArray := match furF s.toList with | some l => strB l | none => ByteArray.empty
def furO (s : ByteArray) : Bool := (furF s.toList).isSome
theorem fur_n {s : ByteArray} (h : furF s.toList = none) : furS s = ByteArray.empty ∧ furO s = false := by unfold furS furO; rw [h]; exact ⟨rfl, rfl⟩
theorem fur_s {s : ByteArray} {l : List UInt8} (h : furF s.toList = some l) : furS s = strB l ∧ furO s = true := by unfold furS furO; rw [h]; exact ⟨rfl, rfl⟩
theorem drop_byte' (s : ByteArray) {k : Nat} (hk : k < s.size) : s.toList.drop k = s[k]'hk :: s.toList.drop (k + 1) := drop_byte s hk
/-- The first bytes, and zeros for the others. -/
def furTo (l : List UInt8) (m : Nat) : List UInt8 := l.take m ++ List.replicate (l.length - m) 0
theorem furTo_all (s : ByteArray) : furTo s.toList s.size = s.toList := by unfold furTo; rw [take_all, len_toList, Nat.sub_self]; simp
theorem furTo_at (s : ByteArray) {j : Nat} (hj : j < s.size) : Pg.bth (furTo s.toList (j + 1)) j = ((s[j]'hj).toNat : Int) := by
  unfold furTo Pg.bth
  rw [take_byte s hj, List.append_assoc]
  have hl : (s.toList.take j).length = j := by rw [List.length_take, len_toList]; omega
  simp [List.getD, List.getElem?_append_right, hl]
theorem furTo_zero (s : ByteArray) {j : Nat} (hj : j < s.size) : (furTo s.toList (j + 1)).set j 0 = furTo s.toList j := by
  unfold furTo
  have hl : (s.toList.take j).length = j := by rw [List.length_take, len_toList]; omega
  rw [take_byte s hj, List.append_assoc, List.set_append_right _ _ (by omega), hl, Nat.sub_self]
  rw [show s.toList.length - j = (s.toList.length - (j + 1)) + 1 by rw [len_toList]; omega, List.replicate_succ]
  rfl
theorem furTo_more (s : ByteArray) {j : Nat} (hj : j < s.size) (b : UInt8) : (furTo s.toList (j + 1)).set j b = s.toList.take j ++ b :: List.replicate (s.toList.drop (j + 1)).length 0 := by
  unfold furTo
  have hl : (s.toList.take j).length = j := by rw [List.length_take, len_toList]; omega
  rw [take_byte s hj, List.append_assoc, List.set_append_right _ _ (by omega), hl, Nat.sub_self, List.length_drop]
  rfl
theorem furTo_none (s : ByteArray) (h : furF (s.toList.drop 0) = none) : furF s.toList = none := h
theorem fur_step {s : ByteArray} {j : Nat} (hj : j < s.size) (h : furF (s.toList.drop (j + 1)) = none) (hb : (s[j]'hj).toNat < 255) : furF s.toList = some (s.toList.take j ++ byo ((s[j]'hj).toNat + 1) :: List.replicate (s.toList.drop (j + 1)).length 0) := by
  have := fur_hit hb h (s.toList.take j)
  rwa [← drop_byte s hj, List.take_append_drop] at this
set_option maxRecDepth 100000 in
set_option maxHeartbeats 4000000 in
theorem further_any (s : ByteArray) (hs : s.size ≤ 1000000) (w : World) : Calls Tryd.prog 62 #[.string s] w (GiveSB (furS s) (furO s) w) := by
  have hcap := Pg.capB_in w s hs
  have hB := hid (Pg.newB_bk w s)
  have hE := hid (Pg.newB_ext w s)
  have hg : w.heap.size < (Pg.newB w s).heap.size := by simp [Pg.newB]
  have hB0 : Hid (Pg.Bk (Pg.newB w s) w.heap.size s.size (furTo s.toList s.size)) := by unfold Hid; rw [furTo_all]; exact hB.out
  have hn0 : Hid (furF (s.toList.drop s.size) = none) := by unfold Hid; rw [← len_toList, List.drop_length]; rfl
  have ew0 : IntKind.i64.wrap ((s.size : Int) - 1) = (s.size : Int) - 1 := IntWalk.i64_in _ (by omega)
  generalize hcp : Pg.capB w s = cp at *
  clear hB
  go_enter Tryd.func62, Tryd.ntmps62
  go_wp2_with fail
  generalize Pg.newB w s = w1 at *
  clear hcp
  go_loopw [5] (fun i wr => ∃ (m : Nat) (x : Int), m ≤ s.size ∧ i = .int .i64 x ∧ Hid (x = (m : Int) - 1) ∧ Hid (furF (s.toList.drop m) = none) ∧ Hid (Pg.Bk wr w.heap.size s.size (furTo s.toList m)) ∧ Hid (Ext w wr)) (fun i _ => (intOf i + 1).toNat)
  case atStart => exact ⟨s.size, _, by omega, rfl, rfl, hn0, hB0, hE⟩
  case round =>
    obtain ⟨m, x, hm, rfl, hxm, hinv, hb, hx⟩ := hrel
    cases m with
    | zero =>
      obtain rfl : x = -1 := hxm.out
      have hr := hid (fur_n (s := s) hinv.out)
      generalize furS s = S at *
      generalize furO s = O at *
      clear hinv
      go_wp2
      go_ret2
      exact ⟨by rw [hr.out.1, hr.out.2]; rfl, hx.out⟩
    | succ j =>
      obtain rfl : x = (j : Int) := by have := hxm.out; omega
      have hlt : j < s.size := by omega
      have hc := (hb.out.2 j hlt).1
      have hfree := (hb.out.2 j hlt).2
      rw [furTo_at s hlt] at hc
      have hb0 := (s[j]'hlt).toNat_lt
      have ej : IntKind.i64.wrap ((j : Int) - 1) = (j : Int) - 1 := IntWalk.i64_in _ (by omega)
      by_cases hq : (s[j]'hlt).toNat < 255
      · have q : decide ((((s[j]'hlt).toNat : Nat) : Int) < 255) = true := by simp; omega
        have hr := hid (fur_s (fur_step hlt hinv.out hq))
        have hb2 := hb.out.set hlt (((s[j]'hlt).toNat : Int) + 1) (by omega) (by omega)
        have hx2 := hid (hx.out.set (p := ⟨w.heap.size, j, none⟩) (Nat.le_refl _) (.int .u8 (((s[j]'hlt).toNat : Int) + 1)))
        rw [furTo_more s hlt] at hb2
        have hcv := Pg.conv_RdB (hb2.rd (c := cp) hcap.1 hcap.2)
        have hs2 : Pg.strB (s.toList.take j ++ Pg.bOf (((s[j]'hlt).toNat : Int) + 1) :: List.replicate (s.toList.drop (j + 1)).length 0) = furS s := hr.out.1.symm
        rw [hs2] at hcv
        have ew : IntKind.u8.wrap (((s[j]'hlt).toNat : Int) + 1) = ((s[j]'hlt).toNat : Int) + 1 := Pg.u8_in _ (by omega) (by omega)
        generalize furS s = S at *
        generalize furO s = O at *
        clear hq hinv hb2 hs2 hb
        generalize ((s[j]'hlt).toNat : Int) = b at *
        go_wp2
        go_ret2
        exact ⟨by rw [hr.out.2]; rfl, hx2.out⟩
      · have q : decide ((((s[j]'hlt).toNat : Nat) : Int) < 255) = false := by simp; omega
        have hn : Hid (furF (s.toList.drop j) = none) := by
          unfold Hid
          rw [drop_byte s hlt]
          exact fur_full (by omega) hinv.out
        have hb2 := hb.out.set hlt 0 (by omega) (by omega)
        have hx2 := hid (hx.out.set (p := ⟨w.heap.size, j, none⟩) (Nat.le_refl _) (.int .u8 0))
        have hz := furTo_zero s hlt
        rw [show Pg.bOf 0 = 0 from rfl, hz] at hb2
        have hb2 := hid hb2
        clear hq hinv hz hb
        generalize ((s[j]'hlt).toNat : Int) = b at *
        go_wp2
        go_roundw
        case rel => exact ⟨j, _, by omega, rfl, rfl, hn, hb2, hx2⟩
        case measure => simp [intOf]
def shoS (a b : ByteArray) : ByteArray := if Lib.compareBytes a.toList b.toList < 0 then strB (shoL a.toList b.toList) else ByteArray.empty
def shoE (a b : ByteArray) : Int := if Lib.compareBytes a.toList b.toList < 0 then 0 else 1
theorem sho_no {a b : ByteArray} (h : ¬ Lib.compareBytes a.toList b.toList < 0) : shoS a b = ByteArray.empty ∧ shoE a b = 1 := by unfold shoS shoE; rw [if_neg h, if_neg h]; exact ⟨rfl, rfl⟩
theorem sho_yes {a b : ByteArray} (h : Lib.compareBytes a.toList b.toList < 0) : shoS a b = strB (shoL a.toList b.toList) ∧ shoE a b = 0 := by unfold shoS shoE; rw [if_pos h, if_pos h]; exact ⟨rfl, rfl⟩
set_option maxRecDepth 100000 in
set_option maxHeartbeats 4000000 in
theorem shortest_any (s : ByteArray) (h : 1 ≤ s.size) (w : World) : Calls Tryd.prog 61 #[.string s] w fun e w' => e = .returned (.string ⟨#[0]⟩) ∧ w = w' := by
  have em : min 1 (s.size : Int) = 1 := by omega
  go_enter Tryd.func61, Tryd.ntmps61
  go_wp2
  go_ret
  exact ⟨rfl, rfl⟩
theorem cmn_of {a b : ByteArray} {k : Nat} (h1 : k < a.size) (h2 : k < b.size) (h : cmnL a.toList b.toList = k + cmnL (a.toList.drop k) (b.toList.drop k)) : (((a[k]'h1).toNat : Int) == ((b[k]'h2).toNat : Int)) = true → cmnL a.toList b.toList = (k + 1) + cmnL (a.toList.drop (k + 1)) (b.toList.drop (k + 1)) := by
  intro q
  have l1 : k < a.toList.length := by rw [len_toList]; exact h1
  have l2 : k < b.toList.length := by rw [len_toList]; exact h2
  refine cmn_more l1 l2 h ?_
  rw [list_byte a h1 l1, list_byte b h2 l2]
  apply UInt8.toNat_inj.1
  simp at q
  omega
theorem cmn_of' {a b : ByteArray} {k : Nat} (h1 : k < a.size) (h2 : k < b.size) (h : cmnL a.toList b.toList = k + cmnL (a.toList.drop k) (b.toList.drop k)) : (((a[k]'h1).toNat : Int) == ((b[k]'h2).toNat : Int)) = false → cmnL a.toList b.toList = k := by
  intro q
  have l1 : k < a.toList.length := by rw [len_toList]; exact h1
  have l2 : k < b.toList.length := by rw [len_toList]; exact h2
  refine cmn_ne l1 l2 h ?_
  rw [list_byte a h1 l1, list_byte b h2 l2]
  intro e
  rw [e] at q
  simp at q
theorem getD_byte (s : ByteArray) {k : Nat} (h : k < s.size) : s.toList.getD k 0 = s[k]'h := by
  have hl : k < s.toList.length := by rw [len_toList]; exact h
  rw [← list_byte s h hl]
  simp [List.getD, hl]
set_option maxRecDepth 100000 in
set_option maxHeartbeats 4000000 in
theorem Short_any (a b : ByteArray) (hs : a.size ≤ 100000) (ht : b.size ≤ 100000) (w : World) : Calls Tryd.prog 25 #[.string a, .string b] w (GiveSE (shoS a b) (shoE a b) w) := by
  by_cases h : Lib.compareBytes a.toList b.toList < 0
  rotate_left
  · obtain ⟨e1, e2⟩ := sho_no h
    rw [e1, e2]
    have hbl : Op.bytesLess a.toList b.toList = false := by rw [less_cmp, decide_eq_false h]
    clear h e1 e2
    go_enter Tryd.func25, Tryd.ntmps25
    go_wp2
    go_ret2
    exact ⟨rfl, Ext.refl _⟩
  have hl := lt_at _ _ h
  have hy := hid (sho_yes h)
  have hbl : Op.bytesLess a.toList b.toList = true := by rw [less_cmp, decide_eq_true h]
  have hl1 : Hid (cmnL a.toList b.toList < b.size) := by unfold Hid; rw [← len_toList]; exact hl.1
  have hl2 : Hid (cmnL a.toList b.toList < a.size → (a.toList.getD (cmnL a.toList b.toList) 0).toNat < (b.toList.getD (cmnL a.toList b.toList) 0).toNat) := by unfold Hid; rw [← len_toList a]; exact hl.2
  clear h hl
  generalize shoS a b = S at *
  generalize shoE a b = E at *
  go_enter Tryd.func25, Tryd.ntmps25
  go_wp2_with fail
  go_loopw [6] (fun v wr => (∃ k : Nat, k ≤ a.size ∧ v = .int .i64 k ∧ Hid (cmnL a.toList b.toList = k + cmnL (a.toList.drop k) (b.toList.drop k))) ∧ Ext w wr) (fun v _ => a.size - (intOf v).toNat)
  case atStart => exact ⟨⟨0, by omega, rfl, by unfold Hid; simp⟩, Ext.refl _⟩
  case round =>
    obtain ⟨⟨k, hk, rfl, hinv⟩, hx⟩ := hrel
    replace hx := hid hx
    by_cases h1 : k < a.size
    · have hkb : k < b.size := by have := hl1.out; have := hinv.out; omega
      have d1 : decide ((k : Int) < (a.size : Int)) = true := by simp; omega
      rcases Bool.eq_false_or_eq_true (((a[k]'h1).toNat : Int) == ((b[k]'hkb).toNat : Int)) with q | q
      · have hn := hid (cmn_of h1 hkb hinv.out q)
        go_wp2
        go_quiet (fail)
        go_wp2
        go_roundw
        case rel => exact ⟨⟨k + 1, by omega, by go_num, hn⟩, hx.out.drewN_right _⟩
        case measure => simp [intOf]; omega
      · have hc := hid (cmn_of' h1 hkb hinv.out q)
        have hlt := hl2.out
        rw [hc.out] at hlt
        have hlt := hlt h1
        rw [getD_byte a h1, getD_byte b hkb] at hlt
        have hb0 := (a[k]'h1).toNat_lt
        have hb1 := (b[k]'hkb).toNat_lt
        have hcv0 : Hid (∀ wx : World, (convert 49 9 (.slice (some ⟨wx.heap.size, 0, none⟩) 1 1)).run Tryd.prog (wx.alloc (.cells #[.int .u8 (((a[k]'h1).toNat : Int) + 1)] 5)) = .ok (.string (strB [byo ((a[k]'h1).toNat + 1)])) (wx.alloc (.cells #[.int .u8 (((a[k]'h1).toNat : Int) + 1)] 5))) := fun wx => Pg.conv_one wx (((a[k]'h1).toNat : Int) + 1) (by omega) (by omega)
        have hcd0 := hid (fun w2 => conv_one_d w2 ((a[k]'h1).toNat + 1) (by omega))
        rw [show (((a[k]'h1).toNat + 1 : Nat) : Int) = ((a[k]'h1).toNat : Int) + 1 by omega] at hcd0
        have hf : Hid (S = strB (b.toList.take k) ++ strB [byo ((a[k]'h1).toNat + 1)] ∧ E = 0) := by
          unfold Hid
          refine ⟨?_, hy.out.2⟩
          rw [hy.out.1, strB_add]
          unfold shoL
          rw [hc.out, if_neg (by rw [len_toList]; omega), getD_byte a h1]
        have hz := ext0_size b (k := k) (by omega)
        have ad := str_add (b.extract 0 k) (strB [byo ((a[k]'h1).toNat + 1)]) (by rw [hz, strB_size]; simp; omega)
        have hS : b.extract 0 k ++ strB [byo ((a[k]'h1).toNat + 1)] = S := by rw [ext0, hf.out.1]
        rw [hS] at ad
        have ew : IntKind.u8.wrap (((a[k]'h1).toNat : Int) + 1) = ((a[k]'h1).toNat : Int) + 1 := Pg.u8_in _ (by omega) (by omega)
        have ek : IntKind.i64.wrap ((k : Int) + 1) = (k : Int) + 1 := IntWalk.i64_in _ (by omega)
        have d2 : ((k : Int) == (a.size : Int)) = false := by simp; omega
        have d3 : decide ((k : Int) + 1 ≤ (b.size : Int)) = true := by simp; omega
        clear hy hl1 hl2 hinv hc hlt hS hz
        go_wp2
        go_quiet (fail)
        go_wp2
        generalize hw2 : wr.drewN _ = w2
        have hx2 : Hid (Ext w w2) := by unfold Hid; rw [← hw2]; exact hx.out.drewN_right _
        clear hw2
        have hcv := hcv0.out
        have hcv1 := hcd0.out w2
        generalize strB [byo ((a[k]'h1).toNat + 1)] = Z at *
        go_region
        all_goals go_wp2
        all_goals go_ret2
        all_goals exact ⟨by rw [hf.out.2]; rfl, (hx2.out.alloc_right _).drew_right⟩
    · obtain rfl : k = a.size := by omega
      have hc := cmn_stop hinv.out (Or.inl (len_toList a).symm)
      have hkb : a.size < b.size := by have := hl1.out; omega
      have hf : Hid (S = a ++ ⟨#[0]⟩ ∧ E = 0) := by
        unfold Hid
        refine ⟨?_, hy.out.2⟩
        rw [hy.out.1]
        unfold shoL
        rw [hc, if_pos (len_toList a).symm, ← strB_add, strB_id]
        rfl
      have ad := str_add a ⟨#[0]⟩ (by show _ + 1 ≤ _; omega)
      rw [← hf.out.1] at ad
      have hz : 1 ≤ (b.extract a.size b.size).size := by rw [ByteArray.size_extract]; omega
      have hq := hid (fun w => shortest_any (b.extract a.size b.size) hz w)
      have d1 : decide ((a.size : Int) < (a.size : Int)) = false := by simp
      clear hy hl1 hl2 hinv hc hz
      go_wp2
      go_quiet (fail)
      go_wp2_with fail
      refine (hq.out _).mono ?_
      rintro e w' ⟨rfl, rfl⟩
      go_wp2
      go_ret2
      exact ⟨by rw [hf.out.2]; rfl, hx.out.drewN_right _⟩
end Go.Proofs.YtlfanhlkoepodaaDoor
