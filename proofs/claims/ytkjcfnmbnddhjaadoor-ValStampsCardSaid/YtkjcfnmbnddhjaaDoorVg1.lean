/-
  Which day a stamp is: the program and the reference; the law of stamps.
-/
import Derived.Test.YtkjcfnmbnddhjaaDoorVgP
import Derived.Deep.RegionHeld3
namespace Go.Proofs.YtkjcfnmbnddhjaaDoor
open Go.RowKit
set_option linter.unusedVariables false
set_option linter.unusedSimpArgs false
theorem bl8_list : bl8.toList = [32, 32, 32, 32, 32, 32, 32, 32] := by rw [ByteArray.toList_eq]; rfl
theorem trimD_any (s : ByteArray) (hs : s.size ≤ maxLen) : ∃ u : ByteArray, (∀ w, Calls Tryd.prog 100 #[.string s, .string ⟨#[48, 49, 50, 51, 52, 53, 54, 55, 56, 57]⟩] w (Give (.string u) w)) ∧ (u.toList = [] ↔ s.toList.all isDg = true) := by
  refine ⟨⟨(Lib.trimS s.data.toList digsL).toArray⟩, fun w => ?_, ?_⟩
  · refine (Any.strings_Trim_laid Tryd.lays160 (by kernel_rfl) s ⟨#[48, 49, 50, 51, 52, 53, 54, 55, 56, 57]⟩ w hs (by decide) (ascii_of_all (by decide))).mono ?_
    rintro e w' ⟨rfl, hb⟩
    exact ⟨rfl, hb⟩
  · rw [← trimS_nil, ByteArray.toList_eq, ByteArray.toList_eq]
def GiveIB (x : Int) (b : Bool) (w : World) (e : Ending) (w' : World) : Prop := e = .returned (.tuple #[.int .i64 x, .bool b]) ∧ Ext w w'
theorem all_step (s : ByteArray) {k : Nat} (hk : k < s.size) : (s.toList.take (k + 1)).all isDg = ((s.toList.take k).all isDg && isDg s[k]) := by
  have hl : k < s.toList.length := by rw [len_toList]; exact hk
  rw [List.take_succ_eq_append_getElem hl, List.all_append]
  congr 1
  simp [ByteArray.toList_eq]
  rfl
theorem all_bad (s : ByteArray) {k : Nat} (hk : k < s.size) (h : isDg s[k] = false) : s.toList.all isDg = false := by
  have hl : k < s.toList.length := by rw [len_toList]; exact hk
  rw [Bool.eq_false_iff]
  intro ha
  rw [List.all_eq_true] at ha
  have := ha s.toList[k] (List.getElem_mem hl)
  rw [show s.toList[k] = s[k] by simp [ByteArray.toList_eq]; rfl, h] at this
  cases this
set_option maxRecDepth 100000 in
set_option maxHeartbeats 4000000 in
theorem Unstamp_any (s : ByteArray) (hs : s.size ≤ maxLen) (w : World) : Calls Tryd.prog 56 #[.string s] w (GiveIB (unO s) (unB s) w) := by
  rcases Bool.eq_false_or_eq_true (s.toList == ([32, 32, 32, 32, 32, 32, 32, 32] : List UInt8)) with q | q
  · have e1 : unO s = 0 := by unfold unO; rw [if_pos (by rw [bl8_list]; simpa using q)]
    have e2 : unB s = true := by unfold unB; rw [if_pos (by rw [bl8_list]; simpa using q)]
    rw [e1, e2]
    clear e1 e2
    go_enter Tryd.func56, Tryd.ntmps56
    go_wp2
    go_ret2
    exact ⟨rfl, Ext.refl _⟩
  have e1 : unO s = if s.size = 8 ∧ s.toList.all isDg = true then dayO (unA s) (unM s) (unD s) else 0 := by unfold unO; rw [if_neg (by rw [bl8_list]; simpa using q)]
  have e2 : unB s = if s.size = 8 ∧ s.toList.all isDg = true then dayE (unA s) (unM s) (unD s) == 0 else false := by unfold unB; rw [if_neg (by rw [bl8_list]; simpa using q)]
  rw [e1, e2]
  clear e1 e2
  by_cases h8 : s.size = 8
  rotate_left
  · rw [if_neg (by omega), if_neg (by omega)]
    have d1 : ((s.size : Int) != 8) = true := by simp; omega
    clear h8
    go_enter Tryd.func56, Tryd.ntmps56
    go_wp2
    go_ret2
    exact ⟨rfl, Ext.refl _⟩
  obtain ⟨u, hu, hiff⟩ := trimD_any s hs
  have hu := hid hu
  have d1 : ((s.size : Int) != 8) = false := by simp; omega
  rcases Bool.eq_false_or_eq_true (s.toList.all isDg) with ha | ha
  rotate_left
  · rw [if_neg (by rw [ha]; simp), if_neg (by rw [ha]; simp)]
    have l0 : u.toList ≠ [] := fun e => by have := hiff.1 e; rw [ha] at this; cases this
    have l1 : u.toList.isEmpty = false := by simpa using l0
    have l2 : (!u.toList.isEmpty) = true := by rw [l1]; rfl
    clear h8 ha hiff l0
    go_enter Tryd.func56, Tryd.ntmps56
    go_wp2_with fail
    refine (hu.out _).mono ?_
    rintro e w1 ⟨rfl, hx⟩
    go_wp2
    go_ret2
    exact ⟨rfl, hx⟩
  rw [if_pos ⟨h8, ha⟩, if_pos ⟨h8, ha⟩]
  have l1 : u.toList = [] := hiff.2 ha
  have hv := hid (fun a b w => Val_any (s.extract a b) (by rw [ByteArray.size_extract]; unfold maxLen; omega) w)
  have hd := hid (fun w => Days_any (unA s) (unM s) (unD s) w)
  have p1 := hid (show unA s = valI (s.extract 0 4) from rfl)
  have p2 := hid (show unM s = valI (s.extract 4 6) from rfl)
  have p3 := hid (show unD s = valI (s.extract 6 s.size) from rfl)
  have g1 : (4 : Int) ≤ (s.size : Int) := by omega
  have g2 : (6 : Int) ≤ (s.size : Int) := by omega
  have g3 : 6 ≤ s.size := by omega
  have g4 : 4 ≤ s.size := by omega
  clear h8 ha hiff
  generalize unA s = A at *
  generalize unM s = M at *
  generalize unD s = D at *
  generalize dayO A M D = O at *
  generalize dayE A M D = E at *
  go_enter Tryd.func56, Tryd.ntmps56
  go_wp2_with fail
  refine (hu.out _).mono ?_
  rintro e w1 ⟨rfl, hx⟩
  have hE := hid hx
  clear hx
  go_wp2_with fail
  go_region_held3 (fun w' => Ext w w')
    ((first | exact hE.out.drew_right | exact Ext.drew_right (by assumption) | exact Ext.trans (by assumption) (by assumption) | assumption))
    ((first | (go_at_call 50; refine (hv.out _ _ _).mono ?_; rintro e w2 ⟨rfl, rfl⟩) | (go_at_call 22; rw [← p1.out, ← p2.out, ← p3.out]; refine (hd.out _).mono ?_; rintro e w3 ⟨rfl, hx3⟩)))
  go_wp2
  go_ret2
  exact ⟨rfl, Ext.trans hE.out.drew_right hx3⟩
set_option maxRecDepth 100000 in
set_option maxHeartbeats 4000000 in
theorem rUnstamp_any (s : ByteArray) (hs : s.size ≤ maxLen) (w : World) : Calls Tryd.prog 57 #[.string s] w (GiveIB (unO s) (unB s) w) := by
  rcases Bool.eq_false_or_eq_true (s.toList == ([32, 32, 32, 32, 32, 32, 32, 32] : List UInt8)) with q | q
  · have e1 : unO s = 0 := by unfold unO; rw [if_pos (by rw [bl8_list]; simpa using q)]
    have e2 : unB s = true := by unfold unB; rw [if_pos (by rw [bl8_list]; simpa using q)]
    rw [e1, e2]
    clear e1 e2
    go_enter Tryd.func57, Tryd.ntmps57
    go_wp2
    go_ret2
    exact ⟨rfl, Ext.refl _⟩
  have e1 : unO s = if s.size = 8 ∧ s.toList.all isDg = true then dayO (unA s) (unM s) (unD s) else 0 := by unfold unO; rw [if_neg (by rw [bl8_list]; simpa using q)]
  have e2 : unB s = if s.size = 8 ∧ s.toList.all isDg = true then dayE (unA s) (unM s) (unD s) == 0 else false := by unfold unB; rw [if_neg (by rw [bl8_list]; simpa using q)]
  rw [e1, e2]
  clear e1 e2
  by_cases h8 : s.size = 8
  rotate_left
  · rw [if_neg (by omega), if_neg (by omega)]
    have d1 : ((s.size : Int) != 8) = true := by simp; omega
    clear h8
    go_enter Tryd.func57, Tryd.ntmps57
    go_wp2
    go_ret2
    exact ⟨rfl, Ext.refl _⟩
  have d1 : ((s.size : Int) != 8) = false := by simp; omega
  have hO : Hid ((if s.size = 8 ∧ s.toList.all isDg = true then dayO (unA s) (unM s) (unD s) else 0) = if s.toList.all isDg = true then dayO (unA s) (unM s) (unD s) else 0) := by unfold Hid; simp [h8]
  have hB : Hid ((if s.size = 8 ∧ s.toList.all isDg = true then dayE (unA s) (unM s) (unD s) == 0 else false) = if s.toList.all isDg = true then dayE (unA s) (unM s) (unD s) == 0 else false) := by unfold Hid; simp [h8]
  rw [hO.out, hB.out]
  clear hO hB
  have hv := hid (fun a b w => rVal_any (s.extract a b) (by rw [ByteArray.size_extract]; unfold maxLen; omega) w)
  have hd := hid (fun w => rDays_any (unA s) (unM s) (unD s) w)
  have p1 := hid (show unA s = valI (s.extract 0 4) from rfl)
  have p2 := hid (show unM s = valI (s.extract 4 6) from rfl)
  have p3 := hid (show unD s = valI (s.extract 6 s.size) from rfl)
  have g1 : (4 : Int) ≤ (s.size : Int) := by omega
  have g2 : (6 : Int) ≤ (s.size : Int) := by omega
  have g3 : 6 ≤ s.size := by omega
  have g4 : 4 ≤ s.size := by omega
  have g5 : 8 ≤ s.size := by omega
  replace h8 := hid h8
  generalize unA s = A at *
  generalize unM s = M at *
  generalize unD s = D at *
  generalize dayO A M D = O at *
  generalize dayE A M D = E at *
  obtain ⟨X, hX⟩ : ∃ X, X = (if s.toList.all isDg = true then O else 0) := ⟨_, rfl⟩
  obtain ⟨Y, hY⟩ : ∃ Y, Y = (if s.toList.all isDg = true then (E == 0) else false) := ⟨_, rfl⟩
  rw [← hX, ← hY]
  replace hX := hid hX
  replace hY := hid hY
  go_enter Tryd.func57, Tryd.ntmps57
  go_wp2
  go_loopw [4] (fun i wr => (∃ k : Nat, k ≤ 8 ∧ i = .int .i64 k ∧ Hid ((s.toList.take k).all isDg = true)) ∧ wr = w) (fun i _ => 8 - (intOf i).toNat)
  case atStart => exact ⟨⟨0, by omega, rfl, by unfold Hid; simp⟩, rfl⟩
  case round =>
    obtain ⟨⟨k, hk, rfl, hinv⟩, rfl⟩ := hrel
    by_cases hlt : k < 8
    · have hks : k < s.size := by omega
      rcases Bool.eq_false_or_eq_true (isDg (s[k]'hks)) with q1 | q1
      · have hn : Hid ((s.toList.take (k + 1)).all isDg = true) := by unfold Hid; rw [all_step s hks, hinv.out, q1]; rfl
        have d3 : decide ((k : Int) < 8) = true := by simp; omega
        go_wp2_with (go_at_call 99; refine (IsDigit_any _ _).mono ?_; rintro e w' ⟨rfl, rfl⟩)
        go_roundw
        case rel => exact ⟨⟨k + 1, by omega, by go_num, hn⟩, by trivial⟩
        case measure => simp [intOf]; omega
      · have hbad := hid (all_bad s hks q1)
        have r1 : Hid (X = 0) := by unfold Hid; rw [hX.out, hbad.out]; rfl
        have r2 : Hid (Y = false) := by unfold Hid; rw [hY.out, hbad.out]; rfl
        have d3 : decide ((k : Int) < 8) = true := by simp; omega
        go_wp2_with (go_at_call 99; refine (IsDigit_any _ _).mono ?_; rintro e w' ⟨rfl, rfl⟩)
        go_ret2
        exact ⟨by rw [r1.out, r2.out]; rfl, Ext.refl _⟩
    · obtain rfl : k = 8 := by omega
      have ha : Hid (s.toList.all isDg = true) := by
        have := hinv.out
        rwa [List.take_of_length_le (by rw [len_toList, h8.out]; omega)] at this
      have r1 : Hid (X = O) := by unfold Hid; rw [hX.out, ha.out]; rfl
      have r2 : Hid (Y = (E == 0)) := by unfold Hid; rw [hY.out, ha.out]; rfl
      clear hlt
      go_wp2
      go_region_held3 (fun w' => Ext wr w')
        ((first | exact (Ext.refl _).drew_right | exact Ext.drew_right (by assumption) | exact Ext.trans (by assumption) (by assumption) | assumption))
        ((first | (go_at_call 51; refine (hv.out _ _ _).mono ?_; rintro e w2 ⟨rfl, rfl⟩) | (go_at_call 23; rw [← p1.out, ← p2.out, ← p3.out]; refine (hd.out _).mono ?_; rintro e w3 ⟨rfl, rfl⟩)))
      go_wp2
      go_ret2
      exact ⟨by rw [r1.out, r2.out]; rfl, (Ext.refl _).drew_right⟩
set_option maxRecDepth 100000 in
set_option maxHeartbeats 4000000 in
theorem stamps_law (s : ByteArray) (day : Int) (w : World) (hs : s.size ≤ maxLen) (_ : (Lit.int .i64 day).wf = true) : Calls Tryd.prog 15 #[.string s, .int .i64 day] w (Give (.bool true) w) := by
  by_cases hl : 20000 < s.size
  · have d1 : decide ((20000 : Int) < (s.size : Int)) = true := by simp; omega
    clear hs
    go_enter Tryd.func15, Tryd.ntmps15
    go_wp2_with fail
    refine (known_any _).mono ?_
    rintro e w1 ⟨rfl, hx⟩
    go_wp2
    go_ret
    exact ⟨rfl, hx⟩
  have d1 : decide ((20000 : Int) < (s.size : Int)) = false := by simp; omega
  have c1 := hid (fun w => Unstamp_any s hs w)
  have c2 := hid (fun w => rUnstamp_any s hs w)
  have c3 := hid (fun w => Stamp_any day w)
  clear hs hl
  generalize unO s = O at *
  generalize unB s = B at *
  rcases Bool.eq_false_or_eq_true (isDayB day) with hd | hd
  rotate_left
  · rw [stS_no hd, spE_f hd] at c3
    have hb : (B != B) = false := by simp
    go_enter Tryd.func15, Tryd.ntmps15
    go_wp2_with fail
    refine (c1.out _).mono ?_
    rintro e w1 ⟨rfl, hx1⟩
    go_wp2_with fail
    refine (c2.out _).mono ?_
    rintro e w2 ⟨rfl, hx2⟩
    go_wp2_with fail
    refine (c3.out _).mono ?_
    rintro e w3 ⟨rfl, hx3⟩
    go_wp2_with fail
    refine (known_any _).mono ?_
    rintro e w4 ⟨rfl, hx4⟩
    go_wp2
    go_ret
    exact ⟨rfl, ((hx1.trans hx2).trans hx3).trans hx4⟩
  · rw [spE_t hd] at c3
    obtain ⟨b1, b2⟩ := stamp_back hd
    have hz : (stS day).size = 8 := by
      by_cases h0 : day = 0
      · subst h0; rw [stS_0]; rfl
      · rw [stS_yes hd h0]; exact stB_size hd
    have c4 := hid (fun w => Unstamp_any (stS day) (by unfold maxLen; omega) w)
    rw [b1, b2] at c4
    have hb : (B != B) = false := by simp
    clear b1 b2 hz hd
    generalize stS day = S at *
    go_enter Tryd.func15, Tryd.ntmps15
    go_wp2_with fail
    refine (c1.out _).mono ?_
    rintro e w1 ⟨rfl, hx1⟩
    go_wp2_with fail
    refine (c2.out _).mono ?_
    rintro e w2 ⟨rfl, hx2⟩
    go_wp2_with fail
    refine (c3.out _).mono ?_
    rintro e w3 ⟨rfl, hx3⟩
    go_wp2_with fail
    refine (c4.out _).mono ?_
    rintro e w4 ⟨rfl, hx4⟩
    go_wp2_with fail
    refine (known_any _).mono ?_
    rintro e w5 ⟨rfl, hx5⟩
    go_wp2
    go_ret
    exact ⟨rfl, (((hx1.trans hx2).trans hx3).trans hx4).trans hx5⟩
end Go.Proofs.YtkjcfnmbnddhjaaDoor
