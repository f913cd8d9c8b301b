/-
  Parts of texts, and where one stands in another: the program and the reference.
-/
import Derived.Test.YtkjcfnmbnddhjaaDoorVd3
import Derived.Shelf.Vars
import Derived.Lib.IndexMore
import Derived.Lib.IndexBytes
namespace Go.Proofs.YtkjcfnmbnddhjaaDoor
open Go.RowKit
set_option linter.unusedVariables false
set_option linter.unusedSimpArgs false
theorem ml_cell {w : World} (h : w.ShapedOpen Tryd.prog) : ∃ m, w.cell? ⟨0, 0, none⟩ = some (.int .i64 m) :=
  cell_of_shapedOpen_int (t := 3) (zero := #[.int .i64 0]) h (of_decide_eq_true (by kernel_rfl)) (by kernel_rfl) (by kernel_rfl) (by kernel_rfl) (by kernel_rfl) Tryd.underlying3
/-- Whether one of the first n texts is too long. -/
def longB (f : Nat → ByteArray) : Nat → Bool
  | 0 => false
  | k + 1 => longB f k || decide (2048 < (f k).size)
def longE (f : Nat → ByteArray) (n : Nat) : Int := if longB f n then 3 else 0
theorem long_more (f : Nat → ByteArray) {k : Nat} (h : 2048 < (f k).size) : ∀ n, k < n → longB f n = true
  | 0, h0 => by omega
  | n + 1, h0 => by
    rw [longB]
    by_cases e : k = n
    · subst e; simp [h]
    · rw [long_more f h n (by omega)]; rfl
set_option maxRecDepth 100000 in
set_option maxHeartbeats 2000000 in
theorem long_any (f : Nat → ByteArray) (n g : Nat) (w : World) (hn : n ≤ 100) (H : ∀ k, k < n → w.cell? ⟨g, k, none⟩ = some (.string (f k))) : Calls Tryd.prog 81 #[.slice (some ⟨g, 0, none⟩) n n] w fun e w' => e = .returned (.int .i64 (longE f n)) ∧ w = w' := by
  have H := hid H
  go_enter Tryd.func81, Tryd.ntmps81
  go_wp2
  go_loopw [7] (fun i wr => (∃ k : Nat, k ≤ n ∧ i = .int .i64 k ∧ Hid (longB f k = false)) ∧ wr = w) (fun i _ => n - (intOf i).toNat)
  case atStart => exact ⟨⟨0, by omega, rfl, rfl⟩, rfl⟩
  case round =>
    obtain ⟨⟨k, hk, rfl, hinv⟩, rfl⟩ := hrel
    by_cases hlt : k < n
    · have hc := H.out k hlt
      by_cases hb : 2048 < (f k).size
      · have d1 : decide ((2048 : Int) < ((f k).size : Int)) = true := by simp; omega
        have hn : Hid (longE f n = 3) := by unfold Hid longE; rw [long_more f hb n hlt]; rfl
        clear hb
        go_wp2
        go_ret
        exact ⟨by rw [hn.out]; rfl, rfl⟩
      · have d1 : decide ((2048 : Int) < ((f k).size : Int)) = false := by simp; omega
        have hn : Hid (longB f (k + 1) = false) := by unfold Hid; rw [longB, hinv.out]; simp; omega
        clear hb
        go_wp2
        go_roundw
        case rel => exact ⟨⟨k + 1, by omega, by go_num, hn⟩, by trivial⟩
        case measure => simp [intOf]; omega
    · obtain rfl : k = n := by omega
      have hn : Hid (longE f k = 0) := by unfold Hid longE; rw [hinv.out]; rfl
      go_wp2
      go_ret
      exact ⟨by rw [hn.out]; rfl, rfl⟩
theorem long1_any (s : ByteArray) (g : Nat) (w : World) (h : w.cell? ⟨g, 0, none⟩ = some (.string s)) : Calls Tryd.prog 81 #[.slice (some ⟨g, 0, none⟩) 1 1] w fun e w' => e = .returned (.int .i64 (if 2048 < s.size then 3 else 0)) ∧ w = w' := by
  refine (long_any (fun _ => s) 1 g w (by omega) (fun k hk => by obtain rfl : k = 0 := (by omega); exact h)).mono ?_
  rintro e w' ⟨rfl, rfl⟩
  refine ⟨?_, rfl⟩
  congr 2
  unfold longE longB longB
  by_cases hs : 2048 < s.size <;> simp [hs]
theorem long2_any (s t : ByteArray) (g : Nat) (w : World) (h : w.cell? ⟨g, 0, none⟩ = some (.string s)) (h1 : w.cell? ⟨g, 1, none⟩ = some (.string t)) : Calls Tryd.prog 81 #[.slice (some ⟨g, 0, none⟩) 2 2] w fun e w' => e = .returned (.int .i64 (if 2048 < s.size ∨ 2048 < t.size then 3 else 0)) ∧ w = w' := by
  refine (long_any (fun k => if k = 0 then s else t) 2 g w (by omega) (fun k hk => by
    have : k = 0 ∨ k = 1 := by omega
    rcases this with rfl | rfl
    · exact h
    · exact h1)).mono ?_
  rintro e w' ⟨rfl, rfl⟩
  refine ⟨?_, rfl⟩
  congr 2
  unfold longE longB longB longB
  by_cases hs : 2048 < s.size <;> by_cases ht : 2048 < t.size <;> simp [hs, ht]
theorem long3_any (s t u : ByteArray) (g : Nat) (w : World) (h : w.cell? ⟨g, 0, none⟩ = some (.string s)) (h1 : w.cell? ⟨g, 1, none⟩ = some (.string t)) (h2 : w.cell? ⟨g, 2, none⟩ = some (.string u)) : Calls Tryd.prog 81 #[.slice (some ⟨g, 0, none⟩) 3 3] w fun e w' => e = .returned (.int .i64 (if 2048 < s.size ∨ 2048 < t.size ∨ 2048 < u.size then 3 else 0)) ∧ w = w' := by
  refine (long_any (fun k => if k = 0 then s else if k = 1 then t else u) 3 g w (by omega) (fun k hk => by
    have : k = 0 ∨ k = 1 ∨ k = 2 := by omega
    rcases this with rfl | rfl | rfl
    · exact h
    · exact h1
    · exact h2)).mono ?_
  rintro e w' ⟨rfl, rfl⟩
  refine ⟨?_, rfl⟩
  congr 2
  unfold longE longB longB longB longB
  by_cases hs : 2048 < s.size <;> by_cases ht : 2048 < t.size <;> by_cases hu : 2048 < u.size <;> simp [hs, ht, hu]
theorem rlong_any (s : ByteArray) (w : World) : Calls Tryd.prog 83 #[.string s] w fun e w' => e = .returned (.bool (decide (2048 < s.size))) ∧ w = w' := by
  have hd : Hid (decide ((2048 : Int) < (s.size : Int)) = decide (2048 < s.size)) := by unfold Hid; rw [Bool.eq_iff_iff]; simp; omega
  go_enter Tryd.func83, Tryd.ntmps83
  go_wp2
  go_ret
  exact ⟨ret_bool (by first | rfl | exact hd.out), rfl⟩
set_option maxRecDepth 100000 in
theorem kept_any (s : ByteArray) (w : World) : Calls Tryd.prog 85 #[.string s] w fun e w' => e = .returned (.tuple #[.string (if 2048 < s.size then ByteArray.empty else s), .int .i64 (if 2048 < s.size then 3 else 0)]) ∧ w = w' := by
  by_cases h : 2048 < s.size
  · have d1 : decide ((2048 : Int) < (s.size : Int)) = true := by simp; omega
    have d2 : decide (2048 < s.size) = true := by simpa using h
    rw [if_pos h, if_pos h]
    clear h
    go_enter Tryd.func85, Tryd.ntmps85
    go_wp2
    go_ret2
    exact ⟨rfl, rfl⟩
  · have d1 : decide ((2048 : Int) < (s.size : Int)) = false := by simp; omega
    have d2 : decide (2048 < s.size) = false := by simpa using h
    rw [if_neg h, if_neg h]
    clear h
    go_enter Tryd.func85, Tryd.ntmps85
    go_wp2
    go_ret2
    exact ⟨rfl, rfl⟩
set_option maxRecDepth 100000 in
theorem fit_any (s : ByteArray) (w : World) : Calls Tryd.prog 86 #[.string s] w fun e w' => e = .returned (.tuple #[.string (if 2048 < s.size then ByteArray.empty else s), .int .i64 (if 2048 < s.size then 3 else 0)]) ∧ w = w' := by
  by_cases h : 2048 < s.size
  · have d1 : decide ((2048 : Int) < (s.size : Int)) = true := by simp; omega
    have d2 : decide (2048 < s.size) = true := by simpa using h
    rw [if_pos h, if_pos h]
    clear h
    go_enter Tryd.func86, Tryd.ntmps86
    go_wp2_with fail
    refine (rlong_any _ _).mono ?_
    rintro e w' ⟨rfl, rfl⟩
    go_wp2
    go_ret2
    exact ⟨rfl, rfl⟩
  · have d1 : decide ((2048 : Int) < (s.size : Int)) = false := by simp; omega
    have d2 : decide (2048 < s.size) = false := by simpa using h
    rw [if_neg h, if_neg h]
    clear h
    go_enter Tryd.func86, Tryd.ntmps86
    go_wp2_with fail
    refine (rlong_any _ _).mono ?_
    rintro e w' ⟨rfl, rfl⟩
    go_wp2
    go_ret2
    exact ⟨rfl, rfl⟩
def bgI (s : ByteArray) (fr : Int) : Int := min (max fr 1 - 1) s.size
def enI (s : ByteArray) (fr n : Int) : Int := bgI s fr + min (max n 0) (s.size - bgI s fr)
theorem bg_in (s : ByteArray) (fr n : Int) : 0 ≤ bgI s fr ∧ bgI s fr ≤ enI s fr n ∧ enI s fr n ≤ s.size := by unfold enI bgI; omega
theorem ret_ints {a b c d : Int} (h : a = c) (k : b = d) : Ending.returned (.tuple #[.int .i64 a, .int .i64 b]) = .returned (.tuple #[.int .i64 c, .int .i64 d]) := by rw [h, k]
set_option maxRecDepth 100000 in
set_option maxHeartbeats 2000000 in
theorem bounds_any (s : ByteArray) (fr n : Int) (hs : s.size ≤ 100000) (h1 : -9223372036854775808 ≤ fr ∧ fr ≤ 9223372036854775807) (h2 : -9223372036854775808 ≤ n ∧ n ≤ 9223372036854775807) (w : World) : Calls Tryd.prog 82 #[.string s, .int .i64 fr, .int .i64 n] w fun e w' => e = .returned (.tuple #[.int .i64 (bgI s fr), .int .i64 (enI s fr n)]) ∧ w = w' := by
  obtain ⟨h1a, h1b⟩ := h1
  obtain ⟨h2a, h2b⟩ := h2
  go_enter Tryd.func82, Tryd.ntmps82
  go_wp2
  go_ret2
  exact ⟨ret_ints (by unfold bgI; omega) (by unfold enI bgI; omega), rfl⟩
set_option maxRecDepth 100000 in
set_option maxHeartbeats 2000000 in
theorem cut_any (s : ByteArray) (fr n : Int) (hs : s.size ≤ 100000) (h1 : -9223372036854775808 ≤ fr ∧ fr ≤ 9223372036854775807) (h2 : -9223372036854775808 ≤ n ∧ n ≤ 9223372036854775807) (w : World) : Calls Tryd.prog 84 #[.string s, .int .i64 fr, .int .i64 n] w fun e w' => e = .returned (.tuple #[.int .i64 (bgI s fr), .int .i64 (enI s fr n)]) ∧ w = w' := by
  obtain ⟨h1a, h1b⟩ := h1
  obtain ⟨h2a, h2b⟩ := h2
  go_enter Tryd.func84, Tryd.ntmps84
  go_wp2
  go_ret2
  exact ⟨ret_ints (by unfold bgI; omega) (by unfold enI bgI; omega), rfl⟩
def partS (s : ByteArray) (fr n : Int) : ByteArray := if 2048 < s.size then ByteArray.empty else s.extract (bgI s fr).toNat (enI s fr n).toNat
def partE (s : ByteArray) : Int := if 2048 < s.size then 3 else 0
def stuffB (s : ByteArray) (fr n : Int) (t : ByteArray) : ByteArray := s.extract 0 (bgI s fr).toNat ++ t ++ s.extract (enI s fr n).toNat s.size
def stuffS (s : ByteArray) (fr n : Int) (t : ByteArray) : ByteArray := if 2048 < s.size ∨ 2048 < t.size then ByteArray.empty else if 2048 < (stuffB s fr n t).size then ByteArray.empty else stuffB s fr n t
def stuffE (s : ByteArray) (fr n : Int) (t : ByteArray) : Int := if 2048 < s.size ∨ 2048 < t.size then 3 else if 2048 < (stuffB s fr n t).size then 3 else 0
def WfI (n : Int) : Prop := -9223372036854775808 ≤ n ∧ n ≤ 9223372036854775807
set_option maxRecDepth 100000 in
set_option maxHeartbeats 2000000 in
theorem Part_any (s : ByteArray) (fr n : Int) (h1 : WfI fr) (h2 : WfI n) (w : World) : Calls Tryd.prog 29 #[.string s, .int .i64 fr, .int .i64 n] w (GiveSE (partS s fr n) (partE s) w) := by
  by_cases h : 2048 < s.size
  · have e1 : partS s fr n = ByteArray.empty := by unfold partS; rw [if_pos h]
    have e2 : partE s = 3 := by unfold partE; rw [if_pos h]
    rw [e1, e2]
    clear e1 e2 h1 h2
    have d2 : decide (2048 < s.size) = true := by simpa using h
    go_enter Tryd.func29, Tryd.ntmps29
    go_wp2_with fail
    refine (long1_any s _ _ (by go_simp)).mono ?_
    rintro e w' ⟨rfl, rfl⟩
    go_wp2
    go_ret2
    exact ⟨rfl, (Ext.refl _).alloc_right _⟩
  · have e1 : partS s fr n = s.extract (bgI s fr).toNat (enI s fr n).toNat := by unfold partS; rw [if_neg h]
    have e2 : partE s = 0 := by unfold partE; rw [if_neg h]
    rw [e1, e2]
    clear e1 e2
    have d2 : decide (2048 < s.size) = false := by simpa using h
    have hb := bg_in s fr n
    have hc := hid (fun w => bounds_any s fr n (by omega) h1 h2 w)
    clear h1 h2
    obtain ⟨hb1, hb2, hb3⟩ := hb
    generalize bgI s fr = b at *
    generalize enI s fr n = x at *
    obtain ⟨j, rfl⟩ : ∃ j : Nat, b = (j : Int) := ⟨b.toNat, by omega⟩
    obtain ⟨k, rfl⟩ : ∃ k : Nat, x = (k : Int) := ⟨x.toNat, by omega⟩
    go_enter Tryd.func29, Tryd.ntmps29
    go_wp2_with fail
    refine (long1_any s _ _ (by go_simp)).mono ?_
    rintro e w' ⟨rfl, rfl⟩
    go_wp2_with fail
    refine (hc.out _).mono ?_
    rintro e w' ⟨rfl, rfl⟩
    go_wp2
    go_ret2
    exact ⟨rfl, (Ext.refl _).alloc_right _⟩
set_option maxRecDepth 100000 in
set_option maxHeartbeats 2000000 in
theorem rPart_any (s : ByteArray) (fr n : Int) (h1 : WfI fr) (h2 : WfI n) (w : World) : Calls Tryd.prog 30 #[.string s, .int .i64 fr, .int .i64 n] w (GiveSE (partS s fr n) (partE s) w) := by
  by_cases h : 2048 < s.size
  · have e1 : partS s fr n = ByteArray.empty := by unfold partS; rw [if_pos h]
    have e2 : partE s = 3 := by unfold partE; rw [if_pos h]
    rw [e1, e2]
    clear e1 e2 h1 h2
    have d2 : decide (2048 < s.size) = true := by simpa using h
    go_enter Tryd.func30, Tryd.ntmps30
    go_wp2_with fail
    refine (rlong_any _ _).mono ?_
    rintro e w' ⟨rfl, rfl⟩
    go_wp2
    go_ret2
    exact ⟨rfl, Ext.refl _⟩
  · have e1 : partS s fr n = s.extract (bgI s fr).toNat (enI s fr n).toNat := by unfold partS; rw [if_neg h]
    have e2 : partE s = 0 := by unfold partE; rw [if_neg h]
    rw [e1, e2]
    clear e1 e2
    have d2 : decide (2048 < s.size) = false := by simpa using h
    have hb := bg_in s fr n
    have hc := hid (fun w => cut_any s fr n (by omega) h1 h2 w)
    clear h1 h2
    obtain ⟨hb1, hb2, hb3⟩ := hb
    generalize bgI s fr = b at *
    generalize enI s fr n = x at *
    obtain ⟨j, rfl⟩ : ∃ j : Nat, b = (j : Int) := ⟨b.toNat, by omega⟩
    obtain ⟨k, rfl⟩ : ∃ k : Nat, x = (k : Int) := ⟨x.toNat, by omega⟩
    go_enter Tryd.func30, Tryd.ntmps30
    go_wp2_with fail
    refine (rlong_any _ _).mono ?_
    rintro e w' ⟨rfl, rfl⟩
    go_wp2_with fail
    refine (hc.out _).mono ?_
    rintro e w' ⟨rfl, rfl⟩
    go_wp2
    go_ret2
    exact ⟨rfl, Ext.refl _⟩
set_option maxRecDepth 100000 in
set_option maxHeartbeats 2000000 in
theorem Stuff_any (s : ByteArray) (fr n : Int) (t : ByteArray) (h1 : WfI fr) (h2 : WfI n) (w : World) : Calls Tryd.prog 31 #[.string s, .int .i64 fr, .int .i64 n, .string t] w (GiveSE (stuffS s fr n t) (stuffE s fr n t) w) := by
  by_cases h : 2048 < s.size ∨ 2048 < t.size
  · have e1 : stuffS s fr n t = ByteArray.empty := by unfold stuffS; rw [if_pos h]
    have e2 : stuffE s fr n t = 3 := by unfold stuffE; rw [if_pos h]
    rw [e1, e2]
    clear e1 e2 h1 h2
    have hl := hid (fun w g h0 h1 => long2_any s t g w h0 h1)
    rw [if_pos h] at hl
    clear h
    go_enter Tryd.func31, Tryd.ntmps31
    go_wp2_with fail
    refine (hl.out _ _ (by go_simp) (by go_simp)).mono ?_
    rintro e w' ⟨rfl, rfl⟩
    go_wp2
    go_ret2
    exact ⟨rfl, (Ext.refl _).alloc_right _⟩
  · have e1 : stuffS s fr n t = if 2048 < (stuffB s fr n t).size then ByteArray.empty else stuffB s fr n t := by unfold stuffS; rw [if_neg h]
    have e2 : stuffE s fr n t = if 2048 < (stuffB s fr n t).size then 3 else 0 := by unfold stuffE; rw [if_neg h]
    rw [e1, e2]
    clear e1 e2
    have hs : s.size ≤ 2048 := by omega
    have ht : t.size ≤ 2048 := by omega
    have hb := bg_in s fr n
    have hc := hid (fun w => bounds_any s fr n (by omega) h1 h2 w)
    have hl := hid (fun w g h0 h1 => long2_any s t g w h0 h1)
    rw [if_neg h] at hl
    clear h h1 h2
    have hk := hid (fun w => kept_any (stuffB s fr n t) w)
    generalize (if 2048 < (stuffB s fr n t).size then ByteArray.empty else stuffB s fr n t) = R at *
    generalize (if 2048 < (stuffB s fr n t).size then (3 : Int) else 0) = E at *
    unfold stuffB at hk
    obtain ⟨hb1, hb2, hb3⟩ := hb
    generalize bgI s fr = b at *
    generalize enI s fr n = x at *
    obtain ⟨j, rfl⟩ : ∃ j : Nat, b = (j : Int) := ⟨b.toNat, by omega⟩
    obtain ⟨k, rfl⟩ : ∃ k : Nat, x = (k : Int) := ⟨x.toNat, by omega⟩
    have a1 := str_add (s.extract 0 j) t (by rw [ByteArray.size_extract]; omega)
    have a2 := str_add (s.extract 0 j ++ t) (s.extract k s.size) (by rw [ByteArray.size_append, ByteArray.size_extract, ByteArray.size_extract]; omega)
    go_enter Tryd.func31, Tryd.ntmps31
    go_wp2_with fail
    refine (hl.out _ _ (by go_simp) (by go_simp)).mono ?_
    rintro e w' ⟨rfl, rfl⟩
    go_wp2_with fail
    refine (hc.out _).mono ?_
    rintro e w' ⟨rfl, rfl⟩
    go_wp2_with fail
    go_quiet ((go_at_call 85; exact quiet_left (hk.out _)))
    go_wp2
    go_ret2
    exact ⟨rfl, ((Ext.refl _).alloc_right _).drewN_right _⟩
set_option maxRecDepth 100000 in
set_option maxHeartbeats 2000000 in
theorem rStuff_any (s : ByteArray) (fr n : Int) (t : ByteArray) (h1 : WfI fr) (h2 : WfI n) (w : World) : Calls Tryd.prog 32 #[.string s, .int .i64 fr, .int .i64 n, .string t] w (GiveSE (stuffS s fr n t) (stuffE s fr n t) w) := by
  by_cases h : 2048 < s.size ∨ 2048 < t.size
  · have e1 : stuffS s fr n t = ByteArray.empty := by unfold stuffS; rw [if_pos h]
    have e2 : stuffE s fr n t = 3 := by unfold stuffE; rw [if_pos h]
    rw [e1, e2]
    clear e1 e2 h1 h2
    by_cases hs : 2048 < s.size
    · have d2 : decide (2048 < s.size) = true := by simpa using hs
      clear h
      go_enter Tryd.func32, Tryd.ntmps32
      go_wp2_with fail
      refine (rlong_any _ _).mono ?_
      rintro e w' ⟨rfl, rfl⟩
      go_wp2
      go_ret2
      exact ⟨rfl, Ext.refl _⟩
    · have d2 : decide (2048 < s.size) = false := by simpa using hs
      have d3 : decide (2048 < t.size) = true := by simp; omega
      clear h hs
      go_enter Tryd.func32, Tryd.ntmps32
      go_wp2_with fail
      refine (rlong_any _ _).mono ?_
      rintro e w' ⟨rfl, rfl⟩
      go_wp2_with fail
      refine (rlong_any _ _).mono ?_
      rintro e w' ⟨rfl, rfl⟩
      go_wp2
      go_ret2
      exact ⟨rfl, Ext.refl _⟩
  · have e1 : stuffS s fr n t = if 2048 < (stuffB s fr n t).size then ByteArray.empty else stuffB s fr n t := by unfold stuffS; rw [if_neg h]
    have e2 : stuffE s fr n t = if 2048 < (stuffB s fr n t).size then 3 else 0 := by unfold stuffE; rw [if_neg h]
    rw [e1, e2]
    clear e1 e2
    have hs : s.size ≤ 2048 := by omega
    have ht : t.size ≤ 2048 := by omega
    have hb := bg_in s fr n
    have hc := hid (fun w => cut_any s fr n (by omega) h1 h2 w)
    have d2 : decide (2048 < s.size) = false := by simp; omega
    have d3 : decide (2048 < t.size) = false := by simp; omega
    clear h h1 h2
    have hk := hid (fun w => fit_any (stuffB s fr n t) w)
    generalize (if 2048 < (stuffB s fr n t).size then ByteArray.empty else stuffB s fr n t) = R at *
    generalize (if 2048 < (stuffB s fr n t).size then (3 : Int) else 0) = E at *
    unfold stuffB at hk
    obtain ⟨hb1, hb2, hb3⟩ := hb
    generalize bgI s fr = b at *
    generalize enI s fr n = x at *
    obtain ⟨j, rfl⟩ : ∃ j : Nat, b = (j : Int) := ⟨b.toNat, by omega⟩
    obtain ⟨k, rfl⟩ : ∃ k : Nat, x = (k : Int) := ⟨x.toNat, by omega⟩
    have a1 := str_add (s.extract 0 j) t (by rw [ByteArray.size_extract]; omega)
    have a2 := str_add (s.extract 0 j ++ t) (s.extract k s.size) (by rw [ByteArray.size_append, ByteArray.size_extract, ByteArray.size_extract]; omega)
    go_enter Tryd.func32, Tryd.ntmps32
    go_wp2_with fail
    refine (rlong_any _ _).mono ?_
    rintro e w' ⟨rfl, rfl⟩
    go_wp2_with fail
    refine (rlong_any _ _).mono ?_
    rintro e w' ⟨rfl, rfl⟩
    go_wp2_with fail
    refine (hc.out _).mono ?_
    rintro e w' ⟨rfl, rfl⟩
    go_wp2_with fail
    go_quiet ((go_at_call 86; exact quiet_left (hk.out _)))
    go_wp2
    go_ret2
    exact ⟨rfl, (Ext.refl _).drewN_right _⟩
end Go.Proofs.YtkjcfnmbnddhjaaDoor
