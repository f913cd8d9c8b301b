/-
  Texts trimmed and padded: the program and the reference; the law.
-/
import Derived.Test.YtkjcfnmbnddhjaaDoorVe1
import Derived.Deep.DeepCutAuto
import Derived.Deep.DrawnRows
import Derived.Laws.EntriesVeiled
namespace Go.Proofs.YtkjcfnmbnddhjaaDoor
open Go.RowKit
set_option linter.unusedVariables false
set_option linter.unusedSimpArgs false
theorem trR_cons (b : UInt8) (l : List UInt8) (c : Int) : trR (b :: l) c = if trR l c = [] ∧ (b.toNat : Int) = c then [] else b :: trR l c := by
  unfold trR
  rw [List.reverse_cons, List.dropWhile_append]
  by_cases h : l.reverse.dropWhile (fun b => decide ((b.toNat : Int) = c)) = []
  · rw [h]
    by_cases hb : (b.toNat : Int) = c
    · simp [List.dropWhile, hb]
    · simp [List.dropWhile, hb]
  · rw [if_neg (by simpa using h), if_neg (by simp [h])]
    simp
theorem trim_comm (c : Int) : ∀ l : List UInt8, trL (trR l c) c = trR (trL l c) c
  | [] => rfl
  | b :: l => by
    have ih := trim_comm c l
    by_cases hb : (b.toNat : Int) = c
    · have e1 : trL (b :: l) c = trL l c := by unfold trL; rw [List.dropWhile_cons_of_pos (by simpa using hb)]
      rw [e1, trR_cons]
      by_cases hr : trR l c = []
      · rw [if_pos ⟨hr, hb⟩, ← ih, hr]
      · rw [if_neg (fun h => hr h.1), ← ih]
        unfold trL
        rw [List.dropWhile_cons_of_pos (by simpa using hb)]
    · have e1 : trL (b :: l) c = b :: l := by unfold trL; rw [List.dropWhile_cons_of_neg (by simpa using hb)]
      have e2 : trR (b :: l) c = b :: trR l c := by rw [trR_cons, if_neg (fun h => hb h.2)]
      rw [e1, e2]
      unfold trL
      rw [List.dropWhile_cons_of_neg (by simpa using hb)]
theorem pred32 : (fun b : UInt8 => b == 32) = fun b : UInt8 => decide ((b.toNat : Int) = 32) := by
  funext b
  rw [Bool.eq_iff_iff]
  simp only [beq_iff_eq, decide_eq_true_eq]
  exact ⟨fun h => by rw [h]; rfl, fun h => UInt8.toNat_inj.1 (by show b.toNat = 32; omega)⟩
theorem trimB_eq (l : List UInt8) : Lib.trimB l 32 = trR (trL l 32) 32 := by
  rw [← trim_comm]
  unfold Lib.trimB Lib.trimLeftB Lib.trimRightB trL trR
  rw [pred32]
def trimLR (s : ByteArray) : ByteArray := trimR (trimL s 32) 32
theorem trimBoth_any (s : ByteArray) (hs : s.size ≤ maxLen) (w : World) : Calls Tryd.prog 100 #[.string s, .string ⟨#[32]⟩] w (Give (.string (trimLR s)) w) := by
  refine (Tryd.strings_Trim_one s 32 (by decide) w hs).mono ?_
  rintro e w' ⟨rfl, hw⟩
  refine ⟨?_, ?_⟩
  · rw [trimB_eq, ← ByteArray.toList_eq]
    unfold trimLR trimR trimL
    rw [strB_toList]
    rfl
  · rcases hw with rfl | rfl
    · exact Ext.refl _
    · exact (Ext.refl _).drew_right
def sdB (s : ByteArray) (sd : Int) : Bool := decide (s.size ≤ 2048) && (decide (0 ≤ sd) && decide (sd ≤ 2))
def tmS (s : ByteArray) (sd : Int) : ByteArray := if s.size ≤ 2048 then (if sd = 0 then trimR s 32 else if sd = 1 then trimL s 32 else if sd = 2 then trimLR s else ByteArray.empty) else ByteArray.empty
def tmE (s : ByteArray) (sd : Int) : Int := if s.size ≤ 2048 then (if sd = 0 ∨ sd = 1 ∨ sd = 2 then 0 else 1) else 3
set_option maxRecDepth 100000 in
set_option maxHeartbeats 4000000 in
theorem front_any (s : ByteArray) (hs : s.size ≤ maxLen) (w : World) : Calls Tryd.prog 101 #[.string s] w fun e w' => e = .returned (.string (trimL s 32)) ∧ w = w' := by
  unfold maxLen at hs
  go_enter Tryd.func101, Tryd.ntmps101
  go_wp2
  go_loopw [0] (fun v wr => (∃ t : ByteArray, t.size ≤ s.size ∧ v = .string t ∧ Hid (trimL t 32 = trimL s 32)) ∧ wr = w) (fun v _ => sizeOf' v)
  case atStart => exact ⟨⟨s, by omega, rfl, rfl⟩, rfl⟩
  case round =>
    obtain ⟨⟨t, ht, rfl, hinv⟩, rfl⟩ := hrel
    by_cases h0 : t.size = 0
    · have l1 : t.toList = [] := List.eq_nil_of_length_eq_zero (by rw [len_toList]; exact h0)
      have hn : Hid (t = trimL s 32) := by unfold Hid; rw [← hinv.out, triml_none t 32 h0]
      clear h0
      go_wp2
      go_ret
      exact ⟨by rw [← hn.out]; rfl, rfl⟩
    · have l0 : t.toList ≠ [] := by intro e; have := len_toList t; rw [e] at this; simp at this; omega
      have l1 : t.toList.isEmpty = false := by simpa using l0
      have l2 : (!t.toList.isEmpty) = true := by rw [l1]; rfl
      have h1 : 0 < t.size := by omega
      have hf := triml_first t 32 h1
      have hb := byte_at t (k := 0) h1
      rw [← hb] at hf
      rcases Bool.eq_false_or_eq_true (((t[0]'h1).toNat : Int) == 32) with q | q
      · have hn : Hid (trimL (t.extract 1 t.size) 32 = trimL s 32) := by unfold Hid; rw [hf.1 (by simpa using q), hinv.out]
        have hz : Hid ((t.extract 1 t.size).size = t.size - 1) := by unfold Hid; rw [ByteArray.size_extract]; omega
        clear hf hb l0
        go_wp2
        go_roundw
        case rel => exact ⟨⟨t.extract 1 t.size, by rw [hz.out]; omega, rfl, hn⟩, by trivial⟩
        case measure => simp only [sizeOf']; rw [hz.out]; omega
      · have hn : Hid (t = trimL s 32) := by unfold Hid; rw [← hinv.out, hf.2 (by simpa using q)]
        clear hf hb l0
        go_wp2
        go_ret
        exact ⟨by rw [← hn.out]; rfl, rfl⟩
set_option maxRecDepth 100000 in
set_option maxHeartbeats 4000000 in
theorem Trim_any (s : ByteArray) (sd : Int) (w : World) : Calls Tryd.prog 52 #[.string s, .int .i64 sd] w (GiveSE (tmS s sd) (tmE s sd) w) := by
  by_cases h : 2048 < s.size
  · have e1 : tmS s sd = ByteArray.empty := by unfold tmS; rw [if_neg (by omega)]
    have e2 : tmE s sd = 3 := by unfold tmE; rw [if_neg (by omega)]
    rw [e1, e2]
    clear e1 e2
    have d2 : decide (2048 < s.size) = true := by simpa using h
    go_enter Tryd.func52, Tryd.ntmps52
    go_wp2_with fail
    refine (long1_any s _ _ (by go_simp)).mono ?_
    rintro e w' ⟨rfl, rfl⟩
    go_wp2
    go_ret2
    exact ⟨rfl, (Ext.refl _).alloc_right _⟩
  have d2 : decide (2048 < s.size) = false := by simpa using h
  have hm : s.size ≤ maxLen := by unfold maxLen; omega
  by_cases k0 : sd = 0
  · subst k0
    have e1 : tmS s 0 = trimR s 32 := by unfold tmS; rw [if_pos (by omega)]; simp 
    have e2 : tmE s 0 = 0 := by unfold tmE; rw [if_pos (by omega)]; simp 
    rw [e1, e2]
    clear e1 e2
    have c0 := hid (fun w => TrimRight_any s hm w)
    generalize trimR s 32 = R at *
    go_enter Tryd.func52, Tryd.ntmps52
    go_wp2_with fail
    refine (long1_any s _ _ (by go_simp)).mono ?_
    rintro e w' ⟨rfl, rfl⟩
    go_wp2_with fail
    refine (c0.out _).mono ?_
    rintro e w' ⟨rfl, rfl⟩
    go_wp2
    go_ret2
    exact ⟨rfl, (Ext.refl _).alloc_right _⟩
  by_cases k1 : sd = 1
  · subst k1
    have e1 : tmS s 1 = trimL s 32 := by unfold tmS; rw [if_pos (by omega)]; simp 
    have e2 : tmE s 1 = 0 := by unfold tmE; rw [if_pos (by omega)]; simp 
    rw [e1, e2]
    clear e1 e2
    have c0 := hid (fun w => trimLeft_any s w)
    generalize trimL s 32 = R at *
    go_enter Tryd.func52, Tryd.ntmps52
    go_wp2_with fail
    refine (long1_any s _ _ (by go_simp)).mono ?_
    rintro e w' ⟨rfl, rfl⟩
    go_wp2_with fail
    refine (c0.out _).mono ?_
    rintro e w' ⟨rfl, rfl⟩
    go_wp2
    go_ret2
    exact ⟨rfl, (Ext.refl _).alloc_right _⟩
  by_cases k2 : sd = 2
  · subst k2
    have e1 : tmS s 2 = trimLR s := by unfold tmS; rw [if_pos (by omega)]; simp 
    have e2 : tmE s 2 = 0 := by unfold tmE; rw [if_pos (by omega)]; simp 
    rw [e1, e2]
    clear e1 e2
    have c0 := hid (fun w => trimBoth_any s hm w)
    generalize trimLR s = R at *
    go_enter Tryd.func52, Tryd.ntmps52
    go_wp2_with fail
    refine (long1_any s _ _ (by go_simp)).mono ?_
    rintro e w' ⟨rfl, rfl⟩
    go_wp2_with fail
    refine (c0.out _).mono ?_
    rintro e w' ⟨rfl, hx⟩
    go_wp2
    go_ret2
    exact ⟨rfl, ((Ext.refl _).alloc_right _).trans hx⟩
  have e1 : tmS s sd = ByteArray.empty := by unfold tmS; rw [if_pos (by omega), if_neg k0, if_neg k1, if_neg k2]
  have e2 : tmE s sd = 1 := by unfold tmE; rw [if_pos (by omega), if_neg (by omega)]
  rw [e1, e2]
  have g0 : (sd == 0) = false := by simpa using k0
  have g1 : (sd == 1) = false := by simpa using k1
  have g2 : (sd == 2) = false := by simpa using k2
  clear e1 e2 k0 k1 k2
  go_enter Tryd.func52, Tryd.ntmps52
  go_wp2_with fail
  refine (long1_any s _ _ (by go_simp)).mono ?_
  rintro e w' ⟨rfl, rfl⟩
  go_wp2
  go_ret2
  exact ⟨rfl, (Ext.refl _).alloc_right _⟩
set_option maxRecDepth 100000 in
set_option maxHeartbeats 4000000 in
theorem rTrim_any (s : ByteArray) (sd : Int) (w : World) : Calls Tryd.prog 53 #[.string s, .int .i64 sd] w (GiveSE (tmS s sd) (tmE s sd) w) := by
  by_cases h : 2048 < s.size
  · have e1 : tmS s sd = ByteArray.empty := by unfold tmS; rw [if_neg (by omega)]
    have e2 : tmE s sd = 3 := by unfold tmE; rw [if_neg (by omega)]
    rw [e1, e2]
    clear e1 e2
    have d2 : decide (2048 < s.size) = true := by simpa using h
    go_enter Tryd.func53, Tryd.ntmps53
    go_wp2_with fail
    refine (rlong_any _ _).mono ?_
    rintro e w' ⟨rfl, rfl⟩
    go_wp2
    go_ret2
    exact ⟨rfl, Ext.refl _⟩
  have d2 : decide (2048 < s.size) = false := by simpa using h
  have hm : s.size ≤ maxLen := by unfold maxLen; omega
  by_cases k0 : sd = 0
  · subst k0
    have e1 : tmS s 0 = trimR s 32 := by unfold tmS; rw [if_pos (by omega)]; simp 
    have e2 : tmE s 0 = 0 := by unfold tmE; rw [if_pos (by omega)]; simp 
    rw [e1, e2]
    clear e1 e2
    have c0 := hid (fun w => Bare_any s hm w)
    generalize trimR s 32 = R at *
    go_enter Tryd.func53, Tryd.ntmps53
    go_wp2_with fail
    refine (rlong_any _ _).mono ?_
    rintro e w' ⟨rfl, rfl⟩
    go_wp2_with fail
    refine (c0.out _).mono ?_
    rintro e w' ⟨rfl, rfl⟩
    go_wp2
    go_ret2
    exact ⟨rfl, Ext.refl _⟩
  by_cases k1 : sd = 1
  · subst k1
    have e1 : tmS s 1 = trimL s 32 := by unfold tmS; rw [if_pos (by omega)]; simp 
    have e2 : tmE s 1 = 0 := by unfold tmE; rw [if_pos (by omega)]; simp 
    rw [e1, e2]
    clear e1 e2
    have c0 := hid (fun w => front_any s hm w)
    generalize trimL s 32 = R at *
    go_enter Tryd.func53, Tryd.ntmps53
    go_wp2_with fail
    refine (rlong_any _ _).mono ?_
    rintro e w' ⟨rfl, rfl⟩
    go_wp2_with fail
    refine (c0.out _).mono ?_
    rintro e w' ⟨rfl, rfl⟩
    go_wp2
    go_ret2
    exact ⟨rfl, Ext.refl _⟩
  by_cases k2 : sd = 2
  · subst k2
    have hz : (trimL s 32).size ≤ maxLen := by
      have : (trimL s 32).size ≤ s.size := by
        unfold trimL
        rw [strB_size, ← len_toList]
        exact (List.dropWhile_sublist _).length_le
      omega
    have e1 : tmS s 2 = trimLR s := by unfold tmS; rw [if_pos (by omega)]; simp 
    have e2 : tmE s 2 = 0 := by unfold tmE; rw [if_pos (by omega)]; simp 
    rw [e1, e2]
    clear e1 e2
    have c0 := hid (fun w => front_any s hm w)
    have c1 := hid (fun w => Bare_any (trimL s 32) hz w)
    unfold trimLR
    generalize trimR (trimL s 32) 32 = R at *
    generalize trimL s 32 = T at *
    go_enter Tryd.func53, Tryd.ntmps53
    go_wp2_with fail
    refine (rlong_any _ _).mono ?_
    rintro e w' ⟨rfl, rfl⟩
    go_wp2_with fail
    refine (c0.out _).mono ?_
    rintro e w' ⟨rfl, rfl⟩
    go_wp2_with fail
    refine (c1.out _).mono ?_
    rintro e w' ⟨rfl, rfl⟩
    go_wp2
    go_ret2
    exact ⟨rfl, Ext.refl _⟩
  have e1 : tmS s sd = ByteArray.empty := by unfold tmS; rw [if_pos (by omega), if_neg k0, if_neg k1, if_neg k2]
  have e2 : tmE s sd = 1 := by unfold tmE; rw [if_pos (by omega), if_neg (by omega)]
  rw [e1, e2]
  have g0 : (sd == 0) = false := by simpa using k0
  have g1 : (sd == 1) = false := by simpa using k1
  have g2 : (sd == 2) = false := by simpa using k2
  clear e1 e2 k0 k1 k2
  go_enter Tryd.func53, Tryd.ntmps53
  go_wp2_with fail
  refine (rlong_any _ _).mono ?_
  rintro e w' ⟨rfl, rfl⟩
  go_wp2
  go_ret2
  exact ⟨rfl, Ext.refl _⟩
def pdOk (n sd : Int) : Bool := (decide (0 ≤ n) && decide (n ≤ 2048)) && (decide (0 ≤ sd) && decide (sd ≤ 2))
def pdB (j : Nat) (sd : Int) : Nat := if sd = 0 then 0 else if sd = 1 then j else j / 2
def pdS (s : ByteArray) (n sd : Int) : ByteArray := if 2048 < s.size then ByteArray.empty else if pdOk n sd then (if n ≤ s.size then s.extract 0 n.toNat else repB 32 (pdB (n.toNat - s.size) sd) ++ s ++ repB 32 (n.toNat - s.size - pdB (n.toNat - s.size) sd)) else ByteArray.empty
def pdE (s : ByteArray) (n sd : Int) : Int := if 2048 < s.size then 3 else if pdOk n sd then 0 else 1
set_option maxRecDepth 100000 in
set_option maxHeartbeats 4000000 in
theorem Pad_any (s : ByteArray) (n sd : Int) (w : World) : Calls Tryd.prog 54 #[.string s, .int .i64 n, .int .i64 sd] w (GiveSE (pdS s n sd) (pdE s n sd) w) := by
  by_cases h : 2048 < s.size
  · have e1 : pdS s n sd = ByteArray.empty := by unfold pdS; rw [if_pos h]
    have e2 : pdE s n sd = 3 := by unfold pdE; rw [if_pos h]
    rw [e1, e2]
    clear e1 e2
    have d0 : decide (2048 < s.size) = true := by simpa using h
    go_enter Tryd.func54, Tryd.ntmps54
    go_wp2_with fail
    refine (long1_any s _ _ (by go_simp)).mono ?_
    rintro e w' ⟨rfl, rfl⟩
    go_wp2
    go_ret2
    exact ⟨rfl, (Ext.refl _).alloc_right _⟩
  have d0 : decide (2048 < s.size) = false := by simpa using h
  have e1 : pdS s n sd = if pdOk n sd then (if n ≤ s.size then s.extract 0 n.toNat else repB 32 (pdB (n.toNat - s.size) sd) ++ s ++ repB 32 (n.toNat - s.size - pdB (n.toNat - s.size) sd)) else ByteArray.empty := by unfold pdS; rw [if_neg h]
  have e2 : pdE s n sd = if pdOk n sd then 0 else 1 := by unfold pdE; rw [if_neg h]
  rw [e1, e2]
  clear e1 e2
  by_cases hok : 0 ≤ n ∧ n ≤ 2048 ∧ 0 ≤ sd ∧ sd ≤ 2
  rotate_left
  · have hb : pdOk n sd = false := by unfold pdOk; simp; omega
    rw [hb]
    have q1 : (if false = true then (if n ≤ s.size then s.extract 0 n.toNat else repB 32 (pdB (n.toNat - s.size) sd) ++ s ++ repB 32 (n.toNat - s.size - pdB (n.toNat - s.size) sd)) else ByteArray.empty) = ByteArray.empty := rfl
    have q2 : (if false = true then (0 : Int) else 1) = 1 := rfl
    rw [q1, q2]
    clear q1 q2 hb
    rcases Bool.eq_false_or_eq_true (decide (n < 0)) with d1 | d1 <;> rcases Bool.eq_false_or_eq_true (decide (2048 < n)) with d2 | d2 <;> rcases Bool.eq_false_or_eq_true (decide (sd < 0)) with d3 | d3 <;> rcases Bool.eq_false_or_eq_true (decide (2 < sd)) with d4 | d4
    all_goals (try (exfalso; simp at d1 d2 d3 d4; omega))
    all_goals clear hok
    all_goals go_enter Tryd.func54, Tryd.ntmps54
    all_goals go_wp2_with fail
    all_goals refine (long1_any s _ _ (by go_simp)).mono ?_
    all_goals rintro e w' ⟨rfl, rfl⟩
    all_goals go_wp2
    all_goals go_ret2
    all_goals exact ⟨rfl, (Ext.refl _).alloc_right _⟩
  have hb : pdOk n sd = true := by unfold pdOk; simp; omega
  rw [if_pos hb, if_pos hb]
  clear hb
  obtain ⟨n1, n2, s1, s2⟩ := hok
  have d1 : decide (n < 0) = false := by simp; omega
  have d2 : decide (2048 < n) = false := by simp; omega
  have d3 : decide (sd < 0) = false := by simp; omega
  have d4 : decide (2 < sd) = false := by simp; omega
  obtain ⟨m, rfl⟩ : ∃ m : Nat, n = (m : Int) := ⟨n.toNat, by omega⟩
  by_cases hl : m ≤ s.size
  · rw [if_pos (by omega)]
    have d5 : decide ((m : Int) ≤ (s.size : Int)) = true := by simp; omega
    have d6 : decide (m ≤ s.size) = true := by simp; omega
    have hl2 : (m : Int) ≤ (s.size : Int) := by omega
    go_enter Tryd.func54, Tryd.ntmps54
    go_wp2_with fail
    refine (long1_any s _ _ (by go_simp)).mono ?_
    rintro e w' ⟨rfl, rfl⟩
    go_wp2
    go_ret2
    exact ⟨rfl, (Ext.refl _).alloc_right _⟩
  rw [if_neg (by omega)]
  have d5 : decide ((m : Int) ≤ (s.size : Int)) = false := by simp; omega
  have d6 : decide (m ≤ s.size) = false := by simp; omega
  obtain ⟨j, hj⟩ : ∃ j : Nat, m = s.size + j := ⟨m - s.size, by omega⟩
  have hj1 : j ≤ 2048 := by omega
  have ej : (m : Int) - (s.size : Int) = (j : Int) := by omega
  rw [show (m : Int).toNat - s.size = j by omega]
  have hs1 : s.size ≤ 2048 := by omega
  replace ej := hid ej
  replace hj := hid hj
  clear hl
  have hsd : sd = 0 ∨ sd = 1 ∨ sd = 2 := by omega
  rcases hsd with rfl | rfl | rfl
  · have c1 : Hid (∀ w, Calls Tryd.prog 95 #[.string ⟨#[32]⟩, .int .i64 (0 : Int)] w (Give (.string (repB 32 0)) w)) := by
      intro w
      have := rep_any 32 0 (by omega) w
      rwa [show ((0 : Nat) : Int) = (0 : Int) by omega] at this
    have c2 : Hid (∀ w, Calls Tryd.prog 95 #[.string ⟨#[32]⟩, .int .i64 (j : Int)] w (Give (.string (repB 32 (j - 0))) w)) := by
      intro w
      have := rep_any 32 (j - 0) (by omega) w
      rwa [show (((j - 0) : Nat) : Int) = (j : Int) by omega] at this
    have a1 := str_add (repB 32 0) s (by rw [repB_size]; omega)
    have a2 := str_add (repB 32 0 ++ s) (repB 32 (j - 0)) (by rw [ByteArray.size_append, repB_size, repB_size]; omega)
    have hp : Hid (repB 32 (pdB j 0) ++ s ++ repB 32 (j - pdB j 0) = repB 32 0 ++ s ++ repB 32 (j - 0)) := rfl
    have ix : ∀ wx, (Instr.index 89 (.agg #[.int .i64 0, .int .i64 (j : Int), .int .i64 ((j : Int) / 2)]) (.int .i64 0)).run Tryd.prog wx = .ok (.int .i64 0) wx := fun _ => by kernel_rfl
    rw [hp.out]
    generalize repB 32 0 = A at *
    generalize repB 32 (j - 0) = B at *
    go_enter Tryd.func54, Tryd.ntmps54
    go_wp2_with fail
    refine (long1_any s _ _ (by go_simp)).mono ?_
    rintro e w' ⟨rfl, rfl⟩
    go_upto_region 9 with fail
    rw [ej.out]
    go_wp2_with fail
    refine (c1.out _).mono ?_
    rintro e w1 ⟨rfl, hx1⟩
    go_wp2_with fail
    refine (c2.out _).mono ?_
    rintro e w2 ⟨rfl, hx2⟩
    go_wp2
    go_ret2
    exact ⟨rfl, (((Ext.refl _).alloc_right _).trans hx1).trans hx2⟩
  · have c1 : Hid (∀ w, Calls Tryd.prog 95 #[.string ⟨#[32]⟩, .int .i64 (j : Int)] w (Give (.string (repB 32 j)) w)) := by
      intro w
      have := rep_any 32 j (by omega) w
      rwa [show ((j : Nat) : Int) = (j : Int) by omega] at this
    have c2 : Hid (∀ w, Calls Tryd.prog 95 #[.string ⟨#[32]⟩, .int .i64 (0 : Int)] w (Give (.string (repB 32 (j - j))) w)) := by
      intro w
      have := rep_any 32 (j - j) (by omega) w
      rwa [show (((j - j) : Nat) : Int) = (0 : Int) by omega] at this
    have a1 := str_add (repB 32 j) s (by rw [repB_size]; omega)
    have a2 := str_add (repB 32 j ++ s) (repB 32 (j - j)) (by rw [ByteArray.size_append, repB_size, repB_size]; omega)
    have hp : Hid (repB 32 (pdB j 1) ++ s ++ repB 32 (j - pdB j 1) = repB 32 j ++ s ++ repB 32 (j - j)) := rfl
    have ix : ∀ wx, (Instr.index 89 (.agg #[.int .i64 0, .int .i64 (j : Int), .int .i64 ((j : Int) / 2)]) (.int .i64 1)).run Tryd.prog wx = .ok (.int .i64 (j : Int)) wx := fun _ => by kernel_rfl
    rw [hp.out]
    generalize repB 32 j = A at *
    generalize repB 32 (j - j) = B at *
    go_enter Tryd.func54, Tryd.ntmps54
    go_wp2_with fail
    refine (long1_any s _ _ (by go_simp)).mono ?_
    rintro e w' ⟨rfl, rfl⟩
    go_upto_region 9 with fail
    rw [ej.out]
    go_wp2_with fail
    refine (c1.out _).mono ?_
    rintro e w1 ⟨rfl, hx1⟩
    go_wp2_with fail
    refine (c2.out _).mono ?_
    rintro e w2 ⟨rfl, hx2⟩
    go_wp2
    go_ret2
    exact ⟨rfl, (((Ext.refl _).alloc_right _).trans hx1).trans hx2⟩
  · have c1 : Hid (∀ w, Calls Tryd.prog 95 #[.string ⟨#[32]⟩, .int .i64 ((j : Int) / 2)] w (Give (.string (repB 32 (j / 2))) w)) := by
      intro w
      have := rep_any 32 (j / 2) (by omega) w
      rwa [show (((j / 2) : Nat) : Int) = ((j : Int) / 2) by omega] at this
    have c2 : Hid (∀ w, Calls Tryd.prog 95 #[.string ⟨#[32]⟩, .int .i64 ((j : Int) - (j : Int) / 2)] w (Give (.string (repB 32 (j - j / 2))) w)) := by
      intro w
      have := rep_any 32 (j - j / 2) (by omega) w
      rwa [show (((j - j / 2) : Nat) : Int) = ((j : Int) - (j : Int) / 2) by omega] at this
    have a1 := str_add (repB 32 (j / 2)) s (by rw [repB_size]; omega)
    have a2 := str_add (repB 32 (j / 2) ++ s) (repB 32 (j - j / 2)) (by rw [ByteArray.size_append, repB_size, repB_size]; omega)
    have hp : Hid (repB 32 (pdB j 2) ++ s ++ repB 32 (j - pdB j 2) = repB 32 (j / 2) ++ s ++ repB 32 (j - j / 2)) := rfl
    have ix : ∀ wx, (Instr.index 89 (.agg #[.int .i64 0, .int .i64 (j : Int), .int .i64 ((j : Int) / 2)]) (.int .i64 2)).run Tryd.prog wx = .ok (.int .i64 ((j : Int) / 2)) wx := fun _ => by kernel_rfl
    rw [hp.out]
    generalize repB 32 (j / 2) = A at *
    generalize repB 32 (j - j / 2) = B at *
    go_enter Tryd.func54, Tryd.ntmps54
    go_wp2_with fail
    refine (long1_any s _ _ (by go_simp)).mono ?_
    rintro e w' ⟨rfl, rfl⟩
    go_upto_region 9 with fail
    rw [ej.out]
    go_wp2_with fail
    refine (c1.out _).mono ?_
    rintro e w1 ⟨rfl, hx1⟩
    go_wp2_with fail
    refine (c2.out _).mono ?_
    rintro e w2 ⟨rfl, hx2⟩
    go_wp2
    go_ret2
    exact ⟨rfl, (((Ext.refl _).alloc_right _).trans hx1).trans hx2⟩
set_option maxRecDepth 100000 in
set_option maxHeartbeats 4000000 in
theorem rPad_any (s : ByteArray) (n sd : Int) (w : World) : Calls Tryd.prog 55 #[.string s, .int .i64 n, .int .i64 sd] w (GiveSE (pdS s n sd) (pdE s n sd) w) := by
  by_cases h : 2048 < s.size
  · have e1 : pdS s n sd = ByteArray.empty := by unfold pdS; rw [if_pos h]
    have e2 : pdE s n sd = 3 := by unfold pdE; rw [if_pos h]
    rw [e1, e2]
    clear e1 e2
    have d0 : decide (2048 < s.size) = true := by simpa using h
    go_enter Tryd.func55, Tryd.ntmps55
    go_wp2_with fail
    refine (rlong_any _ _).mono ?_
    rintro e w' ⟨rfl, rfl⟩
    go_wp2
    go_ret2
    exact ⟨rfl, Ext.refl _⟩
  have d0 : decide (2048 < s.size) = false := by simpa using h
  have e1 : pdS s n sd = if pdOk n sd then (if n ≤ s.size then s.extract 0 n.toNat else repB 32 (pdB (n.toNat - s.size) sd) ++ s ++ repB 32 (n.toNat - s.size - pdB (n.toNat - s.size) sd)) else ByteArray.empty := by unfold pdS; rw [if_neg h]
  have e2 : pdE s n sd = if pdOk n sd then 0 else 1 := by unfold pdE; rw [if_neg h]
  rw [e1, e2]
  clear e1 e2
  by_cases hok : 0 ≤ n ∧ n ≤ 2048 ∧ 0 ≤ sd ∧ sd ≤ 2
  rotate_left
  · have hb : pdOk n sd = false := by unfold pdOk; simp; omega
    rw [hb]
    have q1 : (if false = true then (if n ≤ s.size then s.extract 0 n.toNat else repB 32 (pdB (n.toNat - s.size) sd) ++ s ++ repB 32 (n.toNat - s.size - pdB (n.toNat - s.size) sd)) else ByteArray.empty) = ByteArray.empty := rfl
    have q2 : (if false = true then (0 : Int) else 1) = 1 := rfl
    rw [q1, q2]
    clear q1 q2 hb
    rcases Bool.eq_false_or_eq_true (decide (n < 0)) with d1 | d1 <;> rcases Bool.eq_false_or_eq_true (decide (2048 < n)) with d2 | d2 <;> rcases Bool.eq_false_or_eq_true (decide (sd < 0)) with d3 | d3 <;> rcases Bool.eq_false_or_eq_true (decide (2 < sd)) with d4 | d4
    all_goals (try (exfalso; simp at d1 d2 d3 d4; omega))
    all_goals clear hok
    all_goals go_enter Tryd.func55, Tryd.ntmps55
    all_goals go_wp2_with fail
    all_goals refine (rlong_any _ _).mono ?_
    all_goals rintro e w' ⟨rfl, rfl⟩
    all_goals go_wp2
    all_goals go_ret2
    all_goals exact ⟨rfl, Ext.refl _⟩
  have hb : pdOk n sd = true := by unfold pdOk; simp; omega
  rw [if_pos hb, if_pos hb]
  clear hb
  obtain ⟨n1, n2, s1, s2⟩ := hok
  have d1 : decide (n < 0) = false := by simp; omega
  have d2 : decide (2048 < n) = false := by simp; omega
  have d3 : decide (sd < 0) = false := by simp; omega
  have d4 : decide (2 < sd) = false := by simp; omega
  obtain ⟨m, rfl⟩ : ∃ m : Nat, n = (m : Int) := ⟨n.toNat, by omega⟩
  by_cases hl : m ≤ s.size
  · rw [if_pos (by omega)]
    have d5 : decide ((m : Int) ≤ (s.size : Int)) = true := by simp; omega
    have d6 : decide (m ≤ s.size) = true := by simp; omega
    have hl2 : (m : Int) ≤ (s.size : Int) := by omega
    go_enter Tryd.func55, Tryd.ntmps55
    go_wp2_with fail
    refine (rlong_any _ _).mono ?_
    rintro e w' ⟨rfl, rfl⟩
    go_wp2
    go_ret2
    exact ⟨rfl, Ext.refl _⟩
  rw [if_neg (by omega)]
  have d5 : decide ((m : Int) ≤ (s.size : Int)) = false := by simp; omega
  have d6 : decide (m ≤ s.size) = false := by simp; omega
  obtain ⟨j, hj⟩ : ∃ j : Nat, m = s.size + j := ⟨m - s.size, by omega⟩
  have hj1 : j ≤ 2048 := by omega
  have ej : (m : Int) - (s.size : Int) = (j : Int) := by omega
  rw [show (m : Int).toNat - s.size = j by omega]
  have hs1 : s.size ≤ 2048 := by omega
  replace ej := hid ej
  replace hj := hid hj
  clear hl
  have hsd : sd = 0 ∨ sd = 1 ∨ sd = 2 := by omega
  rcases hsd with rfl | rfl | rfl
  · have c1 : Hid (∀ w, Calls Tryd.prog 97 #[.string ⟨#[32]⟩, .int .i64 (0 : Int)] w fun e w' => e = .returned (.string (repB 32 0)) ∧ w = w') := by
      intro w
      have := Times_any 32 0 (by omega) w
      rwa [show ((0 : Nat) : Int) = (0 : Int) by omega] at this
    have c2 : Hid (∀ w, Calls Tryd.prog 97 #[.string ⟨#[32]⟩, .int .i64 (j : Int)] w fun e w' => e = .returned (.string (repB 32 (j - 0))) ∧ w = w') := by
      intro w
      have := Times_any 32 (j - 0) (by omega) w
      rwa [show (((j - 0) : Nat) : Int) = (j : Int) by omega] at this
    have a1 := str_add (repB 32 0) s (by rw [repB_size]; omega)
    have a2 := str_add (repB 32 0 ++ s) (repB 32 (j - 0)) (by rw [ByteArray.size_append, repB_size, repB_size]; omega)
    have hp : Hid (repB 32 (pdB j 0) ++ s ++ repB 32 (j - pdB j 0) = repB 32 0 ++ s ++ repB 32 (j - 0)) := rfl
    rw [hp.out]
    generalize repB 32 0 = A at *
    generalize repB 32 (j - 0) = B at *
    go_enter Tryd.func55, Tryd.ntmps55
    go_wp2_with fail
    refine (rlong_any _ _).mono ?_
    rintro e w' ⟨rfl, rfl⟩
    go_upto_region 8 with fail
    rw [ej.out]
    go_wp2_with fail
    refine (c1.out _).mono ?_
    rintro e w' ⟨rfl, rfl⟩
    go_wp2_with fail
    refine (c2.out _).mono ?_
    rintro e w' ⟨rfl, rfl⟩
    go_wp2
    go_ret2
    exact ⟨rfl, Ext.refl _⟩
  · have c1 : Hid (∀ w, Calls Tryd.prog 97 #[.string ⟨#[32]⟩, .int .i64 (j : Int)] w fun e w' => e = .returned (.string (repB 32 j)) ∧ w = w') := by
      intro w
      have := Times_any 32 j (by omega) w
      rwa [show ((j : Nat) : Int) = (j : Int) by omega] at this
    have c2 : Hid (∀ w, Calls Tryd.prog 97 #[.string ⟨#[32]⟩, .int .i64 (0 : Int)] w fun e w' => e = .returned (.string (repB 32 (j - j))) ∧ w = w') := by
      intro w
      have := Times_any 32 (j - j) (by omega) w
      rwa [show (((j - j) : Nat) : Int) = (0 : Int) by omega] at this
    have a1 := str_add (repB 32 j) s (by rw [repB_size]; omega)
    have a2 := str_add (repB 32 j ++ s) (repB 32 (j - j)) (by rw [ByteArray.size_append, repB_size, repB_size]; omega)
    have hp : Hid (repB 32 (pdB j 1) ++ s ++ repB 32 (j - pdB j 1) = repB 32 j ++ s ++ repB 32 (j - j)) := rfl
    rw [hp.out]
    generalize repB 32 j = A at *
    generalize repB 32 (j - j) = B at *
    go_enter Tryd.func55, Tryd.ntmps55
    go_wp2_with fail
    refine (rlong_any _ _).mono ?_
    rintro e w' ⟨rfl, rfl⟩
    go_upto_region 8 with fail
    rw [ej.out]
    go_wp2_with fail
    refine (c1.out _).mono ?_
    rintro e w' ⟨rfl, rfl⟩
    go_wp2_with fail
    refine (c2.out _).mono ?_
    rintro e w' ⟨rfl, rfl⟩
    go_wp2
    go_ret2
    exact ⟨rfl, Ext.refl _⟩
  · have c1 : Hid (∀ w, Calls Tryd.prog 97 #[.string ⟨#[32]⟩, .int .i64 ((j : Int) / 2)] w fun e w' => e = .returned (.string (repB 32 (j / 2))) ∧ w = w') := by
      intro w
      have := Times_any 32 (j / 2) (by omega) w
      rwa [show (((j / 2) : Nat) : Int) = ((j : Int) / 2) by omega] at this
    have c2 : Hid (∀ w, Calls Tryd.prog 97 #[.string ⟨#[32]⟩, .int .i64 ((j : Int) - (j : Int) / 2)] w fun e w' => e = .returned (.string (repB 32 (j - j / 2))) ∧ w = w') := by
      intro w
      have := Times_any 32 (j - j / 2) (by omega) w
      rwa [show (((j - j / 2) : Nat) : Int) = ((j : Int) - (j : Int) / 2) by omega] at this
    have a1 := str_add (repB 32 (j / 2)) s (by rw [repB_size]; omega)
    have a2 := str_add (repB 32 (j / 2) ++ s) (repB 32 (j - j / 2)) (by rw [ByteArray.size_append, repB_size, repB_size]; omega)
    have hp : Hid (repB 32 (pdB j 2) ++ s ++ repB 32 (j - pdB j 2) = repB 32 (j / 2) ++ s ++ repB 32 (j - j / 2)) := rfl
    rw [hp.out]
    generalize repB 32 (j / 2) = A at *
    generalize repB 32 (j - j / 2) = B at *
    go_enter Tryd.func55, Tryd.ntmps55
    go_wp2_with fail
    refine (rlong_any _ _).mono ?_
    rintro e w' ⟨rfl, rfl⟩
    go_upto_region 8 with fail
    rw [ej.out]
    go_wp2_with fail
    refine (c1.out _).mono ?_
    rintro e w' ⟨rfl, rfl⟩
    go_wp2_with fail
    refine (c2.out _).mono ?_
    rintro e w' ⟨rfl, rfl⟩
    go_wp2
    go_ret2
    exact ⟨rfl, Ext.refl _⟩
end Go.Proofs.YtkjcfnmbnddhjaaDoor
