/-
  A text in which one is replaced by another one: the program, the reference, the law.
-/
import Derived.Test.YtkjcfnmbnddhjaaDoorViP
import Derived.Test.YtkjcfnmbnddhjaaDoorVe2
namespace Go.Proofs.YtkjcfnmbnddhjaaDoor
open Go.RowKit
set_option linter.unusedVariables false
set_option linter.unusedSimpArgs false
def swB (s a b : ByteArray) : ByteArray := strB (swL a.toList b.toList s.toList)
def swG (s a b : ByteArray) : Prop := 2048 < s.size ∨ 2048 < a.size ∨ 2048 < b.size
instance (s a b : ByteArray) : Decidable (swG s a b) := by unfold swG; exact inferInstance
def swS (s a b : ByteArray) : ByteArray := if swG s a b then ByteArray.empty else if a.size = 0 then s else if 2048 < (swB s a b).size then ByteArray.empty else swB s a b
def swE (s a b : ByteArray) : Int := if swG s a b then 3 else if a.size = 0 then 0 else if 2048 < (swB s a b).size then 3 else 0
theorem sw_big {s a b : ByteArray} (h : swG s a b) : swS s a b = ByteArray.empty ∧ swE s a b = 3 := by unfold swS swE; rw [if_pos h, if_pos h]; exact ⟨rfl, rfl⟩
theorem sw_no {s a b : ByteArray} (h : ¬ swG s a b) (ha : a.size = 0) : swS s a b = s ∧ swE s a b = 0 := by unfold swS swE; rw [if_neg h, if_neg h, if_pos ha, if_pos ha]; exact ⟨rfl, rfl⟩
theorem sw_yes {s a b : ByteArray} (h : ¬ swG s a b) (ha : a.size ≠ 0) : swS s a b = (if 2048 < (swB s a b).size then ByteArray.empty else swB s a b) ∧ swE s a b = (if 2048 < (swB s a b).size then 3 else 0) := by unfold swS swE; rw [if_neg h, if_neg h, if_neg ha, if_neg ha]; exact ⟨rfl, rfl⟩
theorem ne_of_size {a : ByteArray} (h : a.size ≠ 0) : a.toList ≠ [] := by intro e; have := len_toList a; rw [e] at this; simp at this; omega
theorem rep_any3 (s a b : ByteArray) (h : ¬ swG s a b) (ha : a.size ≠ 0) (w : World) (hm : ML w) : Calls Tryd.prog 93 #[.string s, .string a, .string b] w (Give (.string (swB s a b)) w) := by
  obtain ⟨m, hm⟩ := hm
  unfold swG at h
  have hc := Lib.countB_le a (by omega) s.size s (Nat.le_refl _)
  have hp : Lib.countB s a * b.size ≤ s.size * b.size := Nat.mul_le_mul_right _ hc
  have hp2 : s.size * b.size ≤ 2048 * 2048 := Nat.mul_le_mul (by omega) (by omega)
  refine (Tryd.strings_ReplaceAll s a b m w (by omega) hm (by omega) (by omega)).mono ?_
  rintro e w' ⟨rfl, hb⟩
  refine ⟨?_, hb⟩
  rw [← ByteArray.toList_eq, ← ByteArray.toList_eq, ← ByteArray.toList_eq, all_swL (ne_of_size ha)]
  rfl
set_option maxRecDepth 100000 in
set_option maxHeartbeats 4000000 in
theorem Swap_any (s a b : ByteArray) (w : World) (hm : ML w) : Calls Tryd.prog 46 #[.string s, .string a, .string b] w (GiveSE (swS s a b) (swE s a b) w) := by
  by_cases h : swG s a b
  · obtain ⟨e1, e2⟩ := sw_big h
    rw [e1, e2]
    clear e1 e2
    have hl := hid (fun w g h0 h1 h2 => long3_any s a b g w h0 h1 h2)
    rw [show (if 2048 < s.size ∨ 2048 < a.size ∨ 2048 < b.size then (3 : Int) else 0) = 3 from if_pos h] at hl
    clear h hm
    go_enter Tryd.func46, Tryd.ntmps46
    go_wp2_with fail
    refine (hl.out _ _ (by go_simp) (by go_simp) (by go_simp)).mono ?_
    rintro e w' ⟨rfl, rfl⟩
    go_wp2
    go_ret2
    exact ⟨rfl, (Ext.refl _).alloc_right _⟩
  have hl := hid (fun w g h0 h1 h2 => long3_any s a b g w h0 h1 h2)
  rw [show (if 2048 < s.size ∨ 2048 < a.size ∨ 2048 < b.size then (3 : Int) else 0) = 0 from if_neg h] at hl
  by_cases ha : a.size = 0
  · obtain ⟨e1, e2⟩ := sw_no h ha
    rw [e1, e2]
    have l1 := emp_facts ha
    clear e1 e2 h hm ha
    go_enter Tryd.func46, Tryd.ntmps46
    go_wp2_with fail
    refine (hl.out _ _ (by go_simp) (by go_simp) (by go_simp)).mono ?_
    rintro e w' ⟨rfl, rfl⟩
    go_wp2
    go_ret2
    exact ⟨rfl, (Ext.refl _).alloc_right _⟩
  · obtain ⟨e1, e2⟩ := sw_yes h ha
    rw [e1, e2]
    obtain ⟨l1, l2⟩ := full_facts ha
    have hr := hid (fun w hm => rep_any3 s a b h ha w hm)
    have hk := hid (fun w => kept_any (swB s a b) w)
    clear e1 e2 h ha
    generalize (if 2048 < (swB s a b).size then ByteArray.empty else swB s a b) = X at *
    generalize (if 2048 < (swB s a b).size then (3 : Int) else 0) = E at *
    generalize swB s a b = B at *
    replace hm := hid hm
    go_enter Tryd.func46, Tryd.ntmps46
    go_wp2_with fail
    refine (hl.out _ _ (by go_simp) (by go_simp) (by go_simp)).mono ?_
    rintro e w' ⟨rfl, rfl⟩
    go_wp2_with fail
    refine (hr.out _ (hm.out.ext ((Ext.refl _).alloc_right _))).mono ?_
    rintro e w1 ⟨rfl, hx1⟩
    go_wp2_with fail
    refine (hk.out _).mono ?_
    rintro e w' ⟨rfl, rfl⟩
    go_wp2
    go_ret2
    exact ⟨rfl, ((Ext.refl _).alloc_right _).trans hx1⟩
theorem pre_list (s a : ByteArray) {k : Nat} (hk : k ≤ s.size) : preB (s.extract k s.size) a = a.toList.isPrefixOf (s.toList.drop k) := by
  have hl : (s.extract k s.size).toList = s.toList.drop k := by
    rw [ext_str, strB_toList, List.take_of_length_le (by rw [List.length_drop, len_toList]; exact Nat.le_refl _)]
  have hz : (s.extract k s.size).size = (s.toList.drop k).length := by rw [← len_toList, hl]
  unfold preB
  rw [hz, ext_str, strB_toList, hl, List.drop_zero, Nat.sub_zero, ← len_toList a]
  rw [Bool.eq_iff_iff]
  rw [Bool.and_eq_true, decide_eq_true_eq, beq_iff_eq, List.isPrefixOf_iff_prefix]
  constructor
  · rintro ⟨h1, h2⟩
    rw [← h2]
    exact List.take_prefix _ _
  · intro h
    exact ⟨h.length_le, (List.prefix_iff_eq_take.1 h).symm⟩
theorem sw_hit {s a b t : ByteArray} {k : Nat} (hk : k < s.size) (ha : a.size ≠ 0) (hinv : t.toList ++ swL a.toList b.toList (s.toList.drop k) = swL a.toList b.toList s.toList) (hp : preB (s.extract k s.size) a = true) :
    (t ++ b).toList ++ swL a.toList b.toList (s.toList.drop (k + a.size)) = swL a.toList b.toList s.toList ∧ k + a.size ≤ s.size := by
  have hq := hp
  rw [pre_list s a (by omega)] at hp
  constructor
  · rw [← hinv, swL_hit (l := s.toList.drop k) (ne_of_size ha) (by intro e; have := congrArg List.length e; rw [List.length_drop, len_toList] at this; simp at this; omega) hp, List.drop_drop, len_toList, add_list, List.append_assoc]
  · have := (List.isPrefixOf_iff_prefix.1 hp).length_le
    rw [List.length_drop, len_toList, len_toList] at this
    omega
theorem sw_miss {s a b t : ByteArray} {k : Nat} (hk : k < s.size) (hinv : t.toList ++ swL a.toList b.toList (s.toList.drop k) = swL a.toList b.toList s.toList) (hp : preB (s.extract k s.size) a = false) :
    (t ++ s.extract k (k + 1)).toList ++ swL a.toList b.toList (s.toList.drop (k + 1)) = swL a.toList b.toList s.toList := by
  rw [pre_list s a (by omega), drop_byte s hk] at hp
  rw [← hinv, drop_byte s hk, swL_miss hp, add_list, ext_str, strB_toList, drop_byte s hk, show k + 1 - k = 1 by omega, List.append_assoc]
  rfl
theorem sw_long {s a b t : ByteArray} {l : List UInt8} (hinv : t.toList ++ l = swL a.toList b.toList s.toList) (hb : 8192 < t.size) : 2048 < (swB s a b).size := by
  unfold swB
  rw [strB_size, ← hinv, List.length_append, len_toList]
  omega
theorem sw_end {s a b t : ByteArray} (hinv : t.toList ++ swL a.toList b.toList (s.toList.drop s.size) = swL a.toList b.toList s.toList) : t = swB s a b := by
  unfold swB
  rw [← hinv, ← len_toList, List.drop_length, swL_nil, List.append_nil, strB_id]
set_option maxRecDepth 100000 in
set_option maxHeartbeats 4000000 in
theorem rSwap_any (s a b : ByteArray) (w : World) : Calls Tryd.prog 47 #[.string s, .string a, .string b] w (GiveSE (swS s a b) (swE s a b) w) := by
  by_cases g0 : 2048 < s.size
  · have d0 : decide (2048 < s.size) = true := by simpa using g0
    obtain ⟨e1, e2⟩ := sw_big (s := s) (a := a) (b := b) (by unfold swG; omega)
    rw [e1, e2]
    clear e1 e2
    go_enter Tryd.func47, Tryd.ntmps47
    go_wp2_with fail
    refine (rlong_any _ _).mono ?_
    rintro e w' ⟨rfl, rfl⟩
    go_wp2
    go_ret2
    exact ⟨rfl, Ext.refl _⟩
  have d0 : decide (2048 < s.size) = false := by simpa using g0
  by_cases g1 : 2048 < a.size
  · have d1 : decide (2048 < a.size) = true := by simpa using g1
    obtain ⟨e1, e2⟩ := sw_big (s := s) (a := a) (b := b) (by unfold swG; omega)
    rw [e1, e2]
    clear e1 e2
    go_enter Tryd.func47, Tryd.ntmps47
    go_wp2_with fail
    refine (rlong_any _ _).mono ?_
    rintro e w' ⟨rfl, rfl⟩
    go_wp2_with fail
    refine (rlong_any _ _).mono ?_
    rintro e w' ⟨rfl, rfl⟩
    go_wp2
    go_ret2
    exact ⟨rfl, Ext.refl _⟩
  have d1 : decide (2048 < a.size) = false := by simpa using g1
  by_cases g2 : 2048 < b.size
  · have d2 : decide (2048 < b.size) = true := by simpa using g2
    obtain ⟨e1, e2⟩ := sw_big (s := s) (a := a) (b := b) (by unfold swG; omega)
    rw [e1, e2]
    clear e1 e2
    go_enter Tryd.func47, Tryd.ntmps47
    go_wp2_with fail
    refine (rlong_any _ _).mono ?_
    rintro e w' ⟨rfl, rfl⟩
    go_wp2_with fail
    refine (rlong_any _ _).mono ?_
    rintro e w' ⟨rfl, rfl⟩
    go_wp2_with fail
    refine (rlong_any _ _).mono ?_
    rintro e w' ⟨rfl, rfl⟩
    go_wp2
    go_ret2
    exact ⟨rfl, Ext.refl _⟩
  have d2 : decide (2048 < b.size) = false := by simpa using g2
  have h : ¬ swG s a b := by unfold swG; omega
  by_cases ha : a.size = 0
  · obtain ⟨e1, e2⟩ := sw_no h ha
    rw [e1, e2]
    have l1 := emp_facts ha
    clear e1 e2 h ha g0 g1 g2
    go_enter Tryd.func47, Tryd.ntmps47
    go_wp2_with fail
    refine (rlong_any _ _).mono ?_
    rintro e w' ⟨rfl, rfl⟩
    go_wp2_with fail
    refine (rlong_any _ _).mono ?_
    rintro e w' ⟨rfl, rfl⟩
    go_wp2_with fail
    refine (rlong_any _ _).mono ?_
    rintro e w' ⟨rfl, rfl⟩
    go_wp2
    go_ret2
    exact ⟨rfl, Ext.refl _⟩
  · have hy := hid (sw_yes h ha)
    obtain ⟨l1, l2⟩ := full_facts ha
    generalize swS s a b = X at *
    generalize swE s a b = E at *
    have hs : s.size ≤ 2048 := by omega
    have hsa : a.size ≤ 2048 := by omega
    have hsb : b.size ≤ 2048 := by omega
    have ha1 : 1 ≤ a.size := by omega
    replace ha := hid ha
    clear h g0 g1 g2
    go_enter Tryd.func47, Tryd.ntmps47
    go_wp2_with fail
    refine (rlong_any _ _).mono ?_
    rintro e w' ⟨rfl, rfl⟩
    go_wp2_with fail
    refine (rlong_any _ _).mono ?_
    rintro e w' ⟨rfl, rfl⟩
    go_wp2_with fail
    refine (rlong_any _ _).mono ?_
    rintro e w' ⟨rfl, rfl⟩
    go_wp2_with fail
    go_loopw [8, 9] (fun v i wr => (∃ (k : Nat) (t : ByteArray), k ≤ s.size ∧ t.size ≤ 8192 ∧ v = .string t ∧ i = .int .i64 k ∧ Hid (t.toList ++ swL a.toList b.toList (s.toList.drop k) = swL a.toList b.toList s.toList)) ∧ wr = w) (fun _ i _ => s.size - (intOf i).toNat)
    case atStart => exact ⟨⟨0, ⟨#[]⟩, by omega, by decide, rfl, rfl, by unfold Hid; rw [ByteArray.toList_eq]; rfl⟩, rfl⟩
    case round =>
      obtain ⟨⟨k, t, hk, ht, rfl, rfl, hinv⟩, rfl⟩ := hrel
      by_cases hlt : k < s.size
      · have hb := hid (fun w => Begins_any (s.extract k s.size) a w)
        rcases Bool.eq_false_or_eq_true (preB (s.extract k s.size) a) with q | q
        · obtain ⟨hn, hka⟩ := sw_hit hlt ha.out hinv.out q
          replace hn := hid hn
          rw [q] at hb
          clear q
          have hz : (t ++ b).size = t.size + b.size := ByteArray.size_append
          have ad := str_add t b (by omega)
          by_cases hbig : 8192 < (t ++ b).size
          · have d9 : decide ((8192 : Int) < ((t ++ b).size : Int)) = true := by simp; omega
            have hr := hid (show X = ByteArray.empty ∧ E = 3 by
              obtain ⟨p1, p2⟩ := hy.out
              rw [p1, p2, if_pos (sw_long hn.out hbig), if_pos (sw_long hn.out hbig)]
              exact ⟨rfl, rfl⟩)
            clear hz hbig
            generalize t ++ b = T at *
            go_wp2_with fail
            refine (hb.out _).mono ?_
            rintro e w' ⟨rfl, rfl⟩
            go_wp2
            go_ret2
            exact ⟨by rw [hr.out.1, hr.out.2]; rfl, Ext.refl _⟩
          · have d9 : decide ((8192 : Int) < ((t ++ b).size : Int)) = false := by simp; omega
            have hT : (t ++ b).size ≤ 8192 := by omega
            clear hz hbig
            generalize t ++ b = T at *
            go_wp2_with fail
            refine (hb.out _).mono ?_
            rintro e w' ⟨rfl, rfl⟩
            go_wp2
            go_roundw
            case rel => exact ⟨⟨k + a.size, T, hka, hT, rfl, by go_num, hn⟩, by trivial⟩
            case measure => simp [intOf]; omega
        · have hn := hid (sw_miss hlt hinv.out q)
          rw [q] at hb
          clear q
          have sl : ∀ wx, (Instr.slice 9 (.string s) (some (.int .i64 (k : Int))) (some (.int .i64 ((k : Int) + 1))) none).run Tryd.prog wx = .ok (.string (s.extract k (k + 1))) wx := by
            intro wx
            rw [run_slice_string (P := Tryd.prog) wx 9 s .i64 .i64 (k : Int) ((k : Int) + 1) Tryd.underlying9 (by omega) (by omega) (by omega)]
            rw [show ((k : Int)).toNat = k by omega, show ((k : Int) + 1).toNat = k + 1 by omega]
          have hz1 : (s.extract k (k + 1)).size = 1 := by rw [ByteArray.size_extract]; omega
          have hz : (t ++ s.extract k (k + 1)).size = t.size + 1 := by rw [ByteArray.size_append, hz1]
          have ad := str_add t (s.extract k (k + 1)) (by omega)
          by_cases hbig : 8192 < (t ++ s.extract k (k + 1)).size
          · have d9 : decide ((8192 : Int) < ((t ++ s.extract k (k + 1)).size : Int)) = true := by simp; omega
            have hr := hid (show X = ByteArray.empty ∧ E = 3 by
              obtain ⟨p1, p2⟩ := hy.out
              rw [p1, p2, if_pos (sw_long hn.out hbig), if_pos (sw_long hn.out hbig)]
              exact ⟨rfl, rfl⟩)
            clear hz hz1 hbig
            generalize t ++ s.extract k (k + 1) = T at *
            go_wp2_with fail
            refine (hb.out _).mono ?_
            rintro e w' ⟨rfl, rfl⟩
            go_wp2
            go_ret2
            exact ⟨by rw [hr.out.1, hr.out.2]; rfl, Ext.refl _⟩
          · have d9 : decide ((8192 : Int) < ((t ++ s.extract k (k + 1)).size : Int)) = false := by simp; omega
            have hT : (t ++ s.extract k (k + 1)).size ≤ 8192 := by omega
            clear hz hz1 hbig
            generalize t ++ s.extract k (k + 1) = T at *
            go_wp2_with fail
            refine (hb.out _).mono ?_
            rintro e w' ⟨rfl, rfl⟩
            go_wp2
            go_roundw
            case rel => exact ⟨⟨k + 1, T, by omega, hT, rfl, by go_num, hn⟩, by trivial⟩
            case measure => simp [intOf]; omega
      · obtain rfl : k = s.size := by omega
        have hf := hid (fun w => fit_any t w)
        have hr := hid hy.out
        rw [← sw_end hinv.out] at hr
        have hr1 := hid hr.out.1
        have hr2 := hid hr.out.2
        rw [← hr1.out, ← hr2.out] at hf
        clear hr hy
        go_wp2_with fail
        refine (hf.out _).mono ?_
        rintro e w' ⟨rfl, rfl⟩
        go_wp2
        go_ret2
        exact ⟨rfl, Ext.refl _⟩
set_option maxRecDepth 100000 in
set_option maxHeartbeats 4000000 in
theorem swaps_law (s a b : ByteArray) (w : World) (hs : s.size ≤ maxLen) (ha : a.size ≤ maxLen) (hb : b.size ≤ maxLen) (hm : ML w) : Calls Tryd.prog 12 #[.string s, .string a, .string b] w (Give (.bool true) w) := by
  have hm := hid hm
  have c1 := hid (fun w hm => Swap_any s a b w hm)
  have c2 := hid (fun w => rSwap_any s a b w)
  generalize swS s a b = A at *
  generalize swE s a b = B at *
  clear hs ha hb
  go_enter Tryd.func12, Tryd.ntmps12
  go_wp2_with fail
  · refine (known_any _).mono ?_
    rintro e w1 ⟨rfl, hx⟩
    go_wp2
    go_ret
    exact ⟨rfl, hx⟩
  · refine (c1.out _ hm.out).mono ?_
    rintro e w1 ⟨rfl, hx1⟩
    go_wp2_with fail
    refine (c2.out _).mono ?_
    rintro e w2 ⟨rfl, hx2⟩
    go_wp2_with fail
    refine (known_any _).mono ?_
    rintro e w5 ⟨rfl, hx5⟩
    go_wp2
    go_ret
    exact ⟨rfl, (hx1.trans hx2).trans hx5⟩
end Go.Proofs.YtkjcfnmbnddhjaaDoor
