/-
  The number of a text, and the text of a number in a width: the program and the reference; the law.
-/
import Derived.Test.YtkjcfnmbnddhjaaDoorVd1
namespace Go.Proofs.YtkjcfnmbnddhjaaDoor
open Go.RowKit
set_option linter.unusedVariables false
set_option linter.unusedSimpArgs false
theorem acc_spell (n : Int) (b : UInt8) : min (n * 10 + ((b.toNat : Int) - 48)) 1000000000000000 = accD n b := rfl
theorem drop_byte (s : ByteArray) {k : Nat} (hk : k < s.size) : s.toList.drop k = s[k] :: s.toList.drop (k + 1) := by
  have hl : k < s.toList.length := by rw [len_toList]; exact hk
  rw [List.drop_eq_getElem_cons hl]
  congr 1
  simp [ByteArray.toList_eq]
  rfl
theorem num_dig (s : ByteArray) {k : Nat} (hk : k < s.size) (n : Int) (h : isDg s[k] = true) : numL (s.toList.drop k) n = numL (s.toList.drop (k + 1)) (accD n s[k]) := by rw [drop_byte s hk, numL_cons, if_pos h]
theorem num_stop (s : ByteArray) {k : Nat} (hk : k < s.size) (n : Int) (h : isDg s[k] = false) : numL (s.toList.drop k) n = n := by rw [drop_byte s hk, numL_cons, if_neg (by rw [h]; simp)]
theorem num_end (s : ByteArray) (n : Int) : numL (s.toList.drop s.size) n = n := by rw [← len_toList, List.drop_length]; rfl
theorem dg_spell (b : UInt8) : isDg b = (decide (48 ≤ (b.toNat : Int)) && decide ((b.toNat : Int) ≤ 57)) := rfl
set_option maxRecDepth 100000 in
set_option maxHeartbeats 2000000 in
theorem Val_any (s : ByteArray) (hs : s.size ≤ maxLen) (w : World) : Calls Tryd.prog 50 #[.string s] w fun e w' => e = .returned (.int .i64 (valI s)) ∧ w = w' := by
  unfold maxLen at hs
  have ht := hid (fun w => trimLeft_any s w)
  have hz : (trimL s 32).size ≤ s.size := by
    unfold trimL
    rw [strB_size, ← len_toList]
    exact (List.dropWhile_sublist _).length_le
  have hv : Hid (valI s = sgnL (trimL s 32).toList) := by unfold Hid valI trimL; rw [strB_toList]
  generalize trimL s 32 = u at *
  by_cases h0 : u.size = 0
  · have hl : u.toList = [] := List.eq_nil_of_length_eq_zero (by rw [len_toList]; exact h0)
    have hv2 : Hid (valI s = 0) := by unfold Hid; rw [hv.out, hl]; rfl
    clear hv hz
    go_enter Tryd.func50, Tryd.ntmps50
    go_wp2_with fail
    refine (ht.out _).mono ?_
    rintro e w' ⟨rfl, rfl⟩
    clear ht
    go_wp2
    go_loopw [4, 27] (fun v i wr => (v = .int .i64 0 ∧ i = .int .i64 0) ∧ wr = w) (fun _ _ _ => 0)
    case atStart => exact ⟨⟨rfl, rfl⟩, rfl⟩
    case round =>
      obtain ⟨⟨rfl, rfl⟩, rfl⟩ := hrel
      go_wp2
      go_ret
      exact ⟨by rw [hv2.out]; rfl, rfl⟩
  · have hl1 : u.toList ≠ [] := by intro e; have := len_toList u; rw [e] at this; simp at this; omega
    have hl : u.toList.isEmpty = false := by simpa using hl1
    have h1 : 0 < u.size := by omega
    have e0 : (!u.toList.isEmpty) = true := by simpa using hl1
    have hqs : Hid ((u.extract 1 u.size).size = u.size - 1) := by unfold Hid; rw [ByteArray.size_extract]; omega
    have hql : u.toList = u[0] :: (u.extract 1 u.size).toList := by
      have := drop_byte u h1
      rw [List.drop_zero] at this
      rw [ext_list, List.take_of_length_le (by rw [List.length_drop, len_toList]; omega)]
      exact this
    rcases Bool.eq_false_or_eq_true (((u[0]'h1).toNat : Int) == 45) with q1 | q1
    · have hv2 : Hid (valI s = - numL (u.extract 1 u.size).toList 0) := by
        unfold Hid
        rw [hv.out, hql, sgnL_cons, if_pos (by simpa using q1)]
      clear hl1 hv hql
      go_enter Tryd.func50, Tryd.ntmps50
      go_wp2_with fail
      refine (ht.out _).mono ?_
      rintro e w' ⟨rfl, rfl⟩
      clear ht
      go_wp2
      rw [← hqs.out]
      clear q1
      have hz2 : u.size - 1 ≤ 9223372036854775806 := by omega
      rw [← hqs.out] at hz2
      clear hqs
      generalize u.extract 1 u.size = q at *
      clear e0 hl hz h0
      go_loopw [4, 27] (fun v i wr => (∃ (k : Nat) (n : Int), k ≤ q.size ∧ 0 ≤ n ∧ n ≤ 1000000000000000 ∧ i = .int .i64 k ∧ v = .int .i64 n ∧ Hid (numL (q.toList.drop k) n = numL q.toList 0)) ∧ wr = w) (fun _ i _ => q.size - (intOf i).toNat)
      case atStart => exact ⟨⟨0, 0, by omega, by omega, by omega, rfl, rfl, by unfold Hid; rw [List.drop_zero]⟩, rfl⟩
      case round =>
        obtain ⟨⟨k, n, hk, hn0, hn1, rfl, rfl, hinv⟩, rfl⟩ := hrel
        by_cases hlt : k < q.size
        · have hb := (q[k]'hlt).toNat_lt
          rcases Bool.eq_false_or_eq_true (decide (((q[k]'hlt).toNat : Int) < 48)) with q1 | q1
          · have hn : Hid (n = numL q.toList 0) := by
              unfold Hid
              rw [← hinv.out, num_stop q hlt n (by rw [dg_spell]; simp at q1 ⊢; omega)]
            go_wp2
            go_ret
            exact ⟨by rw [hv2.out, ← hn.out]; rfl, rfl⟩
          · rcases Bool.eq_false_or_eq_true (decide ((57 : Int) < ((q[k]'hlt).toNat : Int))) with q2 | q2
            · have hn : Hid (n = numL q.toList 0) := by
                unfold Hid
                rw [← hinv.out, num_stop q hlt n (by rw [dg_spell]; simp at q1 q2 ⊢; omega)]
              go_wp2
              go_ret
              exact ⟨by rw [hv2.out, ← hn.out]; rfl, rfl⟩
            · have hd : isDg (q[k]'hlt) = true := by rw [dg_spell]; simp at q1 q2 ⊢; omega
              have ha := acc_in (b := q[k]'hlt) hn0 hd
              have hn : Hid (numL (q.toList.drop (k + 1)) (accD n (q[k]'hlt)) = numL q.toList 0) := by
                unfold Hid
                rw [← hinv.out, num_dig q hlt n hd]
              have h48 : (48 : Int) ≤ ((q[k]'hlt).toNat : Int) := by simpa using q1
              have h57 : ((q[k]'hlt).toNat : Int) ≤ 57 := by simpa using q2
              have hd := hid hd
              go_wp2
              go_roundw
              case rel => exact ⟨⟨k + 1, accD n (q[k]'hlt), by omega, ha.1, ha.2, by go_num, rfl, hn⟩, by trivial⟩
              case measure => simp [intOf]; omega
        · obtain rfl : k = q.size := by omega
          have hn : Hid (n = numL q.toList 0) := by
            unfold Hid
            rw [← hinv.out, num_end]
          go_wp2
          go_ret
          exact ⟨by rw [hv2.out, ← hn.out]; rfl, rfl⟩
    · rcases Bool.eq_false_or_eq_true (((u[0]'h1).toNat : Int) == 43) with q2 | q2
      · have hv2 : Hid (valI s = numL (u.extract 1 u.size).toList 0) := by
          unfold Hid
          rw [hv.out, hql, sgnL_cons, if_neg (by simpa using q1), if_pos (by simpa using q2)]
        clear hl1 hv hql
        go_enter Tryd.func50, Tryd.ntmps50
        go_wp2_with fail
        refine (ht.out _).mono ?_
        rintro e w' ⟨rfl, rfl⟩
        clear ht
        go_wp2
        rw [← hqs.out]
        clear q1 q2
        have hz2 : u.size - 1 ≤ 9223372036854775806 := by omega
        rw [← hqs.out] at hz2
        clear hqs
        generalize u.extract 1 u.size = q at *
        clear e0 hl hz h0
        go_loopw [4, 27] (fun v i wr => (∃ (k : Nat) (n : Int), k ≤ q.size ∧ 0 ≤ n ∧ n ≤ 1000000000000000 ∧ i = .int .i64 k ∧ v = .int .i64 n ∧ Hid (numL (q.toList.drop k) n = numL q.toList 0)) ∧ wr = w) (fun _ i _ => q.size - (intOf i).toNat)
        case atStart => exact ⟨⟨0, 0, by omega, by omega, by omega, rfl, rfl, by unfold Hid; rw [List.drop_zero]⟩, rfl⟩
        case round =>
          obtain ⟨⟨k, n, hk, hn0, hn1, rfl, rfl, hinv⟩, rfl⟩ := hrel
          by_cases hlt : k < q.size
          · have hb := (q[k]'hlt).toNat_lt
            rcases Bool.eq_false_or_eq_true (decide (((q[k]'hlt).toNat : Int) < 48)) with q1 | q1
            · have hn : Hid (n = numL q.toList 0) := by
                unfold Hid
                rw [← hinv.out, num_stop q hlt n (by rw [dg_spell]; simp at q1 ⊢; omega)]
              go_wp2
              go_ret
              exact ⟨by rw [hv2.out, ← hn.out]; rfl, rfl⟩
            · rcases Bool.eq_false_or_eq_true (decide ((57 : Int) < ((q[k]'hlt).toNat : Int))) with q2 | q2
              · have hn : Hid (n = numL q.toList 0) := by
                  unfold Hid
                  rw [← hinv.out, num_stop q hlt n (by rw [dg_spell]; simp at q1 q2 ⊢; omega)]
                go_wp2
                go_ret
                exact ⟨by rw [hv2.out, ← hn.out]; rfl, rfl⟩
              · have hd : isDg (q[k]'hlt) = true := by rw [dg_spell]; simp at q1 q2 ⊢; omega
                have ha := acc_in (b := q[k]'hlt) hn0 hd
                have hn : Hid (numL (q.toList.drop (k + 1)) (accD n (q[k]'hlt)) = numL q.toList 0) := by
                  unfold Hid
                  rw [← hinv.out, num_dig q hlt n hd]
                have h48 : (48 : Int) ≤ ((q[k]'hlt).toNat : Int) := by simpa using q1
                have h57 : ((q[k]'hlt).toNat : Int) ≤ 57 := by simpa using q2
                have hd := hid hd
                go_wp2
                go_roundw
                case rel => exact ⟨⟨k + 1, accD n (q[k]'hlt), by omega, ha.1, ha.2, by go_num, rfl, hn⟩, by trivial⟩
                case measure => simp [intOf]; omega
          · obtain rfl : k = q.size := by omega
            have hn : Hid (n = numL q.toList 0) := by
              unfold Hid
              rw [← hinv.out, num_end]
            go_wp2
            go_ret
            exact ⟨by rw [hv2.out, ← hn.out]; rfl, rfl⟩
      · have hv2 : Hid (valI s = numL u.toList 0) := by
          unfold Hid
          rw [hv.out]
          rw [hql, sgnL_cons, if_neg (by simpa using q1), if_neg (by simpa using q2)]
        clear hl1 hv hql hqs
        go_enter Tryd.func50, Tryd.ntmps50
        go_wp2_with fail
        refine (ht.out _).mono ?_
        rintro e w' ⟨rfl, rfl⟩
        clear ht
        go_wp2
        go_loopw [4, 27] (fun v i wr => (∃ (k : Nat) (n : Int), k ≤ u.size ∧ 0 ≤ n ∧ n ≤ 1000000000000000 ∧ i = .int .i64 k ∧ v = .int .i64 n ∧ Hid (numL (u.toList.drop k) n = numL u.toList 0)) ∧ wr = w) (fun _ i _ => u.size - (intOf i).toNat)
        case atStart => exact ⟨⟨0, 0, by omega, by omega, by omega, rfl, rfl, by unfold Hid; rw [List.drop_zero]⟩, rfl⟩
        case round =>
          obtain ⟨⟨k, n, hk, hn0, hn1, rfl, rfl, hinv⟩, rfl⟩ := hrel
          by_cases hlt : k < u.size
          · have hb := (u[k]'hlt).toNat_lt
            rcases Bool.eq_false_or_eq_true (decide (((u[k]'hlt).toNat : Int) < 48)) with q1 | q1
            · have hn : Hid (n = numL u.toList 0) := by
                unfold Hid
                rw [← hinv.out, num_stop u hlt n (by rw [dg_spell]; simp at q1 ⊢; omega)]
              go_wp2
              go_ret
              exact ⟨by rw [hv2.out, ← hn.out]; rfl, rfl⟩
            · rcases Bool.eq_false_or_eq_true (decide ((57 : Int) < ((u[k]'hlt).toNat : Int))) with q2 | q2
              · have hn : Hid (n = numL u.toList 0) := by
                  unfold Hid
                  rw [← hinv.out, num_stop u hlt n (by rw [dg_spell]; simp at q1 q2 ⊢; omega)]
                go_wp2
                go_ret
                exact ⟨by rw [hv2.out, ← hn.out]; rfl, rfl⟩
              · have hd : isDg (u[k]'hlt) = true := by rw [dg_spell]; simp at q1 q2 ⊢; omega
                have ha := acc_in (b := u[k]'hlt) hn0 hd
                have hn : Hid (numL (u.toList.drop (k + 1)) (accD n (u[k]'hlt)) = numL u.toList 0) := by
                  unfold Hid
                  rw [← hinv.out, num_dig u hlt n hd]
                have h48 : (48 : Int) ≤ ((u[k]'hlt).toNat : Int) := by simpa using q1
                have h57 : ((u[k]'hlt).toNat : Int) ≤ 57 := by simpa using q2
                have hd := hid hd
                go_wp2
                go_roundw
                case rel => exact ⟨⟨k + 1, accD n (u[k]'hlt), by omega, ha.1, ha.2, by go_num, rfl, hn⟩, by trivial⟩
                case measure => simp [intOf]; omega
          · obtain rfl : k = u.size := by omega
            have hn : Hid (n = numL u.toList 0) := by
              unfold Hid
              rw [← hinv.out, num_end]
            go_wp2
            go_ret
            exact ⟨by rw [hv2.out, ← hn.out]; rfl, rfl⟩
theorem IsDigit_any (x : UInt8) (w : World) : Calls Tryd.prog 99 #[.int .u8 (x.toNat : Int)] w fun e w' => e = .returned (.bool (isDg x)) ∧ w = w' := by
  rcases Bool.eq_false_or_eq_true (decide (48 ≤ (x.toNat : Int))) with h1 | h1 <;> rcases Bool.eq_false_or_eq_true (decide ((x.toNat : Int) ≤ 57)) with h2 | h2
  all_goals have Fin := hid (show isDg x = _ by unfold isDg; rw [h1, h2])
  all_goals go_enter Tryd.func99, Tryd.ntmps99
  all_goals go_wp2
  all_goals go_ret
  all_goals exact ⟨by rw [Fin.out]; rfl, rfl⟩
theorem trL_drop (s : ByteArray) {k : Nat} (hk : k < s.size) : trL (s.toList.drop k) 32 = if (s[k].toNat : Int) = 32 then trL (s.toList.drop (k + 1)) 32 else s.toList.drop k := by
  rw [drop_byte s hk]
  unfold trL
  by_cases h : (s[k].toNat : Int) = 32
  · rw [List.dropWhile_cons_of_pos (by simpa using h), if_pos h]
  · rw [List.dropWhile_cons_of_neg (by simpa using h), if_neg h]
theorem trL_end (s : ByteArray) : trL (s.toList.drop s.size) 32 = [] := by rw [← len_toList, List.drop_length]; rfl
set_option maxRecDepth 100000 in
set_option maxHeartbeats 2000000 in
theorem rVal_any (s : ByteArray) (hs : s.size ≤ maxLen) (w : World) : Calls Tryd.prog 51 #[.string s] w fun e w' => e = .returned (.int .i64 (valI s)) ∧ w = w' := by
  unfold maxLen at hs
  go_enter Tryd.func51, Tryd.ntmps51
  go_wp2
  go_loopw [3] (fun i wr => (∃ k : Nat, k ≤ s.size ∧ i = .int .i64 k ∧ Hid (trL (s.toList.drop k) 32 = trL s.toList 32)) ∧ wr = w) (fun i _ => s.size - (intOf i).toNat)
  case atStart => exact ⟨⟨0, by omega, rfl, by unfold Hid; rw [List.drop_zero]⟩, rfl⟩
  case round =>
    obtain ⟨⟨k, hk, rfl, hinv⟩, rfl⟩ := hrel
    obtain ⟨wo, rfl⟩ : ∃ wo : World, wo = wr := ⟨_, rfl⟩
    by_cases hlt : k < s.size
    · have ht := trL_drop s hlt
      rcases Bool.eq_false_or_eq_true (((s[k]'hlt).toNat : Int) == 32) with q | q
      · have hn : Hid (trL (s.toList.drop (k + 1)) 32 = trL s.toList 32) := by
          unfold Hid
          rw [← hinv.out, ht, if_pos (by simpa using q)]
        clear ht
        go_wp2
        go_roundw
        case rel => exact ⟨⟨k + 1, by omega, by go_num, hn⟩, by trivial⟩
        case measure => simp [intOf]; omega
      · have hv : Hid (valI s = sgnL (s[k] :: s.toList.drop (k + 1))) := by
          unfold Hid valI
          rw [← hinv.out, ht, if_neg (by simpa using q), drop_byte s hlt]
        clear ht
        have hk1 : k + 1 ≤ s.size := by omega
        rcases Bool.eq_false_or_eq_true (((s[k]'hlt).toNat : Int) == 45) with q1 | q1
        · have hv2 : Hid (-numL (s.toList.drop (k + 1)) 0 = valI s) := by
            unfold Hid
            rw [hv.out, sgnL_cons, if_pos (by simpa using q1)]
          clear hv
          have q3 : ((45 : Int) == 45) = true := rfl
          go_wp2
          go_loopw [3, 5] (fun i v wr => (∃ (k : Nat) (n : Int), k ≤ s.size ∧ 0 ≤ n ∧ n ≤ 1000000000000000 ∧ i = .int .i64 k ∧ v = .int .i64 n ∧ Hid (-numL (s.toList.drop k) n = valI s)) ∧ wr = wo) (fun i _ _ => s.size - (intOf i).toNat)
          case atStart => exact ⟨⟨k + 1, 0, by omega, by omega, by omega, by first | rfl | go_num, rfl, hv2⟩, by trivial⟩
          case round =>
            obtain ⟨⟨k, n, hk, hn0, hn1, rfl, rfl, hinv⟩, rfl⟩ := hrel
            clear hv2
            by_cases hlt : k < s.size
            · rcases Bool.eq_false_or_eq_true (isDg (s[k]'hlt)) with q1 | q1
              · have ha := acc_in (b := s[k]'hlt) hn0 q1
                have hn : Hid (-numL (s.toList.drop (k + 1)) (accD n (s[k]'hlt)) = valI s) := by
                  unfold Hid
                  rw [← hinv.out, num_dig s hlt n q1]
                have hb := (s[k]'hlt).toNat_lt
                have h48 : (48 : Int) ≤ ((s[k]'hlt).toNat : Int) := by rw [dg_spell] at q1; simp at q1; omega
                have h57 : ((s[k]'hlt).toNat : Int) ≤ 57 := by rw [dg_spell] at q1; simp at q1; omega
                go_wp2_with (go_at_call 99; refine (IsDigit_any _ _).mono ?_; rintro e w' ⟨rfl, rfl⟩)
                go_roundw
                case rel => exact ⟨⟨k + 1, accD n (s[k]'hlt), by omega, ha.1, ha.2, by go_num, by unfold accD; rw [Int.mul_comm n 10], hn⟩, by trivial⟩
                case measure => simp [intOf]; omega
              · have hn : Hid (-n = valI s) := by
                  unfold Hid
                  rw [← hinv.out, num_stop s hlt n q1]
                go_wp2_with (go_at_call 99; refine (IsDigit_any _ _).mono ?_; rintro e w' ⟨rfl, rfl⟩)
                go_ret
                exact ⟨by rw [← hn.out]; rfl, rfl⟩
            · obtain rfl : k = s.size := by omega
              have hn : Hid (-n = valI s) := by
                unfold Hid
                rw [← hinv.out, num_end]
              go_wp2
              go_ret
              exact ⟨by rw [← hn.out]; rfl, rfl⟩
        · rcases Bool.eq_false_or_eq_true (((s[k]'hlt).toNat : Int) == 43) with q2 | q2
          · have hv2 : Hid (numL (s.toList.drop (k + 1)) 0 = valI s) := by
              unfold Hid
              rw [hv.out, sgnL_cons, if_neg (by simpa using q1), if_pos (by simpa using q2)]
            clear hv
            go_wp2
            go_loopw [3, 5] (fun i v wr => (∃ (k : Nat) (n : Int), k ≤ s.size ∧ 0 ≤ n ∧ n ≤ 1000000000000000 ∧ i = .int .i64 k ∧ v = .int .i64 n ∧ Hid (numL (s.toList.drop k) n = valI s)) ∧ wr = wo) (fun i _ _ => s.size - (intOf i).toNat)
            case atStart => exact ⟨⟨k + 1, 0, by omega, by omega, by omega, by first | rfl | go_num, rfl, hv2⟩, by trivial⟩
            case round =>
              obtain ⟨⟨k, n, hk, hn0, hn1, rfl, rfl, hinv⟩, rfl⟩ := hrel
              clear hv2
              by_cases hlt : k < s.size
              · rcases Bool.eq_false_or_eq_true (isDg (s[k]'hlt)) with q1 | q1
                · have ha := acc_in (b := s[k]'hlt) hn0 q1
                  have hn : Hid (numL (s.toList.drop (k + 1)) (accD n (s[k]'hlt)) = valI s) := by
                    unfold Hid
                    rw [← hinv.out, num_dig s hlt n q1]
                  have hb := (s[k]'hlt).toNat_lt
                  have h48 : (48 : Int) ≤ ((s[k]'hlt).toNat : Int) := by rw [dg_spell] at q1; simp at q1; omega
                  have h57 : ((s[k]'hlt).toNat : Int) ≤ 57 := by rw [dg_spell] at q1; simp at q1; omega
                  go_wp2_with (go_at_call 99; refine (IsDigit_any _ _).mono ?_; rintro e w' ⟨rfl, rfl⟩)
                  go_roundw
                  case rel => exact ⟨⟨k + 1, accD n (s[k]'hlt), by omega, ha.1, ha.2, by go_num, by unfold accD; rw [Int.mul_comm n 10], hn⟩, by trivial⟩
                  case measure => simp [intOf]; omega
                · have hn : Hid (n = valI s) := by
                    unfold Hid
                    rw [← hinv.out, num_stop s hlt n q1]
                  go_wp2_with (go_at_call 99; refine (IsDigit_any _ _).mono ?_; rintro e w' ⟨rfl, rfl⟩)
                  go_ret
                  exact ⟨by rw [← hn.out]; rfl, rfl⟩
              · obtain rfl : k = s.size := by omega
                have hn : Hid (n = valI s) := by
                  unfold Hid
                  rw [← hinv.out, num_end]
                go_wp2
                go_ret
                exact ⟨by rw [← hn.out]; rfl, rfl⟩
          · have hv2 : Hid (numL (s.toList.drop k) 0 = valI s) := by
              unfold Hid
              rw [hv.out, sgnL_cons, if_neg (by simpa using q1), if_neg (by simpa using q2), drop_byte s hlt]
            clear hv
            go_wp2
            go_loopw [3, 5] (fun i v wr => (∃ (k : Nat) (n : Int), k ≤ s.size ∧ 0 ≤ n ∧ n ≤ 1000000000000000 ∧ i = .int .i64 k ∧ v = .int .i64 n ∧ Hid (numL (s.toList.drop k) n = valI s)) ∧ wr = wo) (fun i _ _ => s.size - (intOf i).toNat)
            case atStart => exact ⟨⟨k, 0, by omega, by omega, by omega, by first | rfl | go_num, rfl, hv2⟩, by trivial⟩
            case round =>
              obtain ⟨⟨k, n, hk, hn0, hn1, rfl, rfl, hinv⟩, rfl⟩ := hrel
              clear hv2
              by_cases hlt : k < s.size
              · rcases Bool.eq_false_or_eq_true (isDg (s[k]'hlt)) with q1 | q1
                · have ha := acc_in (b := s[k]'hlt) hn0 q1
                  have hn : Hid (numL (s.toList.drop (k + 1)) (accD n (s[k]'hlt)) = valI s) := by
                    unfold Hid
                    rw [← hinv.out, num_dig s hlt n q1]
                  have hb := (s[k]'hlt).toNat_lt
                  have h48 : (48 : Int) ≤ ((s[k]'hlt).toNat : Int) := by rw [dg_spell] at q1; simp at q1; omega
                  have h57 : ((s[k]'hlt).toNat : Int) ≤ 57 := by rw [dg_spell] at q1; simp at q1; omega
                  go_wp2_with (go_at_call 99; refine (IsDigit_any _ _).mono ?_; rintro e w' ⟨rfl, rfl⟩)
                  go_roundw
                  case rel => exact ⟨⟨k + 1, accD n (s[k]'hlt), by omega, ha.1, ha.2, by go_num, by unfold accD; rw [Int.mul_comm n 10], hn⟩, by trivial⟩
                  case measure => simp [intOf]; omega
                · have hn : Hid (n = valI s) := by
                    unfold Hid
                    rw [← hinv.out, num_stop s hlt n q1]
                  go_wp2_with (go_at_call 99; refine (IsDigit_any _ _).mono ?_; rintro e w' ⟨rfl, rfl⟩)
                  go_ret
                  exact ⟨by rw [← hn.out]; rfl, rfl⟩
              · obtain rfl : k = s.size := by omega
                have hn : Hid (n = valI s) := by
                  unfold Hid
                  rw [← hinv.out, num_end]
                go_wp2
                go_ret
                exact ⟨by rw [← hn.out]; rfl, rfl⟩
    · obtain rfl : k = s.size := by omega
      have hv2 : Hid (numL (s.toList.drop s.size) 0 = valI s) := by
        unfold Hid valI
        rw [← hinv.out, trL_end, num_end]
        rfl
      go_wp2
      go_loopw [3, 5] (fun i v wr => (∃ (k : Nat) (n : Int), k ≤ s.size ∧ 0 ≤ n ∧ n ≤ 1000000000000000 ∧ i = .int .i64 k ∧ v = .int .i64 n ∧ Hid (numL (s.toList.drop k) n = valI s)) ∧ wr = wo) (fun i _ _ => s.size - (intOf i).toNat)
      case atStart => exact ⟨⟨s.size, 0, by omega, by omega, by omega, by first | rfl | go_num, rfl, hv2⟩, by trivial⟩
      case round =>
        obtain ⟨⟨k, n, hk, hn0, hn1, rfl, rfl, hinv⟩, rfl⟩ := hrel
        clear hv2
        by_cases hlt : k < s.size
        · rcases Bool.eq_false_or_eq_true (isDg (s[k]'hlt)) with q1 | q1
          · have ha := acc_in (b := s[k]'hlt) hn0 q1
            have hn : Hid (numL (s.toList.drop (k + 1)) (accD n (s[k]'hlt)) = valI s) := by
              unfold Hid
              rw [← hinv.out, num_dig s hlt n q1]
            have hb := (s[k]'hlt).toNat_lt
            have h48 : (48 : Int) ≤ ((s[k]'hlt).toNat : Int) := by rw [dg_spell] at q1; simp at q1; omega
            have h57 : ((s[k]'hlt).toNat : Int) ≤ 57 := by rw [dg_spell] at q1; simp at q1; omega
            go_wp2_with (go_at_call 99; refine (IsDigit_any _ _).mono ?_; rintro e w' ⟨rfl, rfl⟩)
            go_roundw
            case rel => exact ⟨⟨k + 1, accD n (s[k]'hlt), by omega, ha.1, ha.2, by go_num, by unfold accD; rw [Int.mul_comm n 10], hn⟩, by trivial⟩
            case measure => simp [intOf]; omega
          · have hn : Hid (n = valI s) := by
              unfold Hid
              rw [← hinv.out, num_stop s hlt n q1]
            go_wp2_with (go_at_call 99; refine (IsDigit_any _ _).mono ?_; rintro e w' ⟨rfl, rfl⟩)
            go_ret
            exact ⟨by rw [← hn.out]; rfl, rfl⟩
        · obtain rfl : k = s.size := by omega
          have hn : Hid (n = valI s) := by
            unfold Hid
            rw [← hinv.out, num_end]
          go_wp2
          go_ret
          exact ⟨by rw [← hn.out]; rfl, rfl⟩
end Go.Proofs.YtkjcfnmbnddhjaaDoor
