/-
  The digits of numbers, and copies of a byte: the program and the reference.
-/
import Derived.Test.YtkjcfnmbnddhjaaDoorVb2
import Derived.Test.YtkjcfnmbnddhjaaDoorVdP
import Derived.Test.YtkjcfnmbnddhjaaDoorSh
namespace Go.Proofs.YtkjcfnmbnddhjaaDoor
open Go.RowKit
set_option linter.unusedVariables false
set_option linter.unusedSimpArgs false
theorem dig_ext {d : Nat} (h : d < 10) : (⟨#[48, 49, 50, 51, 52, 53, 54, 55, 56, 57]⟩ : ByteArray).extract d (d + 1) = strB [dig d] := by
  have hd : d = 0 ∨ d = 1 ∨ d = 2 ∨ d = 3 ∨ d = 4 ∨ d = 5 ∨ d = 6 ∨ d = 7 ∨ d = 8 ∨ d = 9 := by omega
  rcases hd with rfl | rfl | rfl | rfl | rfl | rfl | rfl | rfl | rfl | rfl <;> rfl
theorem dig_run {d : Nat} (h : d < 10) (wx : World) : (Instr.slice 9 (.string ⟨#[48, 49, 50, 51, 52, 53, 54, 55, 56, 57]⟩) (some (.int .i64 (d : Int))) (some (.int .i64 ((d : Int) + 1))) none).run Tryd.prog wx = .ok (.string (strB [dig d])) wx := by
  have := run_slice_string (P := Tryd.prog) wx 9 ⟨#[48, 49, 50, 51, 52, 53, 54, 55, 56, 57]⟩ .i64 .i64 (d : Int) ((d : Int) + 1) Tryd.underlying9 (by omega) (by omega) (by show (d : Int) + 1 ≤ ((10 : Nat) : Int); omega)
  rw [this, ← dig_ext h]
  rfl
set_option maxRecDepth 100000 in
set_option maxHeartbeats 2000000 in
theorem decN_any (n : Nat) : ∀ (w : World), n ≤ 1000000000000000 → Calls Tryd.prog 90 #[.int .i64 n] w (Quiet (.string (strB (decL n))) w) := by
  induction n using Nat.strongRecOn with
  | ind n ih =>
    intro w hn
    by_cases hs : n < 10
    · have he := dig_run hs
      have hd := hid (decL_small hs)
      have d0 : decide ((n : Int) < 0) = false := by simp
      have d1 : decide ((n : Int) < 10) = true := by simp; omega
      go_enter Tryd.func90, Tryd.ntmps90
      go_wp2_with fail
      go_ret
      exact ⟨by rw [hd.out]; rfl, .refl _⟩
    · have hadd : ∀ wx, (Op.stringOp .add (strB (decL (n / 10))) (strB [dig (n % 10)])).run Tryd.prog wx = .ok (.string (strB (decL n))) wx := by
        intro wx
        have := decL_len (n / 10) 15 (by omega)
        rw [run_string_add_sum wx _ _ (by rw [strB_size, strB_size]; simp; omega), strB_add, ← decL_big hs]
      have he : ∀ wx, (Instr.slice 9 (.string ⟨#[48, 49, 50, 51, 52, 53, 54, 55, 56, 57]⟩) (some (.int .i64 ((n : Int) % 10))) (some (.int .i64 ((n : Int) % 10 + 1))) none).run Tryd.prog wx = .ok (.string (strB [dig (n % 10)])) wx := by
        intro wx
        have := dig_run (d := n % 10) (by omega) wx
        rwa [show ((n % 10 : Nat) : Int) = (n : Int) % 10 by omega] at this
      have i0 : Hid (∀ w, Calls Tryd.prog 90 #[.int .i64 ((n : Int) / 10)] w (Quiet (.string (strB (decL (n / 10)))) w)) := by
        intro w
        have := ih (n / 10) (by omega) w (by omega)
        rwa [show ((n / 10 : Nat) : Int) = (n : Int) / 10 by omega] at this
      clear ih
      have d0 : decide ((n : Int) < 0) = false := by simp
      have d1 : decide ((n : Int) < 10) = false := by simp; omega
      have g1 : IntKind.i64.wrap ((n : Int) / 10) = (n : Int) / 10 := IntWalk.i64_in _ (by omega)
      have g2 : IntKind.i64.wrap ((n : Int) % 10 + 1) = (n : Int) % 10 + 1 := IntWalk.i64_in _ (by omega)
      have g3 : IntKind.i64.wrap ((n : Int) % 10) = (n : Int) % 10 := IntWalk.i64_in _ (by omega)
      have g4 : (n : Int).tmod 10 = (n : Int) % 10 := Int.tmod_eq_emod_of_nonneg (by omega)
      go_enter Tryd.func90, Tryd.ntmps90
      go_wp2_with fail
      go_quiet ((go_at_call 90; exact quiet_dr (i0.out _)))
      go_wp2
      go_ret
      exact ⟨rfl, .mk1 _ _⟩
theorem str_add (a b : ByteArray) (h : a.size + b.size ≤ 9223372036854775807) (wx : World) : (Op.stringOp .add a b).run Tryd.prog wx = .ok (.string (a ++ b)) wx := run_string_add_sum wx a b h
theorem decB_len {n : Int} (h0 : -1000000000000000 ≤ n) (h1 : n ≤ 1000000000000000) : 1 ≤ (decB n).size ∧ (decB n).size ≤ 17 := by
  unfold decB
  split
  · have := decL_len (-n).toNat 15 (by omega)
    rw [strB_size]
    simp
    omega
  · have := decL_len n.toNat 15 (by omega)
    rw [strB_size]
    omega
set_option maxRecDepth 100000 in
set_option maxHeartbeats 2000000 in
theorem dec_any (n : Int) (h0 : -1000000000000000 ≤ n) (h1 : n ≤ 1000000000000000) (w : World) : Calls Tryd.prog 90 #[.int .i64 n] w (Quiet (.string (decB n)) w) := by
  by_cases h : n < 0
  · have hd : Hid (decB n = strB (45 :: decL (-n).toNat)) := by unfold Hid decB; rw [if_pos h]
    have i0 : Hid (∀ w, Calls Tryd.prog 90 #[.int .i64 (-n)] w (Quiet (.string (strB (decL (-n).toNat))) w)) := by
      intro w
      have := decN_any (-n).toNat w (by omega)
      rwa [show (((-n).toNat : Nat) : Int) = -n by omega] at this
    have hadd : ∀ wx, (Op.stringOp .add ⟨#[45]⟩ (strB (decL (-n).toNat))).run Tryd.prog wx = .ok (.string (strB (45 :: decL (-n).toNat))) wx := by
      intro wx
      have := decL_len (-n).toNat 15 (by omega)
      rw [run_string_add_sum wx _ _ (by rw [strB_size]; show 1 + _ ≤ _; omega)]
      rw [show (⟨#[45]⟩ : ByteArray) = strB [45] from rfl, strB_add]
      rfl
    have d0 : decide (n < 0) = true := by simpa using h
    go_enter Tryd.func90, Tryd.ntmps90
    go_wp2_with fail
    refine (i0.out _).mono ?_
    rintro e w1 ⟨rfl, hx⟩
    go_wp2
    go_ret
    exact ⟨by rw [hd.out]; rfl, hx⟩
  · have := decN_any n.toNat w (by omega)
    rw [show ((n.toNat : Nat) : Int) = n by omega] at this
    rw [show decB n = strB (decL n.toNat) by unfold decB; rw [if_neg h]]
    exact this
set_option maxRecDepth 100000 in
set_option maxHeartbeats 2000000 in
theorem wriN_any (n : Nat) : ∀ (w : World), n ≤ 1000000000000000 → Calls Tryd.prog 96 #[.int .i64 n] w fun e w' => e = .returned (.string (strB (decL n))) ∧ w = w' := by
  induction n using Nat.strongRecOn with
  | ind n ih =>
    intro w hn
    by_cases hs : n < 10
    · have he := dig_run hs
      have hd := hid (decL_small hs)
      have d0 : decide ((n : Int) < 0) = false := by simp
      have d1 : decide ((n : Int) < 10) = true := by simp; omega
      go_enter Tryd.func96, Tryd.ntmps96
      go_wp2_with fail
      go_ret
      exact ⟨by rw [hd.out]; rfl, rfl⟩
    · have hadd : ∀ wx, (Op.stringOp .add (strB (decL (n / 10))) (strB [dig (n % 10)])).run Tryd.prog wx = .ok (.string (strB (decL n))) wx := by
        intro wx
        have := decL_len (n / 10) 15 (by omega)
        rw [run_string_add_sum wx _ _ (by rw [strB_size, strB_size]; simp; omega), strB_add, ← decL_big hs]
      have i0 : Hid (∀ w, Calls Tryd.prog 96 #[.int .i64 ((n : Int) / 10)] w fun e w' => e = .returned (.string (strB (decL (n / 10)))) ∧ w = w') := by
        intro w
        have := ih (n / 10) (by omega) w (by omega)
        rwa [show ((n / 10 : Nat) : Int) = (n : Int) / 10 by omega] at this
      have i1 : Hid (∀ w, Calls Tryd.prog 96 #[.int .i64 ((n : Int) % 10)] w fun e w' => e = .returned (.string (strB [dig (n % 10)])) ∧ w = w') := by
        intro w
        have := ih (n % 10) (by omega) w (by omega)
        rwa [show ((n % 10 : Nat) : Int) = (n : Int) % 10 by omega, decL_small (by omega)] at this
      clear ih
      have d0 : decide ((n : Int) < 0) = false := by simp
      have d1 : decide ((n : Int) < 10) = false := by simp; omega
      go_enter Tryd.func96, Tryd.ntmps96
      go_wp2_with fail
      refine (i0.out _).mono ?_
      rintro e w1 ⟨rfl, rfl⟩
      go_wp2_with fail
      refine (i1.out _).mono ?_
      rintro e w1 ⟨rfl, rfl⟩
      go_wp2
      go_ret
      exact ⟨rfl, rfl⟩
set_option maxRecDepth 100000 in
set_option maxHeartbeats 2000000 in
theorem wri_any (n : Int) (h0 : -1000000000000000 ≤ n) (h1 : n ≤ 1000000000000000) (w : World) : Calls Tryd.prog 96 #[.int .i64 n] w fun e w' => e = .returned (.string (decB n)) ∧ w = w' := by
  by_cases h : n < 0
  · have hd : Hid (decB n = strB (45 :: decL (-n).toNat)) := by unfold Hid decB; rw [if_pos h]
    have i0 : Hid (∀ w, Calls Tryd.prog 96 #[.int .i64 (-n)] w fun e w' => e = .returned (.string (strB (decL (-n).toNat))) ∧ w = w') := by
      intro w
      have := wriN_any (-n).toNat w (by omega)
      rwa [show (((-n).toNat : Nat) : Int) = -n by omega] at this
    have hadd : ∀ wx, (Op.stringOp .add ⟨#[45]⟩ (strB (decL (-n).toNat))).run Tryd.prog wx = .ok (.string (strB (45 :: decL (-n).toNat))) wx := by
      intro wx
      have := decL_len (-n).toNat 15 (by omega)
      rw [run_string_add_sum wx _ _ (by rw [strB_size]; show 1 + _ ≤ _; omega)]
      rw [show (⟨#[45]⟩ : ByteArray) = strB [45] from rfl, strB_add]
      rfl
    have d0 : decide (n < 0) = true := by simpa using h
    have d2 : (n == -9223372036854775808) = false := by simp; omega
    go_enter Tryd.func96, Tryd.ntmps96
    go_wp2_with fail
    refine (i0.out _).mono ?_
    rintro e w1 ⟨rfl, rfl⟩
    go_wp2
    go_ret
    exact ⟨by rw [hd.out]; rfl, rfl⟩
  · have := wriN_any n.toNat w (by omega)
    rw [show ((n.toNat : Nat) : Int) = n by omega] at this
    rw [show decB n = strB (decL n.toNat) by unfold decB; rw [if_neg h]]
    exact this
/-- Copies of a byte. -/
def repB (c : UInt8) (n : Nat) : ByteArray := strB (List.replicate n c)
theorem repB_size (c : UInt8) (n : Nat) : (repB c n).size = n := by unfold repB; rw [strB_size, List.length_replicate]
theorem repeat_one (c : UInt8) : ∀ n, Lib.repeatL [c] n = List.replicate n c
  | 0 => rfl
  | n + 1 => by rw [Lib.repeatL, repeat_one c n]; rfl
theorem rep_any (c : UInt8) (n : Nat) (h : n ≤ 100000) (w : World) : Calls Tryd.prog 95 #[.string ⟨#[c]⟩, .int .i64 n] w (Give (.string (repB c n)) w) := by
  refine (Tryd.strings_Repeat ⟨#[c]⟩ n w (by omega) (by show 1 * n ≤ _; omega)).mono ?_
  rintro e w' ⟨rfl, hb⟩
  exact ⟨by rw [repeat_one]; rfl, hb⟩
theorem repB_snoc (c : UInt8) (k : Nat) : repB c k ++ (⟨#[c]⟩ : ByteArray) = repB c (k + 1) := by
  rw [show (⟨#[c]⟩ : ByteArray) = strB [c] from rfl]
  unfold repB
  rw [strB_add, List.replicate_succ', ]
set_option maxRecDepth 100000 in
set_option maxHeartbeats 2000000 in
theorem Times_any (c : UInt8) (n : Nat) (h : n ≤ 100000) (w : World) : Calls Tryd.prog 97 #[.string ⟨#[c]⟩, .int .i64 n] w fun e w' => e = .returned (.string (repB c n)) ∧ w = w' := by
  have hz : Hid ((⟨#[]⟩ : ByteArray) = repB c 0) := rfl
  have hadd : Hid (∀ k wx, k ≤ 100000 → (Op.stringOp .add (repB c k) ⟨#[c]⟩).run Tryd.prog wx = .ok (.string (repB c (k + 1))) wx) := by
    intro k wx hk
    rw [run_string_add_sum wx _ _ (by rw [repB_size]; show k + 1 ≤ _; omega), repB_snoc]
  go_enter Tryd.func97, Tryd.ntmps97
  go_wp2_with fail
  go_loopw [5, 6] (fun v i wr => (∃ k : Nat, k ≤ n ∧ i = .int .i64 k ∧ v = .string (repB c k)) ∧ wr = w) (fun _ i _ => n - (intOf i).toNat)
  case atStart => exact ⟨⟨0, by omega, rfl, by rw [← hz.out]⟩, rfl⟩
  case round =>
    obtain ⟨⟨k, hk, rfl, rfl⟩, rfl⟩ := hrel
    by_cases hlt : k < n
    · have ha := fun wx => hadd.out k wx (by omega)
      go_wp2
      go_roundw
      case rel => exact ⟨⟨k + 1, by omega, by go_num, by trivial⟩, by trivial⟩
      case measure => simp [intOf]; omega
    · obtain rfl : k = n := by omega
      go_wp2
      go_ret
      exact ⟨rfl, rfl⟩
theorem trimLeft_any (s : ByteArray) (w : World) : Calls Tryd.prog 98 #[.string s, .string ⟨#[32]⟩] w fun e w' => e = .returned (.string (trimL s 32)) ∧ w = w' := by
  refine (Tryd.strings_TrimLeft_one s 32 (by decide) w).mono ?_
  rintro e w' ⟨rfl, rfl⟩
  refine ⟨?_, rfl⟩
  have : Lib.trimLeftB s.data.toList 32 = trL s.toList 32 := by
    unfold Lib.trimLeftB trL
    rw [ByteArray.toList_eq]
    congr 1
    funext b
    rw [Bool.eq_iff_iff]
    simp only [beq_iff_eq, decide_eq_true_eq]
    refine ⟨fun h => by rw [h]; rfl, fun h => UInt8.toNat_inj.1 (by show b.toNat = 32; omega)⟩
  rw [this]
  rfl
end Go.Proofs.YtkjcfnmbnddhjaaDoor
