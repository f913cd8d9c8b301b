/-
  The number of bytes and the text of a key: the program and the reference.
-/
import Derived.Test.YtlfanhlkoepodaaDoorKS
import Derived.Test.YtlfanhlkoepodaaDoorK5
import Derived.Test.YtlfanhlkoepodaaDoorK3
namespace Go.Proofs.YtlfanhlkoepodaaDoor
open Go.RowKit
set_option linter.unusedVariables false
set_option linter.unusedSimpArgs false
attribute [local go_sem] Pg.conv_new
theorem beN_step (s : ByteArray) {k : Nat} (hk : k < s.size) : beN (s.toList.take (k + 1)) = beN (s.toList.take k) * 256 + (s[k]'hk).toNat := by rw [take_byte s hk, beN_snoc]
set_option maxRecDepth 100000 in
set_option maxHeartbeats 4000000 in
theorem number_any (s : ByteArray) (hs : s.size ≤ 8) (w : World) : Calls Tryd.prog 88 #[.string s] w fun e w' => e = .returned (.int .i64 (w64 (beN s.toList))) ∧ w = w' := by
  go_enter Tryd.func88, Tryd.ntmps88
  go_wp2
  go_loop [3, 7] (fun n i => ∃ k x : Nat, k ≤ s.size ∧ i = .int .i64 k ∧ n = .int .i64 (w64 x) ∧ Hid (x = beN (s.toList.take k))) (fun _ i => s.size - (intOf i).toNat)
  case atStart => exact ⟨0, 0, by omega, rfl, by simp [w64, IntKind.wrap, IntKind.bits, IntKind.signed], by unfold Hid; simp [beN]⟩
  case round =>
    obtain ⟨k, x, hk, rfl, rfl, hx⟩ := hrel
    by_cases hlt : k < s.size
    · have h7 := beN_lt7 (l := s.toList.take k) (by rw [List.length_take]; omega)
      rw [← hx.out] at h7
      have hst := beN_step s hlt
      rw [← hx.out] at hst
      have hb := (s[k]'hlt).toNat_lt
      have e0 : w64 (x : Int) = (x : Int) := w64_in (by omega) (by omega)
      rw [e0]
      have eo : bits .or .i64 (wrap64 ((x : Int) * 256)) (((s[k]'hlt).toNat : Nat) : Int) = w64 ((x * 256 + (s[k]'hlt).toNat : Nat) : Int) := by
        rw [w64_64, or_i64 x (s[k]'hlt).toNat hb]
        congr 1
      have hst := hid hst
      clear e0 hx
      go_wp2_with fail
      go_round
      case rel => exact ⟨k + 1, x * 256 + (s[k]'hlt).toNat, by omega, by go_num, rfl, by unfold Hid; rw [hst.out]⟩
      case measure => simp [intOf]; omega
    · obtain rfl : k = s.size := by omega
      have hf : Hid (x = beN s.toList) := by unfold Hid; rw [hx.out, take_all]
      clear hx
      go_wp2
      go_ret
      exact ⟨by rw [hf.out]; rfl, rfl⟩
set_option maxRecDepth 100000 in
set_option maxHeartbeats 4000000 in
theorem rread_any (s : ByteArray) (hs : s.size ≤ 8) (hb : beN s.toList < 9223372036854775808) (w : World) : Calls Tryd.prog 90 #[.string s] w fun e w' => e = .returned (.int .i64 (beN s.toList : Nat)) ∧ w = w' := by
  have hstep : Hid (∀ k, k < s.size → beN (s.toList.take (k + 1)) < 9223372036854775808) := by
    intro k hk
    by_cases h7 : k + 1 ≤ 7
    · have := beN_lt7 (l := s.toList.take (k + 1)) (by rw [List.length_take]; omega)
      omega
    · rw [show k + 1 = s.size by omega, take_all]
      exact hb
  clear hb
  go_enter Tryd.func90, Tryd.ntmps90
  go_wp2
  go_loop [3, 4] (fun n i => ∃ k x : Nat, k ≤ s.size ∧ i = .int .i64 k ∧ n = .int .i64 (x : Nat) ∧ Hid (x = beN (s.toList.take k))) (fun _ i => s.size - (intOf i).toNat)
  case atStart => exact ⟨0, 0, by omega, rfl, rfl, by unfold Hid; simp [beN]⟩
  case round =>
    obtain ⟨k, x, hk, rfl, rfl, hx⟩ := hrel
    by_cases hlt : k < s.size
    · have hst := beN_step s hlt
      have h63 := hstep.out k hlt
      rw [hst] at h63
      rw [← hx.out] at hst h63
      have hb := (s[k]'hlt).toNat_lt
      have hst := hid hst
      clear hx hb
      go_wp2_with fail
      go_round
      case rel => exact ⟨k + 1, x * 256 + (s[k]'hlt).toNat, by omega, by go_num, by go_num, by unfold Hid; rw [hst.out]⟩
      case measure => simp [intOf]; omega
    · obtain rfl : k = s.size := by omega
      have hf : Hid (x = beN s.toList) := by unfold Hid; rw [hx.out, take_all]
      clear hx
      go_wp2
      go_ret
      exact ⟨by rw [hf.out]; rfl, rfl⟩
end Go.Proofs.YtlfanhlkoepodaaDoor
