/-
  The reference's shortest text; how long values are; what is known.
-/
import Derived.Test.YtlfanhlkoepodaaDoorK4
import Derived.Test.YtlfanhlkoepodaaDoorK6
namespace Go.Proofs.YtlfanhlkoepodaaDoor
open Go.RowKit
set_option linter.unusedVariables false
set_option linter.unusedSimpArgs false
theorem fur_len : ∀ (l x : List UInt8), furF l = some x → x.length = l.length
  | [], x, h => by cases h
  | b :: l, x, h => by
    rw [furF] at h
    cases hf : furF l with
    | some y =>
      rw [hf] at h
      obtain rfl := Option.some.inj h
      simp [fur_len l y hf]
    | none =>
      rw [hf] at h
      by_cases hb : b.toNat < 255
      · rw [if_pos hb] at h
        obtain rfl := Option.some.inj h
        simp
      · rw [if_neg hb] at h
        cases h
set_option maxRecDepth 100000 in
set_option maxHeartbeats 4000000 in
theorem rShort_any (a b : ByteArray) (hs : a.size ≤ 100000) (ht : b.size ≤ 100000) (w : World) : Calls Tryd.prog 26 #[.string a, .string b] w (GiveSE (shoS a b) (shoE a b) w) := by
  have hc := hid (fun w => rCmpT_any a b hs ht w)
  by_cases h : Lib.compareBytes a.toList b.toList < 0
  rotate_left
  · obtain ⟨e1, e2⟩ := sho_no h
    rw [e1, e2]
    have d1 : decide (0 ≤ Lib.compareBytes a.toList b.toList) = true := by simp; omega
    clear h e1 e2
    generalize Lib.compareBytes a.toList b.toList = C at *
    go_enter Tryd.func26, Tryd.ntmps26
    go_wp2_with fail
    refine (hc.out _).mono ?_
    rintro e w1 ⟨rfl, hx⟩
    go_wp2
    go_ret2
    exact ⟨rfl, hx⟩
  have hy := hid (sho_yes h)
  have hh := hid (fun hk => sho_hit h hk)
  have hle := cmn_le a.toList b.toList
  rw [len_toList, len_toList] at hle
  have hk0 : Hid (cmnL a.toList b.toList ≤ a.size) := hle.1
  have d1 : decide (0 ≤ Lib.compareBytes a.toList b.toList) = false := by simp; omega
  have hls : Hid (∀ k, k ≤ cmnL a.toList b.toList → ∀ x, furF (a.toList.take k) = some x → 0 < Lib.compareBytes x b.toList) := fun k hk x hx => sho_less k hk hx
  rw [len_toList] at hh
  clear h hle
  generalize Lib.compareBytes a.toList b.toList = C at *
  generalize hL : shoL a.toList b.toList = L at *
  generalize shoS a b = S at *
  generalize shoE a b = E at *
  have hend : Hid (cmnL a.toList b.toList = a.size → L = (a.toList ++ [0])) := by
    intro e
    rw [← hL]
    unfold shoL
    rw [if_pos (by rw [e, len_toList])]
  clear hL
  generalize hN : cmnL a.toList b.toList = N at *
  clear hN
  go_enter Tryd.func26, Tryd.ntmps26
  go_wp2_with fail
  refine (hc.out _).mono ?_
  rintro e w1 ⟨rfl, hx1⟩
  replace hx1 := hid hx1
  clear hc
  go_wp2_with fail
  go_loopw [6] (fun v wr => ∃ k : Nat, v = .int .i64 ((k : Int) + 1) ∧ k ≤ N ∧ Hid (Ext w wr)) (fun v _ => N + 1 - (intOf v).toNat)
  case atStart => exact ⟨0, rfl, by omega, hx1⟩
  case round =>
    obtain ⟨k, rfl, hk, hx⟩ := hrel
    have hkN := hk0.out
    have ek : IntKind.i64.wrap ((k : Int) + 1 + 1) = (k : Int) + 1 + 1 := IntWalk.i64_in _ (by omega)
    by_cases hka : k + 1 ≤ a.size
    · have d2 : decide ((k : Int) + 1 ≤ (a.size : Int)) = true := by simp; omega
      have sl : ∀ wx, (Instr.slice 9 (.string a) none (some (.int .i64 ((k : Int) + 1))) none).run Tryd.prog wx = .ok (.string (a.extract 0 (k + 1))) wx := by
        intro wx
        rw [run_slice_string_to_if (P := Tryd.prog) wx 9 a .i64 ((k : Int) + 1) Tryd.underlying9, if_pos ⟨by omega, by omega⟩, show ((k : Int) + 1).toNat = k + 1 by omega]
      have hz := ext0_size a hka
      have hfu := hid (fun w => further_any (a.extract 0 (k + 1)) (by omega) w)
      have hl : (a.extract 0 (k + 1)).toList = a.toList.take (k + 1) := by rw [ext0, strB_toList]
      cases hf : furF (a.toList.take (k + 1)) with
      | none =>
        have hr := fur_n (s := a.extract 0 (k + 1)) (by rw [hl]; exact hf)
        rw [hr.1, hr.2] at hfu
        have hkk : k + 1 ≤ N := by
          apply Nat.lt_of_not_le
          intro hle
          have hkN2 : k = N := by omega
          have := (hh.out (by omega)).1
          rw [← hkN2, hf] at this
          cases this
        clear hr hl hf hz
        go_wp2_with fail
        refine (hfu.out _).mono ?_
        rintro e w2 ⟨rfl, hx2⟩
        have hE := hid (hx.out.trans hx2)
        clear hx2
        go_wp2
        go_roundw
        case rel => exact ⟨k + 1, by go_num, hkk, hE⟩
        case measure => simp [intOf]; omega
      | some x =>
        have hr := fur_s (s := a.extract 0 (k + 1)) (by rw [hl]; exact hf)
        have hxl := fur_len _ _ hf
        rw [List.length_take, len_toList] at hxl
        have hxs : (strB x).size ≤ 100000 := by rw [strB_size]; omega
        rw [hr.1, hr.2] at hfu
        have hcx := hid (fun w => rCmpT_any (strB x) b hxs ht w)
        rw [strB_toList] at hcx
        by_cases hkk : k + 1 ≤ N
        · have hp := hls.out (k + 1) hkk x hf
          have d3 : decide (Lib.compareBytes x b.toList ≤ 0) = false := by simp; omega
          generalize strB x = X at *
          generalize Lib.compareBytes x b.toList = D at *
          clear hr hl hf hz hxl hp
          go_wp2_with fail
          refine (hfu.out _).mono ?_
          rintro e w2 ⟨rfl, hx2⟩
          have hE := hid (hx.out.trans hx2)
          clear hx2
          go_wp2_with fail
          refine (hcx.out _).mono ?_
          rintro e w3 ⟨rfl, hx3⟩
          replace hE := hid (hE.out.trans hx3)
          clear hx3
          go_wp2
          go_roundw
          case rel => exact ⟨k + 1, by go_num, hkk, hE⟩
          case measure => simp [intOf]; omega
        · obtain rfl : k = N := by omega
          have hhit := hh.out (by omega)
          rw [hf] at hhit
          have hxL : x = L := Option.some.inj hhit.1
          have hp := hhit.2
          rw [← hxL] at hp
          have d3 : decide (Lib.compareBytes x b.toList ≤ 0) = true := by simp; omega
          have hS : Hid (strB x = S) := by unfold Hid; rw [hy.out.1, hxL]
          rw [hS.out] at hfu hcx
          generalize Lib.compareBytes x b.toList = D at *
          clear hr hl hf hz hxl hp hhit
          go_wp2_with fail
          refine (hfu.out _).mono ?_
          rintro e w2 ⟨rfl, hx2⟩
          have hE := hid (hx.out.trans hx2)
          clear hx2
          go_wp2_with fail
          refine (hcx.out _).mono ?_
          rintro e w3 ⟨rfl, hx3⟩
          replace hE := hid (hE.out.trans hx3)
          clear hx3
          go_wp2
          go_ret2
          exact ⟨by rw [hy.out.2]; rfl, hE.out⟩
    · have d2 : decide ((k : Int) + 1 ≤ (a.size : Int)) = false := by simp; omega
      have hS : Hid (S = a ++ ⟨#[0]⟩) := by
        unfold Hid
        rw [hy.out.1, hend.out (by omega), ← strB_add, strB_id]
        rfl
      have ad := str_add a ⟨#[0]⟩ (by show _ + 1 ≤ _; omega)
      rw [← hS.out] at ad
      clear hls hh hend
      go_wp2
      go_ret2
      exact ⟨by rw [hy.out.2]; rfl, hx.out⟩
set_option maxRecDepth 100000 in
set_option maxHeartbeats 4000000 in
theorem many_any (f : Nat → ByteArray) (n g : Nat) (hn : n ≤ 100) (w : World) (H : ∀ j, j < n → w.cell? ⟨g, j * 3 + 2, none⟩ = some (.string (f j))) : Calls Tryd.prog 45 #[.slice (some ⟨g, 0, none⟩) n n] w fun e w' => (∃ b : Bool, e = .returned (.bool b)) ∧ w = w' := by
  have H := hid H
  go_enter Tryd.func45, Tryd.ntmps45
  go_wp2_with fail
  go_loopw [3, 4] (fun v i wr => (∃ (k : Nat) (x : Int), k ≤ n ∧ v = .int .i64 x ∧ i = .int .i64 k) ∧ wr = w) (fun _ i _ => n - (intOf i).toNat)
  case atStart => exact ⟨⟨0, _, by omega, rfl, rfl⟩, rfl⟩
  case round =>
    obtain ⟨⟨k, x, hk, rfl, rfl⟩, rfl⟩ := hrel
    by_cases hlt : k < n
    · have hc := H.out k hlt
      go_wp2
      go_roundw
      case rel => exact ⟨⟨k + 1, _, by omega, rfl, by go_num⟩, by trivial⟩
      case measure => simp [intOf]; omega
    · obtain rfl : k = n := by omega
      go_wp2
      go_ret
      exact ⟨⟨_, rfl⟩, rfl⟩
theorem over_any (f : Nat → ByteArray) (n g : Nat) (hn : n ≤ 100) (w : World) (H : ∀ j, j < n → w.cell? ⟨g, j * 3 + 2, none⟩ = some (.string (f j))) : Calls Tryd.prog 15 #[.slice (some ⟨g, 0, none⟩) n n] w fun e w' => (∃ b : Bool, e = .returned (.bool b)) ∧ w = w' := by
  have hm := hid (many_any f n g hn w H)
  clear H
  go_enter Tryd.func15, Tryd.ntmps15
  go_wp2_with fail
  refine hm.out.mono ?_
  rintro e w' ⟨⟨b, rfl⟩, rfl⟩
  go_wp2
  go_ret
  exact ⟨⟨b, rfl⟩, rfl⟩
set_option maxRecDepth 100000 in
set_option maxHeartbeats 4000000 in
theorem enc_known : encS 4 0 ⟨#[97]⟩ 0 0 false = ⟨#[4, 97, 0, 0]⟩ ∧ askV 4 0 ⟨#[97]⟩ 0 0 = 0 := by
  have h : askV 4 0 ⟨#[97]⟩ 0 0 = 0 := by decide
  refine ⟨?_, h⟩
  rw [enc_yes h, turnS_f]
  unfold keyB wt
  rw [ByteArray.toList_eq]
  rfl
theorem beh_known : behS ⟨#[4, 255]⟩ = ⟨#[5]⟩ ∧ behO ⟨#[4, 255]⟩ = true := by
  unfold behS behO
  rw [ByteArray.toList_eq]
  exact ⟨rfl, rfl⟩
theorem sho_known : shoS ⟨#[97, 98, 99]⟩ ⟨#[97, 98, 120]⟩ = ⟨#[97, 98, 100]⟩ ∧ shoE ⟨#[97, 98, 99]⟩ ⟨#[97, 98, 120]⟩ = 0 := by
  unfold shoS shoE
  rw [ByteArray.toList_eq, ByteArray.toList_eq]
  exact ⟨rfl, rfl⟩
theorem known_any (w : World) (hm : ML w) : Calls Tryd.prog 16 #[] w (Give (.bool true) w) := by
  have c1 := hid (fun w => Text_any ⟨#[97]⟩ w)
  have c2 := hid (fun w hm => Encode_any 4 0 ⟨#[97]⟩ 0 0 false w hm)
  have c3 := hid (fun w => Behind_any ⟨#[4, 255]⟩ (by decide) w)
  have c4 := hid (fun w => Short_any ⟨#[97, 98, 99]⟩ ⟨#[97, 98, 120]⟩ (by decide) (by decide) w)
  rw [enc_known.1, enc_known.2] at c2
  rw [beh_known.1, beh_known.2] at c3
  rw [sho_known.1, sho_known.2] at c4
  unfold vV at *
  replace hm := hid hm
  go_enter Tryd.func16, Tryd.ntmps16
  go_wp2_with fail
  refine (c1.out _).mono ?_
  rintro e w1 ⟨rfl, hx1⟩
  go_wp2_with fail
  refine (c2.out _ (hm.out.ext hx1)).mono ?_
  rintro e w2 ⟨rfl, hx2⟩
  go_wp2_with fail
  refine (c3.out _).mono ?_
  rintro e w3 ⟨rfl, hx3⟩
  go_wp2_with fail
  refine (c4.out _).mono ?_
  rintro e w4 ⟨rfl, hx4⟩
  go_wp2
  go_ret
  exact ⟨rfl, ((hx1.trans hx2).trans hx3).trans hx4⟩
end Go.Proofs.YtlfanhlkoepodaaDoor
