/-
  The byte of a character on a page: the program and the reference.
-/
import Derived.Test.YtlhnabkfacmmnaaPc2
namespace Go.Proofs.Ytlhnabkfacmmnaa
open Go.RowKit
set_option linter.unusedVariables false
set_option linter.unusedSimpArgs false
/-- The first byte that has the character. -/
def fB (f : Nat → Int) (c : Int) : Option Nat := if 0 ≤ c then (List.range 256).find? (fun b => f b == c) else none
def bv : Option Nat → Int | none => 0 | some b => b
def NoB (f : Nat → Int) (c : Int) (k : Nat) : Prop := ∀ j, j < k → f j ≠ c
theorem fB_neg {f : Nat → Int} {c : Int} (h : c < 0) : fB f c = none := if_neg (by omega)
theorem fB_hit {f : Nat → Int} {c : Int} {k : Nat} (h0 : 0 ≤ c) (hk : k < 256) (hn : NoB f c k) (h : f k = c) : fB f c = some k := by
  unfold fB
  rw [if_pos h0, List.find?_eq_some_iff_getElem]
  refine ⟨by simpa using h, k, by simpa using hk, by simp, fun j hj => ?_⟩
  simpa using hn j hj
theorem fB_none {f : Nat → Int} {c : Int} (hn : NoB f c 256) : fB f c = none := by
  unfold fB
  split
  · rw [List.find?_eq_none]
    intro x hx
    simpa using hn x (by simpa using hx)
  · rfl
theorem NoB.zero (f : Nat → Int) (c : Int) : NoB f c 0 := fun j hj => by omega
theorem NoB.succ {f : Nat → Int} {c : Int} {k : Nat} (h : NoB f c k) (hk : f k ≠ c) : NoB f c (k + 1) := fun j hj => by
  by_cases e : j = k
  · rw [e]; exact hk
  · exact h j (by omega)
theorem fB_rng {f : Nat → Int} {c : Int} {b : Nat} (h : fB f c = some b) : b < 256 ∧ 0 ≤ c ∧ f b = c := by
  unfold fB at h
  split at h
  · rename_i h0
    rw [List.find?_eq_some_iff_getElem] at h
    obtain ⟨h1, i, h2, h3, _⟩ := h
    simp at h3 h2
    subst h3
    exact ⟨h2, h0, by simpa using h1⟩
  · cases h
theorem fB_bv (f : Nat → Int) (c : Int) : 0 ≤ bv (fB f c) ∧ bv (fB f c) ≤ 255 := by
  cases h : fB f c with
  | none => exact ⟨by decide, by decide⟩
  | some b => have := (fB_rng h).1; exact ⟨by show (0 : Int) ≤ (b : Int); omega, by show (b : Int) ≤ 255; omega⟩
theorem u8_in3 (x : Int) (h0 : 0 ≤ x) (h1 : x ≤ 255) : IntKind.u8.wrap x = x := by simp [IntKind.wrap, IntKind.bits, IntKind.signed]; omega
theorem ret_bb3 {a b : Bool} {x y : Int} (h : x = y) (h' : a = b) : Ending.returned (.tuple #[.int .u8 x, .bool a]) = .returned (.tuple #[.int .u8 y, .bool b]) := by rw [h, h']
theorem ret_ib3 {a b : Bool} {x y : Int} (h : x = y) (h' : a = b) : Ending.returned (.tuple #[.int .i64 x, .bool a]) = .returned (.tuple #[.int .i64 y, .bool b]) := by rw [h, h']
theorem run_idx58 {C : Array Value} {k : Nat} {x : Int} (hk : k < 256) (h : C[k]? = some (.int .i32 x)) (w : World) : (Instr.index 58 (.agg C) (.int .i64 (k : Int))).run Try.prog w = .ok (.int .i32 x) w := by
  have hk' : (k : Int) < 256 := by omega
  have hu := Try.underlying58
  simp [Instr.index, part, go_sem, hu, h, hk', hk]
set_option maxRecDepth 100000 in
set_option maxHeartbeats 4000000 in
theorem byteOf_any (f : Nat → Int) (c : Int) (w : World) : Calls Try.prog 49 #[.agg (i32s f 256).toArray, .int .i32 c] w fun e w' => e = .returned (.tuple #[.int .u8 (bv (fB f c)), .bool (fB f c).isSome]) ∧ Ext w w' := by
  have hC : Hid (∀ i, i < 256 → (i32s f 256).toArray[i]? = some (Value.int .i32 (f i))) := fun i h => by simpa using i32s_at f (n := 256) (i := i) h
  have hsz : (i32s f 256).toArray.size = 256 := by simp [i32s_len]
  have hrg := hid (World.rangeAt_of_block (w := w.alloc (.cells (i32s f 256).toArray 58)) (heap_alloc_new w _) 0 256)
  generalize hCe : (i32s f 256).toArray = C at *
  have hCl : Hid ((C.extract 0 (0 + 256)).toList = i32s f 256) := by
    unfold Hid
    rw [← hCe]
    simp [i32s_len, List.take_of_length_le]
  have hin : Hid ((Try.prog.info? 58).map (·.size) = some (C.extract 0 (0 + 256)).toList.length) := by unfold Hid; rw [hCl.out, i32s_len]; exact info58
  have hCC : Hid ((C.extract 0 (0 + 256)).toList.toArray = C) := by
    unfold Hid
    rw [hCl.out]; exact hCe
  have hCe := hid hCe
  clear hCl
  have hbox : ∀ w, (Instr.box 58 (.agg C)).run Try.prog w = .ok (.pointer (some ⟨w.heap.size, 0, none⟩)) (w.alloc (.cells C 58)) := by
    intro w
    simp [go_sem]
  go_enter Try.func49, Try.ntmps49
  go_wp2_with (refine wpList_load_mid rfl 58 (.tmp 2) rfl w.heap.size 0 rfl _ _ hrg.out Try.underlying58 rfl hin.out ?_; rw [hCC.out])
  have hE := hid ((Ext.refl w).alloc_right (.cells C 58))
  generalize w.alloc (.cells C 58) = w0 at *
  clear hrg hin hCC hbox hCe
  go_loop [9] (fun i => ∃ k : Nat, k ≤ 256 ∧ i = .int .i64 k ∧ Hid (0 ≤ c → NoB f c k)) (fun i => 256 - (intOf i).toNat)
  case atStart => exact ⟨0, by omega, rfl, fun _ => NoB.zero f c⟩
  case round =>
    obtain ⟨k, hk, rfl, hn⟩ := hrel
    by_cases hlt : k < 256
    · have hat := run_idx58 hlt (hC.out k hlt) w0
      have hlt' : (k : Int) < 256 := by omega
      have eu := u8_in3 (k : Int) (by omega) (by omega)
      by_cases hfc : f k = c
      · have d1 : (f k == c) = true := by simpa using hfc
        by_cases h0 : 0 ≤ c
        · have d2 : decide (0 ≤ c) = true := by simpa using h0
          have Fin := hid (fB_hit h0 hlt (hn.out h0) hfc)
          clear hfc h0
          go_wp2
          go_ret2
          exact ⟨ret_bb3 (by rw [Fin.out]; rfl) (by rw [Fin.out]; rfl), hE.out⟩
        · have d2 : decide (0 ≤ c) = false := by simpa using h0
          have hn2 : Hid (0 ≤ c → NoB f c (k + 1)) := fun h => absurd h h0
          clear hfc h0
          go_wp2
          go_round
          case rel => exact ⟨k + 1, by omega, by go_num, hn2⟩
          case measure => simp [intOf] <;> omega
      · have d1 : (f k == c) = false := by simpa using hfc
        have hn2 : Hid (0 ≤ c → NoB f c (k + 1)) := fun h => (hn.out h).succ hfc
        clear hfc
        go_wp2
        go_round
        case rel => exact ⟨k + 1, by omega, by go_num, hn2⟩
        case measure => simp [intOf] <;> omega
    · obtain rfl : k = 256 := by omega
      have Fin : Hid (fB f c = none) := by
        by_cases h0 : 0 ≤ c
        · exact fB_none (hn.out h0)
        · exact fB_neg (by omega)
      go_wp2
      go_ret2
      exact ⟨ret_bb3 (by rw [Fin.out]; rfl) (by rw [Fin.out]; rfl), hE.out⟩
/-- The character of a byte on a page, as the reference has it. -/
def chC (p : Nat) (b : Nat) : Int := if 0 ≤ chS p b then chS p b else 0
theorem ch_1 (b : Nat) : chS 1 b = b := rfl
set_option maxRecDepth 100000 in
set_option maxHeartbeats 4000000 in
theorem char_any (b p : Nat) (hb : b < 256) (hp : p ≤ 2) (w : World) : Calls Try.prog 50 #[.int .u8 (b : Int), .int .i64 (p : Int)] w fun e w' => e = .returned (.tuple #[.int .i64 (chC p b), .bool (decide (0 ≤ chS p b))]) ∧ w = w' := by
  by_cases h1 : p = 1
  · subst h1
    have Fin : Hid (chS 1 b = (b : Int)) := rfl
    by_cases h128 : b < 128
    · have d1 : decide ((b : Int) < 128) = true := by simp; omega
      go_enter Try.func50, Try.ntmps50
      go_wp2
      go_ret2
      exact ⟨ret_ib3 (by unfold chC; rw [Fin.out, if_pos (by omega)]) (by rw [Fin.out]; simp), rfl⟩
    · have d1 : decide ((b : Int) < 128) = false := by simp; omega
      go_enter Try.func50, Try.ntmps50
      go_wp2
      go_ret2
      exact ⟨ret_ib3 (by unfold chC; rw [Fin.out, if_pos (by omega)]) (by rw [Fin.out]; simp), rfl⟩
  · have e1 : ((p : Int) == 1) = false := by rw [beq_eq_false_iff_ne]; omega
    by_cases h128 : b < 128
    · have d1 : decide ((b : Int) < 128) = true := by simp; omega
      have Fin : Hid (chS p b = (b : Int)) := by unfold Hid chS; rw [if_neg h1, if_pos h128]
      clear h1
      go_enter Try.func50, Try.ntmps50
      go_wp2
      go_ret2
      exact ⟨ret_ib3 (by unfold chC; rw [Fin.out, if_pos (by omega)]) (by rw [Fin.out]; simp), rfl⟩
    · have d1 : decide ((b : Int) < 128) = false := by simp; omega
      by_cases h2 : p = 2
      · subst h2
        by_cases h175 : b ≤ 175
        · have d2 : decide ((b : Int) ≤ 175) = true := by simp; omega
          have Fin : Hid (chS 2 b = (b : Int) - 128 + 1040) := by unfold Hid chS; rw [if_neg h1, if_neg h128, if_pos rfl, if_pos h175]
          clear h1
          go_enter Try.func50, Try.ntmps50
          go_wp2
          go_ret2
          exact ⟨ret_ib3 (by unfold chC; rw [Fin.out, if_pos (by omega)]) (by rw [Fin.out]; simp; omega), rfl⟩
        · have d2 : decide ((b : Int) ≤ 175) = false := by simp; omega
          by_cases h224 : 224 ≤ b
          · have d3 : decide ((224 : Int) ≤ (b : Int)) = true := by simp; omega
            by_cases h239 : b ≤ 239
            · have d4 : decide ((b : Int) ≤ 239) = true := by simp; omega
              have Fin : Hid (chS 2 b = (b : Int) - 224 + 1088) := by unfold Hid chS; rw [if_neg h1, if_neg h128, if_pos rfl, if_neg h175, if_pos ⟨h224, h239⟩]
              clear h1
              go_enter Try.func50, Try.ntmps50
              go_wp2
              go_ret2
              exact ⟨ret_ib3 (by unfold chC; rw [Fin.out, if_pos (by omega)]) (by rw [Fin.out]; simp; omega), rfl⟩
            · have d4 : decide ((b : Int) ≤ 239) = false := by simp; omega
              have Fin : Hid (chS 2 b = -1) := by unfold Hid chS; rw [if_neg h1, if_neg h128, if_pos rfl, if_neg h175, if_neg (by omega)]
              clear h1
              go_enter Try.func50, Try.ntmps50
              go_wp2
              go_ret2
              exact ⟨ret_ib3 (by unfold chC; rw [Fin.out]; rfl) (by rw [Fin.out]; rfl), rfl⟩
          · have d3 : decide ((224 : Int) ≤ (b : Int)) = false := by simp; omega
            have Fin : Hid (chS 2 b = -1) := by unfold Hid chS; rw [if_neg h1, if_neg h128, if_pos rfl, if_neg h175, if_neg (by omega)]
            clear h1
            go_enter Try.func50, Try.ntmps50
            go_wp2
            go_ret2
            exact ⟨ret_ib3 (by unfold chC; rw [Fin.out]; rfl) (by rw [Fin.out]; rfl), rfl⟩
      · have e2 : ((p : Int) == 2) = false := by rw [beq_eq_false_iff_ne]; omega
        have Fin : Hid (chS p b = -1) := by unfold Hid chS; rw [if_neg h1, if_neg h128, if_neg h2]
        clear h1 h2
        go_enter Try.func50, Try.ntmps50
        go_wp2
        go_ret2
        exact ⟨ret_ib3 (by unfold chC; rw [Fin.out]; rfl) (by rw [Fin.out]; rfl), rfl⟩
/-- The reference's byte of a character: the first one. -/
theorem rbyteOf_hit {p : Nat} {c : Int} {k : Nat} (hk : k < 256) (hn : 0 ≤ c → NoB (chS p) c k) (h0 : 0 ≤ chS p k) (h : chC p k = c) : fB (chS p) c = some k := by
  unfold chC at h
  rw [if_pos h0] at h
  exact fB_hit (by omega) hk (hn (by omega)) h
set_option maxRecDepth 100000 in
set_option maxHeartbeats 4000000 in
theorem rbyteOf_any (c : Int) (p : Nat) (hp : p ≤ 2) (w : World) : Calls Try.prog 51 #[.int .i64 c, .int .i64 (p : Int)] w fun e w' => e = .returned (.tuple #[.int .u8 (bv (fB (chS p) c)), .bool (fB (chS p) c).isSome]) ∧ w = w' := by
  go_enter Try.func51, Try.ntmps51
  go_wp2_with fail
  go_loop [6] (fun i => ∃ k : Nat, k ≤ 256 ∧ i = .int .i64 k ∧ Hid (0 ≤ c → NoB (chS p) c k)) (fun i => 256 - (intOf i).toNat)
  case atStart => exact ⟨0, by omega, rfl, fun _ => NoB.zero _ c⟩
  case round =>
    obtain ⟨k, hk, rfl, hn⟩ := hrel
    by_cases hlt : k < 256
    · have hlt' : (k : Int) < 256 := by omega
      have eu := u8_in3 (k : Int) (by omega) (by omega)
      by_cases h0 : 0 ≤ chS p k
      · by_cases hc : chC p k = c
        · have d1 : decide (0 ≤ chS p k) = true := by simpa using h0
          have d2 : (chC p k == c) = true := by simpa using hc
          have Fin := hid (rbyteOf_hit hlt hn.out h0 hc)
          clear h0 hc
          go_wp2_with fail
          refine (char_any k p hlt hp _).mono ?_
          rintro e w' ⟨rfl, rfl⟩
          go_wp2
          go_ret2
          exact ⟨ret_bb3 (by rw [Fin.out]; rfl) (by rw [Fin.out]; rfl), rfl⟩
        · have d1 : decide (0 ≤ chS p k) = true := by simpa using h0
          have d2 : (chC p k == c) = false := by simpa using hc
          have hn2 : Hid (0 ≤ c → NoB (chS p) c (k + 1)) := fun h => (hn.out h).succ (by unfold chC at hc; rwa [if_pos h0] at hc)
          clear h0 hc
          go_wp2_with fail
          refine (char_any k p hlt hp _).mono ?_
          rintro e w' ⟨rfl, rfl⟩
          go_wp2
          go_round
          case rel => exact ⟨k + 1, by omega, by go_num, hn2⟩
          case measure => simp [intOf] <;> omega
      · have d1 : decide (0 ≤ chS p k) = false := by simpa using h0
        have hn2 : Hid (0 ≤ c → NoB (chS p) c (k + 1)) := fun h => (hn.out h).succ (by omega)
        clear h0
        go_wp2_with fail
        refine (char_any k p hlt hp _).mono ?_
        rintro e w' ⟨rfl, rfl⟩
        go_wp2
        go_round
        case rel => exact ⟨k + 1, by omega, by go_num, hn2⟩
        case measure => simp [intOf] <;> omega
    · obtain rfl : k = 256 := by omega
      have Fin : Hid (fB (chS p) c = none) := by
        by_cases h0 : 0 ≤ c
        · exact fB_none (hn.out h0)
        · exact fB_neg (by omega)
      go_wp2
      go_ret2
      exact ⟨ret_bb3 (by rw [Fin.out]; rfl) (by rw [Fin.out]; rfl), rfl⟩
end Go.Proofs.Ytlhnabkfacmmnaa
