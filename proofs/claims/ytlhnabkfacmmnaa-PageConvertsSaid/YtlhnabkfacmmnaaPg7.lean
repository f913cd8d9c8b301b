/-
  What the program gives of four texts (known), and whether a text is over.
-/
import Derived.Test.YtlhnabkfacmmnaaPg6
namespace Go.Proofs.Ytlhnabkfacmmnaa
open Go.RowKit
set_option linter.unusedVariables false
set_option linter.unusedSimpArgs false

theorem mapS_eq (f : Int → Int) (s : ByteArray) : mapS f s = strB (s.data.toList.map fun b => bOf (f (b.toNat : Int))) := by unfold mapS; rw [ByteArray.toList_eq]
theorem soundB_eq (s : ByteArray) : soundB s = strB (padS (sTo s.data.toList s.size).1) := by unfold soundB; rw [ByteArray.toList_eq]
theorem known1 (w : World) : Calls Try.prog 18 #[.string { data := #[228] }, .int .i64 1] w (GiveSN { data := #[196] } 0 w) := by
  have h := Upper_any { data := #[228] } 1 w
  have ha : askE 1 [{ data := #[228] }] = 0 := by decide
  rw [okA, if_pos ha, ha, mapS_eq] at h
  exact h
theorem known2 (w : World) : Calls Try.prog 18 #[.string { data := #[228] }, .int .i64 2] w (GiveSN { data := #[148] } 0 w) := by
  have h := Upper_any { data := #[228] } 2 w
  have ha : askE 2 [{ data := #[228] }] = 0 := by decide
  rw [okA, if_pos ha, ha, mapS_eq] at h
  exact h
theorem known3 (w : World) : Calls Try.prog 14 #[.string { data := #[233] }, .int .i64 1, .int .i64 1] w (GiveSN { data := #[69] } 0 w) := by
  have h := Weights_any { data := #[233] } 1 1 w
  have ha : askC 1 1 [{ data := #[233] }] = 0 := by decide
  rw [okC, if_pos ha, ha, mapS_eq] at h
  exact h
theorem known4 (w : World) : Calls Try.prog 12 #[.string { data := #[84, 121, 109, 99, 122, 97, 107] }] w (GiveSN { data := #[84, 53, 50, 50] } 0 w) := by
  have h := Sound_any { data := #[84, 121, 109, 99, 122, 97, 107] } w
  have ha : askE 0 [{ data := #[84, 121, 109, 99, 122, 97, 107] }] = 0 := by decide
  rw [okA, if_pos ha, ha, soundB_eq] at h
  exact h
set_option maxRecDepth 100000 in
set_option maxHeartbeats 2000000 in
theorem known_any (w : World) : Calls Try.prog 11 #[] w (Give (.bool true) w) := by
  go_enter Try.func11, Try.ntmps11
  go_wp2_with fail
  refine (known1 _).mono ?_
  rintro e w1 ⟨rfl, hx1⟩
  go_wp2_with fail
  refine (known2 _).mono ?_
  rintro e w2 ⟨rfl, hx2⟩
  go_wp2_with fail
  refine (known3 _).mono ?_
  rintro e w3 ⟨rfl, hx3⟩
  go_wp2_with fail
  refine (known4 _).mono ?_
  rintro e w4 ⟨rfl, hx4⟩
  have hE := hid (((hx1.trans hx2).trans hx3).trans hx4)
  clear hx1 hx2 hx3 hx4
  go_wp2
  go_ret
  exact ⟨rfl, hE.out⟩
theorem over_any (s : ByteArray) (w : World) : Calls Try.prog 10 #[.string s] w fun e w' => e = .returned (.bool (decide (16384 < s.size))) ∧ w = w' := by
  have e1 : decide ((16384 : Int) < (s.size : Int)) = decide (16384 < s.size) := by rw [decide_eq_decide]; omega
  go_enter Try.func10, Try.ntmps10
  go_wp2
  go_ret
  exact ⟨by first | rfl | exact ret_bool e1, rfl⟩
end Go.Proofs.Ytlhnabkfacmmnaa
