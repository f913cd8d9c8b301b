/-
  What the methods of no memo give.
-/
import Derived.Test.YtcgjhloiokpicaaMc
namespace Go.Proofs.Ytcgjhloiokpicaa
open Go.RowKit Go.MuLone
set_option linter.unusedVariables false
set_option linter.unusedSimpArgs false
set_option maxRecDepth 100000 in
set_option maxHeartbeats 4000000 in
theorem Replace_nil (b : Int) (s : ByteArray) (w : World) : Calls Try.prog 24 #[.pointer none, .int .i64 b, .string s] w (Give (.tuple #[.int .i64 0, .int .i64 9]) w) := by
  go_enter_defers Try.func24, Try.ntmps24
  go_wp2
  exact ⟨_, results_tmp2 rfl _ _ _, rfl, Ext.refl _⟩
set_option maxRecDepth 100000 in
set_option maxHeartbeats 4000000 in
theorem Free_nil (b : Int) (w : World) : Calls Try.prog 25 #[.pointer none, .int .i64 b] w (Give (.int .i64 9) w) := by
  go_enter_defers Try.func25, Try.ntmps25
  go_wp2
  exact ⟨_, results_tmp rfl _ _ _, rfl, Ext.refl _⟩
set_option maxRecDepth 100000 in
set_option maxHeartbeats 4000000 in
theorem Size_nil  (w : World) : Calls Try.prog 31 #[.pointer none] w (Give (.tuple #[.int .i64 0, .int .i64 0]) w) := by
  go_enter_defers Try.func31, Try.ntmps31
  go_wp2
  exact ⟨_, results_tmp2 rfl _ _ _, rfl, Ext.refl _⟩
set_option maxRecDepth 100000 in
set_option maxHeartbeats 4000000 in
theorem Entries_nil  (w : World) : Calls Try.prog 16 #[.pointer none] w (Give (.slice none 0 0) w) := by
  go_enter_defers Try.func16, Try.ntmps16
  go_wp2
  exact ⟨_, results_tmp rfl _ _ _, rfl, Ext.refl _⟩
set_option maxRecDepth 100000 in
set_option maxHeartbeats 4000000 in
theorem Bytes_nil  (w : World) : Calls Try.prog 14 #[.pointer none] w (Give (.slice none 0 0) w) := by
  go_enter_defers Try.func14, Try.ntmps14
  go_wp2
  exact ⟨_, results_tmp rfl _ _ _, rfl, Ext.refl _⟩
set_option maxRecDepth 100000 in
set_option maxHeartbeats 4000000 in
theorem Copy_nil  (w : World) : Calls Try.prog 28 #[.pointer none] w (Give (.pointer none) w) := by
  go_enter_defers Try.func28, Try.ntmps28
  go_wp2
  exact ⟨_, results_tmp rfl _ _ _, rfl, Ext.refl _⟩
set_option maxRecDepth 100000 in
set_option maxHeartbeats 4000000 in
theorem Pack_nil (u : Value) (w : World) : Calls Try.prog 30 #[.pointer none, u] w (Give (.tuple #[.slice none 0 0, .int .i64 9]) w) := by
  go_enter_defers Try.func30, Try.ntmps30
  go_wp2
  exact ⟨_, results_tmp2 rfl _ _ _, rfl, (Ext.refl _).alloc_right _⟩
set_option maxRecDepth 100000 in
set_option maxHeartbeats 4000000 in
theorem Same_nil0  (w : World) : Calls Try.prog 27 #[.pointer none, .pointer none] w fun e w' => e = .returned (.bool true) ∧ w = w' := by
  go_enter Try.func27, Try.ntmps27
  go_wp2
  go_ret
  exact ⟨rfl, rfl⟩
set_option maxRecDepth 100000 in
set_option maxHeartbeats 4000000 in
theorem Same_nil1 (g : Nat) (w : World) : Calls Try.prog 27 #[.pointer none, .pointer (some ⟨g, 0, none⟩)] w fun e w' => e = .returned (.bool false) ∧ w = w' := by
  have e1 : ∀ w, (binOp BinOp.eql 28 (Value.pointer none) (Value.pointer (some { block := g, off := 0 }))).run Try.prog w = .ok (.bool false) w := fun w => by kernel_rfl
  go_enter Try.func27, Try.ntmps27
  go_wp2
  go_ret
  exact ⟨rfl, rfl⟩
set_option maxRecDepth 100000 in
set_option maxHeartbeats 4000000 in
theorem Same_nil2 (g : Nat) (w : World) : Calls Try.prog 27 #[.pointer (some ⟨g, 0, none⟩), .pointer none] w fun e w' => e = .returned (.bool false) ∧ w = w' := by
  go_enter Try.func27, Try.ntmps27
  go_wp2
  go_ret
  exact ⟨rfl, rfl⟩
end Go.Proofs.Ytcgjhloiokpicaa
