/-
  BtreeNil: the walk of the law.
-/
import Derived.Test.YtpijfiaecicpfaaBk
namespace Go.Proofs.Ytpijfiaecicpfaa
open Go.RowKit Go.Shelf
set_option linter.unusedVariables false
set_option linter.unusedSimpArgs false
set_option maxRecDepth 100000 in
set_option maxHeartbeats 4000000 in
theorem nil_law (s : ByteArray) (n : Int) (w : World) (_ : s.size ≤ maxLen) (_ : (Lit.int IntKind.i64 n).wf = true) : Calls Try.prog 8 #[.string s, .int .i64 n] w (Give (.bool true) w) := by
  have e1 : ∀ w, (binOp BinOp.eql 26 (Value.pointer none) (Value.pointer none)).run Try.prog w = .ok (.bool true) w := fun w => by kernel_rfl
  have e2 : ∀ w, (Instr.field 37 (Value.agg #[Value.slice none 0 0]) 0).run Try.prog w = .ok (.slice none 0 0) w := fun w => by kernel_rfl
  have e3 : ((⟨#[]⟩ : ByteArray) ++ ⟨#[]⟩ ++ ⟨#[]⟩ ++ ⟨#[]⟩).toList = [] := by kernel_rfl
  by_cases hz : 1048576 < s.size
  · have dz : (1048576 : Int) < (s.size : Int) := by omega
    clear hz
    go_enter Try.func8, Try.ntmps8
    go_wp2_with fail
    refine (known_any _).mono ?_
    rintro e w1 ⟨rfl, hx1⟩
    go_wp2
    go_ret
    exact ⟨rfl, hx1⟩
  · have dz : ¬ (1048576 : Int) < (s.size : Int) := by omega
    clear hz
    go_enter Try.func8, Try.ntmps8
    go_wp2_with fail
    refine (At_nil n _).mono ?_
    rintro e w1 ⟨rfl, hx⟩
    have hE := hid hx
    clear hx
    go_wp2_with fail
    refine (Seek_nil s _).mono ?_
    rintro e w2 ⟨rfl, hx⟩
    replace hE := hid (hE.out.trans hx)
    clear hx
    go_wp2_with fail
    refine (Next_nil s n _).mono ?_
    rintro e w3 ⟨rfl, hx⟩
    replace hE := hid (hE.out.trans hx)
    clear hx
    go_wp2_with fail
    refine (Prev_nil s n _).mono ?_
    rintro e w4 ⟨rfl, hx⟩
    replace hE := hid (hE.out.trans hx)
    clear hx
    go_wp2_with fail
    refine (Range_nil _ s _ _).mono ?_
    rintro e w5 ⟨rfl, hx⟩
    replace hE := hid (hE.out.trans hx)
    clear hx
    go_wp2_with fail
    refine (Put_nil s n _).mono ?_
    rintro e w6 ⟨rfl, hx⟩
    replace hE := hid (hE.out.trans hx)
    clear hx
    go_wp2_with fail
    refine (Take_nil s n _).mono ?_
    rintro e w7 ⟨rfl, hx⟩
    replace hE := hid (hE.out.trans hx)
    clear hx
    go_wp2_with fail
    refine (Len_nil _).mono ?_
    rintro e w8 ⟨rfl, hx⟩
    replace hE := hid (hE.out.trans hx)
    clear hx
    go_wp2_with fail
    refine (Rank_nil s n _).mono ?_
    rintro e w9 ⟨rfl, hx⟩
    replace hE := hid (hE.out.trans hx)
    clear hx
    go_wp2_with fail
    refine (Count_nil _ _ _).mono ?_
    rintro e w10 ⟨rfl, hx⟩
    replace hE := hid (hE.out.trans hx)
    clear hx
    go_wp2_with fail
    refine (Copy_nil _).mono ?_
    rintro e w11 ⟨rfl, hx⟩
    replace hE := hid (hE.out.trans hx)
    clear hx
    go_wp2_with fail
    refine (Index_nil _).mono ?_
    rintro e w12 ⟨rfl, hx⟩
    replace hE := hid (hE.out.trans hx)
    clear hx
    go_wp2_with fail
    refine (Same_nil _).mono ?_
    rintro e w13 ⟨rfl, hx⟩
    replace hE := hid (hE.out.trans hx)
    clear hx
    go_wp2_with fail
    refine (New_TA w w13 hE.out).mono ?_
    rintro e w14 ⟨t, rfl, -, hx⟩
    replace hE := hid (hE.out.trans hx)
    clear hx
    go_wp2_with fail
    refine (Same_one t _).mono ?_
    rintro e w15 ⟨rfl, hx⟩
    replace hE := hid (hE.out.trans hx)
    clear hx
    go_wp2_with fail
    refine (known_any _).mono ?_
    rintro e w16 ⟨rfl, hx⟩
    replace hE := hid (hE.out.trans hx)
    clear hx
    go_wp2
    go_ret
    exact ⟨rfl, hE.out⟩
end Go.Proofs.Ytpijfiaecicpfaa
