/-
  MemoNil: the walk of the law.
-/
import Derived.Test.YtcgjhloiokpicaaMd
namespace Go.Proofs.Ytcgjhloiokpicaa
open Go.RowKit
set_option linter.unusedVariables false
set_option linter.unusedSimpArgs false
set_option maxRecDepth 100000 in
set_option maxHeartbeats 4000000 in
theorem nil_law (s : ByteArray) (n : Int) (w : World) (_ : s.size ≤ maxLen) (_ : (Lit.int IntKind.i64 n).wf = true) : Calls Try.prog 8 #[.string s, .int .i64 n] w (Give (.bool true) w) := by
  by_cases hz : 2097152 < s.size
  · have dz : (2097152 : Int) < (s.size : Int) := by omega
    clear hz
    go_enter Try.func8, Try.ntmps8
    go_wp2_with fail
    refine (known_any _).mono ?_
    rintro e w1 ⟨rfl, hx1⟩
    go_wp2
    go_ret
    exact ⟨rfl, hx1⟩
  · have dz : ¬ (2097152 : Int) < (s.size : Int) := by omega
    clear hz
    have hnew := hid (fun w => New_any 16 w)
    go_enter Try.func8, Try.ntmps8
    go_wp2_with fail
    refine (Put_nil s _).mono ?_
    rintro e w1 ⟨rfl, hx⟩
    have hE := hid hx
    clear hx
    go_wp2_with fail
    refine (Get_nil n _).mono ?_
    rintro e w2 ⟨rfl, hx⟩
    replace hE := hid (hE.out.trans hx)
    clear hx
    go_wp2_with fail
    refine (Replace_nil n s _).mono ?_
    rintro e w3 ⟨rfl, hx⟩
    replace hE := hid (hE.out.trans hx)
    clear hx
    go_wp2_with fail
    refine (Pack_nil _ _).mono ?_
    rintro e w4 ⟨rfl, hx⟩
    replace hE := hid (Ext.trans (hE.out.alloc_right _) hx)
    clear hx
    go_wp2_with fail
    refine (Size_nil _).mono ?_
    rintro e w5 ⟨rfl, hx⟩
    replace hE := hid (hE.out.trans hx)
    clear hx
    go_wp2_with fail
    refine (hnew.out _).mono ?_
    rintro e wn (⟨h, _⟩ | ⟨_, rfl, hm, hx⟩)
    · cases h
    replace hE := hid (hE.out.trans hx)
    have hg := hm.lt
    clear hm hx
    generalize w5.heap.size = g at *
    go_wp2_with fail
    refine (Free_nil n _).mono ?_
    rintro e w6 ⟨rfl, hx⟩
    replace hE := hid (hE.out.trans hx)
    clear hx
    go_wp2_with fail
    refine (Entries_nil _).mono ?_
    rintro e w7 ⟨rfl, hx⟩
    replace hE := hid (hE.out.trans hx)
    clear hx
    go_wp2_with fail
    refine (Bytes_nil _).mono ?_
    rintro e w8 ⟨rfl, hx⟩
    replace hE := hid (hE.out.trans hx)
    clear hx
    go_wp2_with fail
    refine (Copy_nil _).mono ?_
    rintro e w9 ⟨rfl, hx⟩
    replace hE := hid (hE.out.trans hx)
    clear hx
    go_wp2_with fail
    refine (Same_nil0 _).mono ?_
    rintro e w' ⟨rfl, rfl⟩
    go_wp2_with fail
    refine (Same_nil1 g _).mono ?_
    rintro e w' ⟨rfl, rfl⟩
    go_wp2_with fail
    refine (Same_nil2 g _).mono ?_
    rintro e w' ⟨rfl, rfl⟩
    go_wp2_with fail
    refine (known_any _).mono ?_
    rintro e w10 ⟨rfl, hx⟩
    replace hE := hid (hE.out.trans hx)
    clear hx
    go_wp2
    go_ret
    exact ⟨rfl, hE.out⟩
end Go.Proofs.Ytcgjhloiokpicaa
