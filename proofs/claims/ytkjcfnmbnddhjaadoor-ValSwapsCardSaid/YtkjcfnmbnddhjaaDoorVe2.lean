/-
  Where a text stands in another one, and the law of parts.
-/
import Derived.Test.YtkjcfnmbnddhjaaDoorVe1
namespace Go.Proofs.YtkjcfnmbnddhjaaDoor
open Go.RowKit
set_option linter.unusedVariables false
set_option linter.unusedSimpArgs false
/-- Where t stands in s, from 1 on; 0: nowhere. -/
def atI (t s : ByteArray) : Int := if t.size = 0 then 0 else Lib.index s.data.toList t.data.toList + 1
def ML (w : World) : Prop := ∃ m, w.cell? ⟨0, 0, none⟩ = some (.int .i64 m)
theorem ML.ext {w w' : World} (h : ML w) (hx : Ext w w') : ML w' := by obtain ⟨m, hm⟩ := h; exact ⟨m, hx.cell hm⟩
theorem emp_facts {t : ByteArray} (h : t.size = 0) : t.toList = [] := List.eq_nil_of_length_eq_zero (by rw [len_toList]; exact h)
theorem full_facts {t : ByteArray} (h : t.size ≠ 0) : t.toList.isEmpty = false ∧ (!t.toList.isEmpty) = true := by
  have : t.toList ≠ [] := by intro e; have := len_toList t; rw [e] at this; simp at this; omega
  constructor <;> simpa using this
set_option maxRecDepth 100000 in
set_option maxHeartbeats 2000000 in
theorem At_any (t s : ByteArray) (hs : s.size ≤ 100000) (w : World) (hm : ML w) : Calls Tryd.prog 33 #[.string t, .string s] w fun e w' => e = .returned (.int .i64 (atI t s)) ∧ w = w' := by
  by_cases h : t.size = 0
  · have l1 := emp_facts h
    rw [show atI t s = 0 by unfold atI; rw [if_pos h]]
    clear h
    go_enter Tryd.func33, Tryd.ntmps33
    go_wp2
    go_ret
    exact ⟨rfl, rfl⟩
  · obtain ⟨l1, l2⟩ := full_facts h
    obtain ⟨m, hm⟩ := hm
    have hc := hid (Tryd.strings_Index s t m w (by omega) hm)
    have hi := hid (Lib.index_ge s.data.toList t.data.toList)
    have hj := hid (Lib.index_le s.data.toList t.data.toList)
    rw [show atI t s = Lib.index s.data.toList t.data.toList + 1 by unfold atI; rw [if_neg h]]
    rw [← Lib.size_eq s] at hj
    clear h hm
    generalize Lib.index s.data.toList t.data.toList = x at *
    have b1 := hi.out
    have b2 := hj.out
    go_enter Tryd.func33, Tryd.ntmps33
    go_wp2_with fail
    refine hc.out.mono ?_
    rintro e w' ⟨rfl, rfl⟩
    go_wp2
    go_ret
    exact ⟨rfl, rfl⟩
set_option maxRecDepth 100000 in
set_option maxHeartbeats 2000000 in
theorem rAt_any (t s : ByteArray) (hs : s.size ≤ 100000) (ht : t.size ≤ 100000) (w : World) : Calls Tryd.prog 34 #[.string t, .string s] w fun e w' => e = .returned (.int .i64 (atI t s)) ∧ w = w' := by
  by_cases h : t.size = 0
  · have l1 := emp_facts h
    rw [show atI t s = 0 by unfold atI; rw [if_pos h]]
    clear h
    go_enter Tryd.func34, Tryd.ntmps34
    go_wp2
    go_ret
    exact ⟨rfl, rfl⟩
  · obtain ⟨l1, l2⟩ := full_facts h
    have ha := hid (show atI t s = Lib.index s.data.toList t.data.toList + 1 by unfold atI; rw [if_neg h])
    have h1 : 1 ≤ t.size := by omega
    clear h
    go_enter Tryd.func34, Tryd.ntmps34
    go_wp2
    go_loopw [5] (fun i wr => (∃ k : Nat, k ≤ s.size + 1 ∧ i = .int .i64 k ∧ Hid (Lib.NoOcc s.data.toList t.data.toList k)) ∧ wr = w) (fun i _ => s.size + 1 - (intOf i).toNat)
    case atStart => exact ⟨⟨0, by omega, rfl, Lib.NoOcc.zero _ _⟩, rfl⟩
    case round =>
      obtain ⟨⟨k, hk, rfl, hinv⟩, rfl⟩ := hrel
      by_cases hlt : k + t.size ≤ s.size
      · have ho := hid (Lib.occ_of_piece s t k hlt)
        have d0 : decide ((k : Int) + (t.size : Int) ≤ (s.size : Int)) = true := by simp; omega
        have sl : ∀ wx, (Instr.slice 9 (.string s) (some (.int .i64 (k : Int))) (some (.int .i64 ((k : Int) + (t.size : Int)))) none).run Tryd.prog wx = .ok (.string (s.extract k (k + t.size))) wx := by
          intro wx
          rw [run_slice_string (P := Tryd.prog) wx 9 s .i64 .i64 (k : Int) ((k : Int) + (t.size : Int)) Tryd.underlying9 (by omega) (by omega) (by omega)]
          rw [show ((k : Int)).toNat = k by omega, show ((k : Int) + (t.size : Int)).toNat = k + t.size by omega]
        rcases Bool.eq_false_or_eq_true ((s.extract k (k + t.size)).toList == t.toList) with q | q
        · have hr : Hid (atI t s = (k : Int) + 1) := by
            unfold Hid
            rw [ha.out, Lib.index_hit hinv.out (by rw [← Lib.size_eq]; omega) (by rw [ho.out]; exact q)]
          go_wp2
          go_ret
          exact ⟨by rw [hr.out]; rfl, rfl⟩
        · have hn : Hid (Lib.NoOcc s.data.toList t.data.toList (k + 1)) := Lib.NoOcc.succ hinv.out (by rw [ho.out]; exact q)
          go_wp2
          go_roundw
          case rel => exact ⟨⟨k + 1, by omega, by go_num, hn⟩, by trivial⟩
          case measure => simp [intOf]; omega
      · have d0 : decide ((k : Int) + (t.size : Int) ≤ (s.size : Int)) = false := by simp; omega
        have hr : Hid (atI t s = 0) := by
          unfold Hid
          rw [ha.out, Lib.index_past (by intro e; have := Lib.size_eq t; rw [e] at this; exact absurd this (show ¬ t.size = 0 by omega)) hinv.out (by rw [← Lib.size_eq, ← Lib.size_eq]; omega)]
          rfl
        go_wp2
        go_ret
        exact ⟨by rw [hr.out]; rfl, rfl⟩
theorem neB {a b : ByteArray} : (a.toList == a.toList) = true := by simp
theorem wf_in {n : Int} (h : (Lit.int .i64 n).wf = true) : WfI n := by
  simp [Lit.wf, IntKind.min, IntKind.max, IntKind.signed, IntKind.bits] at h
  exact h
set_option maxRecDepth 100000 in
set_option maxHeartbeats 2000000 in
theorem parts_law (s t : ByteArray) (fr n : Int) (w : World) (hs : s.size ≤ 140737488351232) (ht : t.size ≤ 140737488351232) (h1 : (Lit.int .i64 fr).wf = true) (h2 : (Lit.int .i64 n).wf = true) (hm : ML w) : Calls Tryd.prog 9 #[.agg #[.string s, .string t], .int .i64 fr, .int .i64 n] w (Give (.bool true) w) := by
  have h1 := wf_in h1
  have h2 := wf_in h2
  have hm := hid hm
  have c1 := hid (fun w => Part_any s fr n h1 h2 w)
  have c2 := hid (fun w => rPart_any s fr n h1 h2 w)
  have c3 := hid (fun w => Stuff_any s fr n t h1 h2 w)
  have c4 := hid (fun w => rStuff_any s fr n t h1 h2 w)
  clear h1 h2
  generalize partS s fr n = P at *
  generalize partE s = E at *
  generalize stuffS s fr n t = U at *
  generalize stuffE s fr n t = V at *
  by_cases hl : 20000 < s.size + t.size
  · have d1 : decide ((20000 : Int) < (s.size : Int) + (t.size : Int)) = true := by simp; omega
    go_enter Tryd.func9, Tryd.ntmps9
    go_wp2
    go_quiet (fail)
    go_wp2_with fail
    refine (known_any _).mono ?_
    rintro e w1 ⟨rfl, hx⟩
    go_wp2
    go_ret
    exact ⟨rfl, (((Ext.refl w).alloc_right _).drewN_right _).trans hx⟩
  · have c5 := hid (fun w hm => At_any t s (by omega) w hm)
    have c6 := hid (fun w => rAt_any t s (by omega) (by omega) w)
    have d1 : decide ((20000 : Int) < (s.size : Int) + (t.size : Int)) = false := by simp; omega
    generalize atI t s = X at *
    go_enter Tryd.func9, Tryd.ntmps9
    go_wp2
    go_quiet (fail)
    go_wp2_with fail
    refine (c1.out _).mono ?_
    rintro e w1 ⟨rfl, hx1⟩
    have hE := hid ((((Ext.refl w).alloc_right _).drewN_right _).trans hx1)
    clear hx1
    go_wp2_with fail
    refine (c2.out _).mono ?_
    rintro e w2 ⟨rfl, hx2⟩
    replace hE := hid (hE.out.trans hx2)
    clear hx2
    go_wp2_with fail
    refine (c3.out _).mono ?_
    rintro e w3 ⟨rfl, hx3⟩
    replace hE := hid (hE.out.trans hx3)
    clear hx3
    go_wp2_with fail
    refine (c4.out _).mono ?_
    rintro e w4 ⟨rfl, hx4⟩
    replace hE := hid (hE.out.trans hx4)
    clear hx4
    go_wp2_with fail
    refine (c5.out _ (hm.out.ext hE.out)).mono ?_
    rintro e w' ⟨rfl, rfl⟩
    go_wp2_with fail
    refine (c6.out _).mono ?_
    rintro e w' ⟨rfl, rfl⟩
    go_wp2_with fail
    refine (known_any _).mono ?_
    rintro e w5 ⟨rfl, hx5⟩
    go_wp2
    go_ret
    exact ⟨rfl, hE.out.trans hx5⟩
end Go.Proofs.YtkjcfnmbnddhjaaDoor
