/-
  The digit of a letter's sound; the weights of a text with its errors.
-/
import Derived.Test.YtlhnabkfacmmnaaPg4
namespace Go.Proofs.Ytlhnabkfacmmnaa
open Go.RowKit
set_option linter.unusedVariables false
set_option linter.unusedSimpArgs false

def digS (x : Int) : Int :=
  if x == 66 || x == 70 || x == 80 || x == 86 then 1 else if x == 67 || x == 71 || x == 74 || x == 75 || x == 81 || x == 83 || x == 88 || x == 90 then 2
  else if x == 68 || x == 84 then 3 else if x == 76 then 4 else if x == 77 || x == 78 then 5 else if x == 82 then 6 else if x == 72 || x == 87 then -1 else 0
set_option maxRecDepth 100000 in
set_option maxHeartbeats 2000000 in
theorem digitOf_any (x : Int) (w : World) : Calls Try.prog 33 #[.int .u8 x] w fun e w' => e = .returned (.int .i64 (digS x)) ∧ w = w' := by
  go_enter Try.func33, Try.ntmps33
  go_wp2
  all_goals go_ret
  all_goals exact ⟨ret_int (by simp_all [digS]), rfl⟩
def askC (p c : Int) (l : List ByteArray) : Int := if askE p l = 0 then (if c < 0 ∨ 1 < c then 1 else 0) else askE p l
set_option maxRecDepth 100000 in
set_option maxHeartbeats 2000000 in
theorem askedColl_any (p c : Int) (A : Option Addr) (n cp : Nat) (l : List ByteArray) (w : World) (hs : RdS w A n cp l) :
    Calls Try.prog 37 #[.int .i64 p, .int .i64 c, .slice A n cp] w fun e w' => e = .returned (.int .i64 (askC p c l)) ∧ w = w' := by
  by_cases h : askE p l = 0
  · have e1 : (askE p l != 0) = false := by simp [h]
    by_cases h1 : c < 0
    · have d1 : decide (c < 0) = true := by simpa using h1
      have Fin : Hid (askC p c l = 1) := by unfold Hid askC; rw [if_pos h, if_pos (Or.inl h1)]
      clear h h1
      go_enter Try.func37, Try.ntmps37
      go_wp2_with fail
      refine (asked_any p _ _ _ _ _ hs).mono ?_
      rintro e w1 ⟨rfl, rfl⟩
      go_wp2
      go_ret
      exact ⟨ret_int Fin.out.symm, rfl⟩
    · have d1 : decide (c < 0) = false := by simpa using h1
      by_cases h2 : 1 < c
      · have d2 : decide (1 < c) = true := by simpa using h2
        have Fin : Hid (askC p c l = 1) := by unfold Hid askC; rw [if_pos h, if_pos (Or.inr h2)]
        clear h h1 h2
        go_enter Try.func37, Try.ntmps37
        go_wp2_with fail
        refine (asked_any p _ _ _ _ _ hs).mono ?_
        rintro e w1 ⟨rfl, rfl⟩
        go_wp2
        go_ret
        exact ⟨ret_int Fin.out.symm, rfl⟩
      · have d2 : decide (1 < c) = false := by simpa using h2
        have Fin : Hid (askC p c l = 0) := by unfold Hid askC; rw [if_pos h, if_neg (by omega)]
        clear h h1 h2
        go_enter Try.func37, Try.ntmps37
        go_wp2_with fail
        refine (asked_any p _ _ _ _ _ hs).mono ?_
        rintro e w1 ⟨rfl, rfl⟩
        go_wp2
        go_ret
        exact ⟨ret_int Fin.out.symm, rfl⟩
  · have e1 : (askE p l != 0) = true := by simp [h]
    have Fin : Hid (askC p c l = askE p l) := by unfold Hid askC; rw [if_neg h]
    clear h
    go_enter Try.func37, Try.ntmps37
    go_wp2_with fail
    refine (asked_any p _ _ _ _ _ hs).mono ?_
    rintro e w1 ⟨rfl, rfl⟩
    go_wp2
    go_ret
    exact ⟨ret_int Fin.out.symm, rfl⟩
theorem askC_ok {p c : Int} {l : List ByteArray} (h : askC p c l = 0) : askE p l = 0 ∧ 0 ≤ c ∧ c ≤ 1 := by
  unfold askC at h
  split at h
  · rename_i h1
    split at h
    · cases h
    · exact ⟨h1, by omega, by omega⟩
  · rename_i h1; exact absurd h h1
def okC (p c : Int) (l : List ByteArray) (t : ByteArray) : ByteArray := if askC p c l = 0 then t else ByteArray.empty
set_option maxRecDepth 100000 in
set_option maxHeartbeats 2000000 in
theorem Weights_any (s : ByteArray) (p c : Int) (w : World) : Calls Try.prog 14 #[.string s, .int .i64 p, .int .i64 c] w (GiveSN (okC p c [s] (mapS (fun x => weightS x p c) s)) (askC p c [s]) w) := by
  by_cases h : askC p c [s] = 0
  · have e1 : (askC p c [s] != 0) = false := by simp [h]
    have Fin : Hid (okC p c [s] (mapS (fun x => weightS x p c) s) = mapS (fun x => weightS x p c) s) := by unfold Hid okC; rw [if_pos h]
    have Fin2 := hid h
    have ho := ask_ok (askC_ok h).1
    clear h
    go_enter Try.func14, Try.ntmps14
    go_wp2_with fail
    refine (askedColl_any p c _ _ _ [s] _ (RdS.new1 w s _)).mono ?_
    rintro e w1 ⟨rfl, rfl⟩
    go_wp2_with fail
    refine (weights_any s p c ho.2 (by omega) _).mono ?_
    rintro e w2 ⟨rfl, hx⟩
    go_wp2
    go_ret2
    exact ⟨by rw [Fin.out, Fin2.out]; rfl, Ext.trans ((Ext.refl w).alloc_right _) hx⟩
  · have e1 : (askC p c [s] != 0) = true := by simp [h]
    have Fin : Hid (okC p c [s] (mapS (fun x => weightS x p c) s) = ByteArray.empty) := by unfold Hid okC; rw [if_neg h]
    clear h
    go_enter Try.func14, Try.ntmps14
    go_wp2_with fail
    refine (askedColl_any p c _ _ _ [s] _ (RdS.new1 w s _)).mono ?_
    rintro e w1 ⟨rfl, rfl⟩
    go_wp2
    go_ret2
    exact ⟨by rw [Fin.out]; rfl, (Ext.refl w).alloc_right _⟩
end Go.Proofs.Ytlhnabkfacmmnaa
