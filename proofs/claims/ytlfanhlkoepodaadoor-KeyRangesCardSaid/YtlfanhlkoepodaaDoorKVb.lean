/-
  Contracts that were proved for another law's share, for this one.
-/
import Derived.Test.YtlfanhlkoepodaaDoorKVa
import Derived.Lib.Bytealg
import Derived.Shelf.Vars
import Derived.Laws.Concat
namespace Go.Proofs.YtlfanhlkoepodaaDoor
open Go.RowKit
set_option linter.unusedVariables false
set_option linter.unusedSimpArgs false
set_option maxRecDepth 100000 in
set_option maxHeartbeats 2000000 in
theorem Bare_any (s : ByteArray) (hs : s.size ≤ maxLen) (w : World) : Calls Tryd.prog 96 #[.string s] w fun e w' => e = .returned (.string (trimR s 32)) ∧ w = w' := by
  unfold maxLen at hs
  go_enter Tryd.func96, Tryd.ntmps96
  go_wp2_with fail
  go_loopw [3] (fun v wr => (∃ k : Nat, k ≤ s.size ∧ v = .int .i64 k ∧ Hid (trimR (s.extract 0 k) 32 = trimR s 32)) ∧ wr = w) (fun v _ => (intOf v).toNat)
  case atStart => exact ⟨⟨s.size, by omega, rfl, by unfold Hid; rw [ext_all]⟩, rfl⟩
  case round =>
    obtain ⟨⟨k, hk, rfl, hinv⟩, rfl⟩ := hrel
    cases k with
    | zero =>
      have hz : Hid (ByteArray.empty = trimR s 32) := by unfold Hid; rw [← hinv.out, trim_nil]; simp
      go_wp2
      go_ret
      exact ⟨by rw [← hz.out]; rfl, rfl⟩
    | succ j =>
      have hb := byte_at s (k := j) (by omega)
      have ht := hid (trim_take s 32 (k := j) (by omega))
      have ej : ((j + 1 : Nat) : Int) - 1 = (j : Int) := by omega
      have ew : IntKind.i64.wrap (((j + 1 : Nat) : Int) - 1) = (j : Int) := by rw [ej]; exact IntWalk.i64_in _ (by omega)
      have d0 : decide ((0 : Int) < ((j + 1 : Nat) : Int)) = true := by simp
      rcases Bool.eq_false_or_eq_true (((s[j]'(by omega)).toNat : Int) == 32) with q | q
      · have hn : Hid (trimR (s.extract 0 j) 32 = trimR s 32) := by
          unfold Hid
          rw [← hinv.out, ht.out, if_pos (by rw [← hb]; simpa using q)]
        clear hb
        go_wp2
        go_roundw
        case rel => exact ⟨⟨j, by omega, rfl, hn⟩, by trivial⟩
        case measure => simp [intOf]
      · have hn : Hid (s.extract 0 (j + 1) = trimR s 32) := by
          unfold Hid
          rw [← hinv.out, ht.out, if_neg (by rw [← hb]; simpa using q)]
        clear hb
        go_wp2
        go_ret
        exact ⟨by rw [← hn.out]; rfl, rfl⟩
def preB (a b : ByteArray) : Bool := decide (b.size ≤ a.size) && ((a.extract 0 b.size).toList == b.toList)
set_option maxRecDepth 100000 in
theorem Begins_any (a b : ByteArray) (w : World) : Calls Tryd.prog 32 #[.string a, .string b] w fun e w' => e = .returned (.bool (preB a b)) ∧ w = w' := by
  by_cases h : b.size ≤ a.size
  · have d1 : decide ((b.size : Int) ≤ (a.size : Int)) = true := by simp; omega
    have Fin : Hid (preB a b = ((a.extract 0 b.size).toList == b.toList)) := by unfold Hid preB; rw [decide_eq_true h]; rfl
    go_enter Tryd.func32, Tryd.ntmps32
    go_wp2
    go_ret
    exact ⟨ret_bool Fin.out.symm, rfl⟩
  · have d1 : decide ((b.size : Int) ≤ (a.size : Int)) = false := by simp; omega
    have Fin : Hid (preB a b = false) := by unfold Hid preB; rw [decide_eq_false h]; rfl
    go_enter Tryd.func32, Tryd.ntmps32
    go_wp2
    go_ret
    exact ⟨ret_bool Fin.out.symm, rfl⟩
def eqB (a b : ByteArray) (x : Bool) : Bool := if x then (trimR a 32).toList == (trimR b 32).toList else preB a b
set_option maxRecDepth 100000 in
theorem rEqual_any (a b : ByteArray) (x : Bool) (ha : a.size ≤ maxLen) (hb : b.size ≤ maxLen) (w : World) : Calls Tryd.prog 79 #[.string a, .string b, .bool x] w fun e w' => e = .returned (.bool (eqB a b x)) ∧ w = w' := by
  cases x
  · go_enter Tryd.func79, Tryd.ntmps79
    go_wp2_with fail
    refine (Begins_any _ _ _).mono ?_
    rintro e w' ⟨rfl, rfl⟩
    go_wp2
    go_ret
    exact ⟨rfl, rfl⟩
  · have Fin : Hid (eqB a b true = ((trimR a 32).toList == (trimR b 32).toList)) := rfl
    go_enter Tryd.func79, Tryd.ntmps79
    go_wp2_with fail
    refine (Bare_any _ ha _).mono ?_
    rintro e w' ⟨rfl, rfl⟩
    go_wp2_with fail
    refine (Bare_any _ hb _).mono ?_
    rintro e w' ⟨rfl, rfl⟩
    generalize trimR a 32 = A at *
    generalize trimR b 32 = B at *
    go_wp2
    go_ret
    exact ⟨ret_bool Fin.out.symm, rfl⟩
theorem isV_0 (n : Int) (s : ByteArray) : isV 0 n s = ((n == 0) && s.toList.isEmpty) := by
  unfold isV; rw [empty_iff]; by_cases h : s.size = 0 <;> simp [h]; rfl
theorem isV_1 (n : Int) (s : ByteArray) : isV 1 n s = ((n == 0 || n == 1) && s.toList.isEmpty) := by
  unfold isV; rw [empty_iff]; by_cases h : s.size = 0 <;> simp [h]; rcases Decidable.em (n = 0) with a | a <;> rcases Decidable.em (n = 1) with b | b <;> simp [a, b]
theorem isV_2 (n : Int) (s : ByteArray) : isV 2 n s = (isNumB n && s.toList.isEmpty) := by
  unfold isV; rw [empty_iff]; by_cases h : s.size = 0 <;> simp [h]
theorem isV_3 (n : Int) (s : ByteArray) : isV 3 n s = (isDayB n && s.toList.isEmpty) := by
  unfold isV; rw [empty_iff]; by_cases h : s.size = 0 <;> simp [h]
theorem isV_4 (n : Int) (s : ByteArray) : isV 4 n s = (n == 0) := by unfold isV; rw [if_pos rfl]; rfl
theorem isV_no {k n : Int} {s : ByteArray} (h0 : k ≠ 0) (h1 : k ≠ 1) (h2 : k ≠ 2) (h3 : k ≠ 3) (h4 : k ≠ 4) : isV k n s = false := by
  unfold isV; rw [if_neg h4, if_neg h0, if_neg h1, if_neg h2, if_neg h3]; split <;> rfl
theorem rInNum_any (n : Int) (w : World) : Calls Tryd.prog 69 #[.int .i64 n] w fun e w' => e = .returned (.bool (isNumB n)) ∧ w = w' := by
  rcases Bool.eq_false_or_eq_true (decide (-1000000000000000 ≤ n)) with h1 | h1 <;> rcases Bool.eq_false_or_eq_true (decide (n ≤ 1000000000000000)) with h2 | h2
  all_goals have Fin := hid (show isNumB n = _ by unfold isNumB; rw [h1, h2])
  all_goals go_enter Tryd.func69, Tryd.ntmps69
  all_goals go_wp2
  all_goals go_ret
  all_goals exact ⟨ret_bool (by rw [Fin.out]; rfl), rfl⟩
set_option maxRecDepth 100000 in
set_option maxHeartbeats 4000000 in
theorem rValidate_any (k n : Int) (s : ByteArray) (w : World) : Calls Tryd.prog 41 #[vV k n s] w (Give (.int .i64 (valE k n s)) w) := by
  unfold vV
  by_cases hb : 2048 < s.size
  · have e1 : decide ((2048 : Int) < (s.size : Int)) = true := by simp; omega
    have Fin : Hid (valE k n s = 3) := by unfold Hid valE; rw [if_pos hb]
    clear hb
    go_enter Tryd.func41, Tryd.ntmps41
    go_wp2
    go_ret
    exact ⟨ret_int Fin.out.symm, (Ext.refl w).alloc_right _⟩
  have e1 : decide ((2048 : Int) < (s.size : Int)) = false := by simp; omega
  have hv : Hid (valE k n s = if isV k n s then 0 else 1) := by unfold Hid valE; rw [if_neg hb]
  clear hb
  have hem : (s.toList.isEmpty = true ∧ s.toList = [] ∧ (!s.toList.isEmpty) = false) ∨ (s.toList.isEmpty = false ∧ (!s.toList.isEmpty) = true ∧ (!s.toList.isEmpty) = true) := by
    rcases Bool.eq_false_or_eq_true (s.toList.isEmpty) with h | h
    · exact Or.inl ⟨h, by simpa using h, by rw [h]; rfl⟩
    · exact Or.inr ⟨h, by rw [h]; rfl, by rw [h]; rfl⟩
  by_cases k4 : k = 4
  · subst k4
    rcases Bool.eq_false_or_eq_true (n == 0) with h1 | h1
    all_goals have Fin := hid (show valE 4 n s = _ by rw [hv.out, isV_4, h1])
    all_goals clear hem
    all_goals go_enter Tryd.func41, Tryd.ntmps41
    all_goals go_wp2
    all_goals go_ret
    all_goals exact ⟨ret_int (by rw [Fin.out]; rfl), (Ext.refl w).alloc_right _⟩
  have d4 : (k != 4) = true := by simpa using k4
  have e4 : (k == 4) = false := by simpa using k4
  by_cases k0 : k = 0
  · subst k0
    rcases hem with ⟨hs, hs1, hs2⟩ | ⟨hs, hs1, hs2⟩ <;> rcases Bool.eq_false_or_eq_true (n == 0) with h1 | h1
    all_goals have Fin := hid (show valE 0 n s = _ by rw [hv.out, isV_0, h1, hs])
    all_goals go_enter Tryd.func41, Tryd.ntmps41
    all_goals go_wp2
    all_goals go_ret
    all_goals exact ⟨ret_int (by rw [Fin.out]; rfl), (Ext.refl w).alloc_right _⟩
  have d0 : (k == 0) = false := by simpa using k0
  by_cases k1 : k = 1
  · subst k1
    rcases hem with ⟨hs, hs1, hs2⟩ | ⟨hs, hs1, hs2⟩ <;> rcases Bool.eq_false_or_eq_true (n == 0) with h1 | h1 <;> rcases Bool.eq_false_or_eq_true (n == 1) with h2 | h2
    all_goals have Fin := hid (show valE 1 n s = _ by rw [hv.out, isV_1, h1, h2, hs])
    all_goals go_enter Tryd.func41, Tryd.ntmps41
    all_goals go_wp2
    all_goals go_ret
    all_goals exact ⟨ret_int (by rw [Fin.out]; rfl), (Ext.refl w).alloc_right _⟩
  have d1 : (k == 1) = false := by simpa using k1
  by_cases k2 : k = 2
  · subst k2
    rcases hem with ⟨hs, hs1, hs2⟩ | ⟨hs, hs1, hs2⟩ <;> rcases Bool.eq_false_or_eq_true (isNumB n) with h1 | h1
    all_goals have Fin := hid (show valE 2 n s = _ by rw [hv.out, isV_2, h1, hs])
    all_goals go_enter Tryd.func41, Tryd.ntmps41
    all_goals go_wp2_with fail
    all_goals refine (rInNum_any _ _).mono ?_
    all_goals rintro e w' ⟨rfl, rfl⟩
    all_goals go_wp2
    all_goals go_ret
    all_goals exact ⟨ret_int (by rw [Fin.out]; rfl), (Ext.refl w).alloc_right _⟩
  have d2 : (k == 2) = false := by simpa using k2
  by_cases k3 : k = 3
  · subst k3
    rcases hem with ⟨hs, hs1, hs2⟩ | ⟨hs, hs1, hs2⟩ <;> rcases Bool.eq_false_or_eq_true (decide (0 ≤ n)) with h1 | h1 <;> rcases Bool.eq_false_or_eq_true (decide (n ≤ 3652059)) with h2 | h2
    all_goals have Fin := hid (show valE 3 n s = _ by rw [hv.out, isV_3, isDayB, h1, h2, hs])
    all_goals go_enter Tryd.func41, Tryd.ntmps41
    all_goals go_wp2
    all_goals go_ret
    all_goals exact ⟨ret_int (by rw [Fin.out]; rfl), (Ext.refl w).alloc_right _⟩
  have d3 : (k == 3) = false := by simpa using k3
  have Fin : Hid (valE k n s = 1) := by unfold Hid; rw [hv.out, isV_no k0 k1 k2 k3 k4]; rfl
  clear k0 k1 k2 k3 k4 hem
  go_enter Tryd.func41, Tryd.ntmps41
  go_wp2
  go_ret
  exact ⟨ret_int Fin.out.symm, (Ext.refl w).alloc_right _⟩
set_option maxRecDepth 100000 in
set_option maxHeartbeats 2000000 in
theorem rBoth_any (k n : Int) (s : ByteArray) (k' n' : Int) (s' : ByteArray) (w : World) : Calls Tryd.prog 58 #[vV k n s, vV k' n' s'] w (Give (.int .i64 (bothE k n s k' n' s')) w) := by
  unfold vV
  have hx0 := hid (((Ext.refl w).alloc_right (.cells #[.int .i64 k, .int .i64 n, .string s] 23)).alloc_right (.cells #[.int .i64 k', .int .i64 n', .string s'] 23))
  by_cases h : valE k n s = 0
  · have e1 : (valE k n s != 0) = false := by simp [h]
    have Fin : Hid (bothE k n s k' n' s' = valE k' n' s') := by unfold Hid bothE; rw [if_neg (by simpa using h)]
    clear h
    go_enter Tryd.func58, Tryd.ntmps58
    go_wp2_with fail
    refine (rValidate_any k n s _).mono ?_
    rintro e w1 ⟨rfl, hx1⟩
    have hE := hid (hx0.out.trans hx1)
    have c0 : w1.cell? ⟨w.heap.size + 1, 0, none⟩ = some (.int .i64 k') := hx1.cell (by go_simp)
    have c1 : w1.cell? ⟨w.heap.size + 1, 1, none⟩ = some (.int .i64 n') := hx1.cell (by go_simp)
    have c2 : w1.cell? ⟨w.heap.size + 1, 2, none⟩ = some (.string s') := hx1.cell (by go_simp)
    clear hx1
    go_wp2_with fail
    refine (rValidate_any k' n' s' _).mono ?_
    rintro e w2 ⟨rfl, hx2⟩
    have hE2 := hid (hE.out.trans hx2)
    clear hx2 c0 c1 c2
    go_wp2
    go_ret
    exact ⟨ret_int Fin.out.symm, hE2.out⟩
  · have e1 : (valE k n s != 0) = true := by simp [h]
    have Fin : Hid (bothE k n s k' n' s' = valE k n s) := by unfold Hid bothE; rw [if_pos h]
    clear h
    go_enter Tryd.func58, Tryd.ntmps58
    go_wp2_with fail
    refine (rValidate_any k n s _).mono ?_
    rintro e w1 ⟨rfl, hx1⟩
    have hE := hid (hx0.out.trans hx1)
    clear hx1
    go_wp2
    go_ret
    exact ⟨ret_int Fin.out.symm, hE.out⟩
def cmpI (a b : Int) : Int := if a < b then -1 else if b < a then 1 else 0
theorem rCmpI_any (a b : Int) (w : World) : Calls Tryd.prog 22 #[.int .i64 a, .int .i64 b] w fun e w' => e = .returned (.int .i64 (cmpI a b)) ∧ w = w' := by
  by_cases h1 : a < b
  · have d1 : decide (a < b) = true := by simpa using h1
    have Fin : Hid (cmpI a b = -1) := by unfold Hid cmpI; rw [if_pos h1]
    clear h1
    go_enter Tryd.func22, Tryd.ntmps22
    go_wp2
    go_ret
    exact ⟨ret_int Fin.out.symm, rfl⟩
  · have d1 : decide (a < b) = false := by simpa using h1
    by_cases h2 : b < a
    · have d2 : decide (b < a) = true := by simpa using h2
      have Fin : Hid (cmpI a b = 1) := by unfold Hid cmpI; rw [if_neg h1, if_pos h2]
      clear h1 h2
      go_enter Tryd.func22, Tryd.ntmps22
      go_wp2
      go_ret
      exact ⟨ret_int Fin.out.symm, rfl⟩
    · have d2 : decide (b < a) = false := by simpa using h2
      have Fin : Hid (cmpI a b = 0) := by unfold Hid cmpI; rw [if_neg h1, if_neg h2]
      clear h1 h2
      go_enter Tryd.func22, Tryd.ntmps22
      go_wp2
      go_ret
      exact ⟨ret_int Fin.out.symm, rfl⟩
theorem quiet_add_left {P : Program} {f : FuncId} {args : Array Value} {w : World} {a n : Nat} {v : Value}
    (h : Calls P f args (w.drewN (a + n)) fun e w' => e = .returned v ∧ w.drewN (a + n) = w') :
    Calls P f args (w.drewN (a + n)) fun e w'' => e = .returned v ∧ ∃ m, w'' = w.drewN (a + m) :=
  h.mono fun _ _ ⟨he, hm⟩ => ⟨he, n, hm.symm⟩
/-- From the k-th byte on they compare as the whole. -/
def CmpF (s t : ByteArray) (k : Nat) : Prop := Lib.compareBytes (s.toList.drop k) (t.toList.drop k) = Lib.compareBytes s.toList t.toList
theorem drop_bth (l : List UInt8) {k : Nat} (hk : k < l.length) : l.drop k = l.getD k 0 :: l.drop (k + 1) := by
  rw [List.drop_eq_getElem_cons hk]
  simp [List.getD, hk]
theorem cmpf_step {s t : ByteArray} {k : Nat} (h : CmpF s t k) (h1 : k < s.toList.length) (h2 : k < t.toList.length) :
    (bth s.toList k ≠ bth t.toList k → Lib.compareBytes s.toList t.toList = cmpI (bth s.toList k) (bth t.toList k)) ∧ (bth s.toList k = bth t.toList k → CmpF s t (k + 1)) := by
  unfold CmpF at h ⊢
  rw [drop_bth _ h1, drop_bth _ h2] at h
  generalize Lib.compareBytes s.toList t.toList = R at *
  unfold Lib.compareBytes at h
  simp only [UInt8.lt_iff_toNat_lt] at h
  unfold cmpI bth
  generalize s.toList.getD k 0 = x at *
  generalize t.toList.getD k 0 = y at *
  refine ⟨fun e => ?_, fun e => ?_⟩
  · rw [← h]
    by_cases c1 : x.toNat < y.toNat
    · rw [if_pos c1, if_pos (by omega)]
    · rw [if_neg c1, if_pos (show y.toNat < x.toNat by omega), if_neg (by omega), if_pos (by omega)]
  · rw [if_neg (by omega), if_neg (by omega)] at h
    exact h
theorem cmpf_end {s t : ByteArray} {k : Nat} (h : CmpF s t k) (hk : k = s.toList.length ∨ k = t.toList.length) (h1 : k ≤ s.toList.length) (h2 : k ≤ t.toList.length) :
    Lib.compareBytes s.toList t.toList = cmpI (s.toList.length : Int) (t.toList.length : Int) := by
  have d1 : (s.toList.drop k).length = s.toList.length - k := List.length_drop
  have d2 : (t.toList.drop k).length = t.toList.length - k := List.length_drop
  unfold CmpF at h
  rw [← h]
  generalize s.toList.drop k = A at *
  generalize t.toList.drop k = B at *
  unfold cmpI
  cases A with
  | nil =>
    cases B with
    | nil => simp at d1 d2; rw [if_neg (by omega), if_neg (by omega)]; rfl
    | cons y B => simp at d1 d2; rw [if_pos (by omega)]; rfl
  | cons x A =>
    cases B with
    | nil => simp at d1 d2; rw [if_neg (by omega), if_pos (by omega)]; rfl
    | cons y B => simp at d1 d2; omega
set_option maxRecDepth 100000 in
set_option maxHeartbeats 4000000 in
theorem rCmpT_any (s t : ByteArray) (hs : s.size ≤ 100000) (ht : t.size ≤ 100000) (w : World) : Calls Tryd.prog 24 #[.string s, .string t] w fun e w' => e = .returned (.int .i64 (Lib.compareBytes s.toList t.toList)) ∧ Ext w w' := by
  have hl1 := hid (len_toList s)
  have hl2 := hid (len_toList t)
  go_enter Tryd.func24, Tryd.ntmps24
  go_wp2_with fail
  go_loopw [5] (fun i wr => ∃ k : Nat, k ≤ s.size ∧ k ≤ t.size ∧ i = .int .i64 k ∧ Hid (CmpF s t k) ∧ Hid (Dr w wr)) (fun i _ => s.size - (intOf i).toNat)
  case atStart => exact ⟨0, by omega, by omega, rfl, (rfl : CmpF s t 0), Dr.refl _⟩
  case round =>
    obtain ⟨k, hk, hk2, rfl, hcm, hx⟩ := hrel
    by_cases hlt : k < s.size
    · have b1 : decide ((k : Int) < (s.size : Int)) = true := by simp; omega
      by_cases hlt2 : k < t.size
      · have b2 : decide ((k : Int) < (t.size : Int)) = true := by simp; omega
        have hxe := byte_at s hlt
        have hye := byte_at t hlt2
        have hst := cmpf_step hcm.out (by rw [hl1.out]; exact hlt) (by rw [hl2.out]; exact hlt2)
        rw [← hxe, ← hye] at hst
        have hst := hid hst
        clear hxe hye
        rcases Bool.eq_false_or_eq_true ((s[k].toNat : Int) != (t[k].toNat : Int)) with q | q
        · have hv := hid (hst.out.1 (by simpa using q))
          have r1 : (s[k].toNat : Int) ≤ 255 := by have := s[k].toNat_lt; omega
          have r2 : (t[k].toNat : Int) ≤ 255 := by have := t[k].toNat_lt; omega
          have ew1 : IntKind.i64.wrap (s[k].toNat : Int) = (s[k].toNat : Int) := IntWalk.i64_in _ (by omega)
          have ew2 : IntKind.i64.wrap (t[k].toNat : Int) = (t[k].toNat : Int) := IntWalk.i64_in _ (by omega)
          go_wp2
          go_quiet (fail)
          go_wp2
          go_quiet ((go_at_call 22; exact quiet_add_left (rCmpI_any _ _ _)))
          go_wp2
          go_ret
          exact ⟨ret_int (by rw [hv.out]), ((Dr.step hx.out _).step _).ext⟩
        · have hv := hid (hst.out.2 (by simpa using q))
          go_wp2
          go_quiet (fail)
          go_wp2
          go_roundw
          case rel => exact ⟨k + 1, by omega, by omega, by go_num, hv, Dr.step hx.out _⟩
          case measure => simp [intOf]; omega
      · have hv := hid (cmpf_end hcm.out (Or.inr (by rw [hl2.out]; omega)) (by rw [hl1.out]; omega) (by rw [hl2.out]; omega))
        have b2 : decide ((k : Int) < (t.size : Int)) = false := by simp; omega
        have hv2 : Hid (Lib.compareBytes s.toList t.toList = cmpI (s.size : Int) (t.size : Int)) := by unfold Hid; rw [hv.out, hl1.out, hl2.out]
        go_wp2_with fail
        refine (rCmpI_any _ _ _).mono ?_
        rintro e w' ⟨rfl, rfl⟩
        go_wp2
        go_ret
        exact ⟨ret_int (by rw [hv2.out]), hx.out.ext⟩
    · have hv := hid (cmpf_end hcm.out (Or.inl (by rw [hl1.out]; omega)) (by rw [hl1.out]; omega) (by rw [hl2.out]; omega))
      have b1 : decide ((k : Int) < (s.size : Int)) = false := by simp; omega
      have hv2 : Hid (Lib.compareBytes s.toList t.toList = cmpI (s.size : Int) (t.size : Int)) := by unfold Hid; rw [hv.out, hl1.out, hl2.out]
      go_wp2_with fail
      refine (rCmpI_any _ _ _).mono ?_
      rintro e w' ⟨rfl, rfl⟩
      go_wp2
      go_ret
      exact ⟨ret_int (by rw [hv2.out]), hx.out.ext⟩
def cmpO (k n : Int) (s : ByteArray) (k' n' : Int) (s' : ByteArray) : Int :=
  if bothE k n s k' n' s' ≠ 0 then 0 else if k ≠ k' ∨ k = 0 then 0 else if k = 4 then Lib.compareBytes s.toList s'.toList else cmpI n n'
def cmpE (k n : Int) (s : ByteArray) (k' n' : Int) (s' : ByteArray) : Int :=
  if bothE k n s k' n' s' ≠ 0 then bothE k n s k' n' s' else if k ≠ k' ∨ k = 0 then 6 else 0
theorem val_size {k n : Int} {s : ByteArray} (h : valE k n s = 0) : s.size ≤ 2048 := by
  unfold valE at h
  split at h
  · cases h
  · omega
theorem both_size {k n k' n' : Int} {s s' : ByteArray} (h : bothE k n s k' n' s' = 0) : s.size ≤ 2048 ∧ s'.size ≤ 2048 := by
  unfold bothE at h
  split at h
  · rename_i h1; exact absurd h h1
  · rename_i h1; exact ⟨val_size (by simpa using h1), val_size h⟩
theorem cell_alloc' {w : World} {a : Addr} {v : Value} (h : w.cell? a = some v) (o : Obj) : (w.alloc o).cell? a = some v := cell_alloc h o
set_option maxRecDepth 100000 in
set_option maxHeartbeats 4000000 in
theorem rCompare_any (k n : Int) (s : ByteArray) (k' n' : Int) (s' : ByteArray) (w : World) : Calls Tryd.prog 21 #[vV k n s, vV k' n' s'] w (Give2 (cmpO k n s k' n' s') (cmpE k n s k' n' s') w) := by
  unfold vV
  by_cases hb : bothE k n s k' n' s' = 0
  · have e1 : (bothE k n s k' n' s' != 0) = false := by simp [hb]
    have hz := both_size hb
    by_cases hk : k = k'
    · subst hk
      have d1 : (k != k) = false := by simp
      by_cases k0 : k = 0
      · subst k0
        have Fin : Hid (cmpO 0 n s 0 n' s' = 0 ∧ cmpE 0 n s 0 n' s' = 6) := by unfold Hid cmpO cmpE; simp [hb]
        clear hb
        go_enter Tryd.func21, Tryd.ntmps21
        go_wp2_with fail
        refine (rBoth_any 0 n s 0 n' s' _).mono ?_
        rintro e w1 ⟨rfl, hx1⟩
        have c0_0_0 : w1.cell? ⟨w.heap.size, 0, none⟩ = some (.int .i64 0) := hx1.cell (by go_simp)
        have c0_0_1 : w1.cell? ⟨w.heap.size, 1, none⟩ = some (.int .i64 n) := hx1.cell (by go_simp)
        have c0_0_2 : w1.cell? ⟨w.heap.size, 2, none⟩ = some (.string s) := hx1.cell (by go_simp)
        have c0_1_0 : w1.cell? ⟨w.heap.size + 1, 0, none⟩ = some (.int .i64 0) := hx1.cell (by go_simp)
        have c0_1_1 : w1.cell? ⟨w.heap.size + 1, 1, none⟩ = some (.int .i64 n') := hx1.cell (by go_simp)
        have c0_1_2 : w1.cell? ⟨w.heap.size + 1, 2, none⟩ = some (.string s') := hx1.cell (by go_simp)
        have hE := hid (Ext.trans (((Ext.refl w).alloc_right _).alloc_right _) hx1)
        have lt_1 : w.heap.size < w1.heap.size := World.block_lt_of_cell? w1 _ c0_0_0
        have lt_2 : w.heap.size + 1 < w1.heap.size := World.block_lt_of_cell? w1 _ c0_1_0
        clear hx1
        go_wp2
        go_ret2
        exact ⟨by rw [Fin.out.1, Fin.out.2]; rfl, hE.out⟩
      · have d0 : (k == 0) = false := by simpa using k0
        by_cases k4 : k = 4
        · subst k4
          have Fin : Hid (cmpO 4 n s 4 n' s' = Lib.compareBytes s.toList s'.toList ∧ cmpE 4 n s 4 n' s' = 0) := by unfold Hid cmpO cmpE; simp [hb]
          clear hb
          go_enter Tryd.func21, Tryd.ntmps21
          go_wp2_with fail
          refine (rBoth_any 4 n s 4 n' s' _).mono ?_
          rintro e w1 ⟨rfl, hx1⟩
          have c0_0_0 : w1.cell? ⟨w.heap.size, 0, none⟩ = some (.int .i64 4) := hx1.cell (by go_simp)
          have c0_0_1 : w1.cell? ⟨w.heap.size, 1, none⟩ = some (.int .i64 n) := hx1.cell (by go_simp)
          have c0_0_2 : w1.cell? ⟨w.heap.size, 2, none⟩ = some (.string s) := hx1.cell (by go_simp)
          have c0_1_0 : w1.cell? ⟨w.heap.size + 1, 0, none⟩ = some (.int .i64 4) := hx1.cell (by go_simp)
          have c0_1_1 : w1.cell? ⟨w.heap.size + 1, 1, none⟩ = some (.int .i64 n') := hx1.cell (by go_simp)
          have c0_1_2 : w1.cell? ⟨w.heap.size + 1, 2, none⟩ = some (.string s') := hx1.cell (by go_simp)
          have hE := hid (Ext.trans (((Ext.refl w).alloc_right _).alloc_right _) hx1)
          have lt_1 : w.heap.size < w1.heap.size := World.block_lt_of_cell? w1 _ c0_0_0
          have lt_2 : w.heap.size + 1 < w1.heap.size := World.block_lt_of_cell? w1 _ c0_1_0
          clear hx1
          go_wp2_with fail
          refine (rCmpT_any _ _ (by omega) (by omega) _).mono ?_
          rintro e w2 ⟨rfl, hx2⟩
          replace c0_0_0 := hx2.cell c0_0_0
          replace c0_0_1 := hx2.cell c0_0_1
          replace c0_0_2 := hx2.cell c0_0_2
          replace c0_1_0 := hx2.cell c0_1_0
          replace c0_1_1 := hx2.cell c0_1_1
          replace c0_1_2 := hx2.cell c0_1_2
          replace hE := hid (Ext.trans hE.out hx2)
          clear lt_1
          have lt_1 : w.heap.size < w2.heap.size := World.block_lt_of_cell? w2 _ c0_0_0
          clear lt_2
          have lt_2 : w.heap.size + 1 < w2.heap.size := World.block_lt_of_cell? w2 _ c0_1_0
          clear hx2
          go_wp2
          go_ret2
          exact ⟨by rw [Fin.out.1, Fin.out.2]; rfl, hE.out⟩
        · have d4 : (k == 4) = false := by simpa using k4
          have Fin : Hid (cmpO k n s k n' s' = cmpI n n' ∧ cmpE k n s k n' s' = 0) := by unfold Hid cmpO cmpE; simp [hb, k0, k4]
          clear hb k0 k4
          go_enter Tryd.func21, Tryd.ntmps21
          go_wp2_with fail
          refine (rBoth_any k n s k n' s' _).mono ?_
          rintro e w1 ⟨rfl, hx1⟩
          have c0_0_0 : w1.cell? ⟨w.heap.size, 0, none⟩ = some (.int .i64 k) := hx1.cell (by go_simp)
          have c0_0_1 : w1.cell? ⟨w.heap.size, 1, none⟩ = some (.int .i64 n) := hx1.cell (by go_simp)
          have c0_0_2 : w1.cell? ⟨w.heap.size, 2, none⟩ = some (.string s) := hx1.cell (by go_simp)
          have c0_1_0 : w1.cell? ⟨w.heap.size + 1, 0, none⟩ = some (.int .i64 k) := hx1.cell (by go_simp)
          have c0_1_1 : w1.cell? ⟨w.heap.size + 1, 1, none⟩ = some (.int .i64 n') := hx1.cell (by go_simp)
          have c0_1_2 : w1.cell? ⟨w.heap.size + 1, 2, none⟩ = some (.string s') := hx1.cell (by go_simp)
          have hE := hid (Ext.trans (((Ext.refl w).alloc_right _).alloc_right _) hx1)
          have lt_1 : w.heap.size < w1.heap.size := World.block_lt_of_cell? w1 _ c0_0_0
          have lt_2 : w.heap.size + 1 < w1.heap.size := World.block_lt_of_cell? w1 _ c0_1_0
          clear hx1
          go_wp2_with fail
          refine (rCmpI_any _ _ _).mono ?_
          rintro e w' ⟨rfl, rfl⟩
          go_wp2
          go_ret2
          exact ⟨by rw [Fin.out.1, Fin.out.2]; rfl, hE.out⟩
    · have d1 : (k != k') = true := by simpa using hk
      have Fin : Hid (cmpO k n s k' n' s' = 0 ∧ cmpE k n s k' n' s' = 6) := by unfold Hid cmpO cmpE; simp [hb, hk]
      clear hb hk
      go_enter Tryd.func21, Tryd.ntmps21
      go_wp2_with fail
      refine (rBoth_any k n s k' n' s' _).mono ?_
      rintro e w1 ⟨rfl, hx1⟩
      have c0_0_0 : w1.cell? ⟨w.heap.size, 0, none⟩ = some (.int .i64 k) := hx1.cell (by go_simp)
      have c0_0_1 : w1.cell? ⟨w.heap.size, 1, none⟩ = some (.int .i64 n) := hx1.cell (by go_simp)
      have c0_0_2 : w1.cell? ⟨w.heap.size, 2, none⟩ = some (.string s) := hx1.cell (by go_simp)
      have c0_1_0 : w1.cell? ⟨w.heap.size + 1, 0, none⟩ = some (.int .i64 k') := hx1.cell (by go_simp)
      have c0_1_1 : w1.cell? ⟨w.heap.size + 1, 1, none⟩ = some (.int .i64 n') := hx1.cell (by go_simp)
      have c0_1_2 : w1.cell? ⟨w.heap.size + 1, 2, none⟩ = some (.string s') := hx1.cell (by go_simp)
      have hE := hid (Ext.trans (((Ext.refl w).alloc_right _).alloc_right _) hx1)
      have lt_1 : w.heap.size < w1.heap.size := World.block_lt_of_cell? w1 _ c0_0_0
      have lt_2 : w.heap.size + 1 < w1.heap.size := World.block_lt_of_cell? w1 _ c0_1_0
      clear hx1
      go_wp2
      go_ret2
      exact ⟨by rw [Fin.out.1, Fin.out.2]; rfl, hE.out⟩
  · have e1 : (bothE k n s k' n' s' != 0) = true := by simp [hb]
    have Fin : Hid (cmpO k n s k' n' s' = 0 ∧ cmpE k n s k' n' s' = bothE k n s k' n' s') := by unfold Hid cmpO cmpE; simp [hb]
    clear hb
    go_enter Tryd.func21, Tryd.ntmps21
    go_wp2_with fail
    refine (rBoth_any k n s k' n' s' _).mono ?_
    rintro e w1 ⟨rfl, hx1⟩
    have c0_0_0 : w1.cell? ⟨w.heap.size, 0, none⟩ = some (.int .i64 k) := hx1.cell (by go_simp)
    have c0_0_1 : w1.cell? ⟨w.heap.size, 1, none⟩ = some (.int .i64 n) := hx1.cell (by go_simp)
    have c0_0_2 : w1.cell? ⟨w.heap.size, 2, none⟩ = some (.string s) := hx1.cell (by go_simp)
    have c0_1_0 : w1.cell? ⟨w.heap.size + 1, 0, none⟩ = some (.int .i64 k') := hx1.cell (by go_simp)
    have c0_1_1 : w1.cell? ⟨w.heap.size + 1, 1, none⟩ = some (.int .i64 n') := hx1.cell (by go_simp)
    have c0_1_2 : w1.cell? ⟨w.heap.size + 1, 2, none⟩ = some (.string s') := hx1.cell (by go_simp)
    have hE := hid (Ext.trans (((Ext.refl w).alloc_right _).alloc_right _) hx1)
    have lt_1 : w.heap.size < w1.heap.size := World.block_lt_of_cell? w1 _ c0_0_0
    have lt_2 : w.heap.size + 1 < w1.heap.size := World.block_lt_of_cell? w1 _ c0_1_0
    clear hx1
    go_wp2
    go_ret2
    exact ⟨by rw [Fin.out.1, Fin.out.2]; rfl, hE.out⟩
theorem str_add (a b : ByteArray) (h : a.size + b.size ≤ 9223372036854775807) (wx : World) : (Op.stringOp .add a b).run Tryd.prog wx = .ok (.string (a ++ b)) wx := run_string_add_sum wx a b h
theorem drop_byte (s : ByteArray) {k : Nat} (hk : k < s.size) : s.toList.drop k = s[k] :: s.toList.drop (k + 1) := by
  have hl : k < s.toList.length := by rw [len_toList]; exact hk
  rw [List.drop_eq_getElem_cons hl]
  congr 1
  simp [ByteArray.toList_eq]
  rfl
theorem ml_cell {w : World} (h : w.ShapedOpen Tryd.prog) : ∃ m, w.cell? ⟨0, 0, none⟩ = some (.int .i64 m) :=
  cell_of_shapedOpen_int (t := 3) (zero := #[.int .i64 0]) h (of_decide_eq_true (by kernel_rfl)) (by kernel_rfl) (by kernel_rfl) (by kernel_rfl) (by kernel_rfl) Tryd.underlying3
def WfI (n : Int) : Prop := -9223372036854775808 ≤ n ∧ n ≤ 9223372036854775807
def ML (w : World) : Prop := ∃ m, w.cell? ⟨0, 0, none⟩ = some (.int .i64 m)
theorem ML.ext {w w' : World} (h : ML w) (hx : Ext w w') : ML w' := by obtain ⟨m, hm⟩ := h; exact ⟨m, hx.cell hm⟩
theorem emp_facts {t : ByteArray} (h : t.size = 0) : t.toList = [] := List.eq_nil_of_length_eq_zero (by rw [len_toList]; exact h)
theorem full_facts {t : ByteArray} (h : t.size ≠ 0) : t.toList.isEmpty = false ∧ (!t.toList.isEmpty) = true := by
  have : t.toList ≠ [] := by intro e; have := len_toList t; rw [e] at this; simp at this; omega
  constructor <;> simpa using this
theorem neB {a b : ByteArray} : (a.toList == a.toList) = true := by simp
theorem wf_in {n : Int} (h : (Lit.int .i64 n).wf = true) : WfI n := by
  simp [Lit.wf, IntKind.min, IntKind.max, IntKind.signed, IntKind.bits] at h
  exact h
def GiveSE (s : ByteArray) (x : Int) (w : World) (e : Ending) (w' : World) : Prop := e = .returned (.tuple #[.string s, .int .i64 x]) ∧ Ext w w'
theorem GiveSE.mk (s : ByteArray) (x : Int) {w w' : World} (h : Ext w w') : GiveSE s x w (.returned (.tuple #[.string s, .int .i64 x])) w' := ⟨rfl, h⟩
def swB (s a b : ByteArray) : ByteArray := strB (swL a.toList b.toList s.toList)
theorem ne_of_size {a : ByteArray} (h : a.size ≠ 0) : a.toList ≠ [] := by intro e; have := len_toList a; rw [e] at this; simp at this; omega
theorem pre_list (s a : ByteArray) {k : Nat} (hk : k ≤ s.size) : preB (s.extract k s.size) a = a.toList.isPrefixOf (s.toList.drop k) := by
  have hl : (s.extract k s.size).toList = s.toList.drop k := by
    rw [ext_str, strB_toList, List.take_of_length_le (by rw [List.length_drop, len_toList]; exact Nat.le_refl _)]
  have hz : (s.extract k s.size).size = (s.toList.drop k).length := by rw [← len_toList, hl]
  unfold preB
  rw [hz, ext_str, strB_toList, hl, List.drop_zero, Nat.sub_zero, ← len_toList a]
  rw [Bool.eq_iff_iff]
  rw [Bool.and_eq_true, decide_eq_true_eq, beq_iff_eq, List.isPrefixOf_iff_prefix]
  constructor
  · rintro ⟨h1, h2⟩
    rw [← h2]
    exact List.take_prefix _ _
  · intro h
    exact ⟨h.length_le, (List.prefix_iff_eq_take.1 h).symm⟩
theorem val_is {k n : Int} {s : ByteArray} (h : valE k n s = 0) : isV k n s = true := by
  unfold valE at h
  split at h
  · cases h
  · split at h
    · assumption
    · cases h
theorem val_kinds {k n : Int} {s : ByteArray} (h : valE k n s = 0) : k = 0 ∨ (k = 1 ∧ (n = 0 ∨ n = 1)) ∨ (k = 2 ∧ isNumB n = true) ∨ (k = 3 ∧ isDayB n = true) ∨ k = 4 := by
  have hv := val_is h
  unfold isV at hv
  by_cases k4 : k = 4
  · omega
  rw [if_neg k4] at hv
  split at hv
  · cases hv
  by_cases k0 : k = 0
  · omega
  rw [if_neg k0] at hv
  by_cases k1 : k = 1
  · rw [if_pos k1] at hv
    exact Or.inr (Or.inl ⟨k1, by simpa using hv⟩)
  rw [if_neg k1] at hv
  by_cases k2 : k = 2
  · rw [if_pos k2] at hv
    exact Or.inr (Or.inr (Or.inl ⟨k2, hv⟩))
  rw [if_neg k2] at hv
  by_cases k3 : k = 3
  · rw [if_pos k3] at hv
    exact Or.inr (Or.inr (Or.inr (Or.inl ⟨k3, hv⟩)))
  rw [if_neg k3] at hv
  cases hv
end Go.Proofs.YtlfanhlkoepodaaDoor
