/-
  The operators: which texts are one.
-/
import Derived.Test.YtlfanhlkoepodaaDoorK36
namespace Go.Proofs.YtlfanhlkoepodaaDoor
open Go.RowKit
set_option linter.unusedVariables false
set_option linter.unusedSimpArgs false
def opsL : List ByteArray := [opB 0, opB 1, opB 2, opB 3, opB 4, opB 5]
def inS (l : List ByteArray) (s : ByteArray) : Bool := l.any (fun x => x.toList == s.toList)
def isOp (s : ByteArray) : Bool := inS opsL s
theorem isOp_yes {s : ByteArray} (h : isOp s = true) : ∃ o, o < 6 ∧ s = opB o := by
  unfold isOp inS opsL at h
  simp only [List.any_cons, List.any_nil, Bool.or_false, Bool.or_eq_true, beq_iff_eq] at h
  rcases h with h | h | h | h | h | h
  · exact ⟨0, by omega, (str_ext h).symm⟩
  · exact ⟨1, by omega, (str_ext h).symm⟩
  · exact ⟨2, by omega, (str_ext h).symm⟩
  · exact ⟨3, by omega, (str_ext h).symm⟩
  · exact ⟨4, by omega, (str_ext h).symm⟩
  · exact ⟨5, by omega, (str_ext h).symm⟩
theorem isOp_op {o : Nat} (h : o < 6) : isOp (opB o) = true := by
  have : o = 0 ∨ o = 1 ∨ o = 2 ∨ o = 3 ∨ o = 4 ∨ o = 5 := by omega
  unfold isOp inS opsL
  rcases this with rfl | rfl | rfl | rfl | rfl | rfl <;> simp
def opsLL : List (List UInt8) := [[61], [61, 61], [60], [60, 61], [62], [62, 61]]
theorem opsLL_eq : opsLL = opsL.map ByteArray.toList := by
  simp [opsLL, opsL, opB, ByteArray.toList_eq]
theorem isOp_list (s : ByteArray) : isOp s = opsLL.contains s.toList := by
  rw [opsLL_eq]
  unfold isOp inS
  rw [Bool.eq_iff_iff]
  simp only [List.any_eq_true, beq_iff_eq, List.contains_iff_mem, List.mem_map]
def tabL : List UInt8 := [32, 61, 32, 61, 61, 32, 60, 32, 60, 61, 32, 62, 32, 62, 61, 32]
theorem con_at {s t : List UInt8} (h : Lib.contains s t = true) : ∃ i, i ≤ s.length ∧ t.isPrefixOf (s.drop i) = true := by
  by_cases hx : ∃ i, i ≤ s.length ∧ t.isPrefixOf (s.drop i) = true
  · exact hx
  · exfalso
    have := Lib.index_none (s := s) (sub := t) (fun j hj => by
      cases hb : Lib.occAt s t j with
      | false => rfl
      | true => exact absurd ⟨j, hj, hb⟩ hx)
    unfold Lib.contains at h
    rw [this] at h
    exact absurd h (by decide)
set_option maxRecDepth 100000 in
theorem tab_all : ∀ i : Fin 17, ∀ m : Fin 17, (32 :: ((tabL.drop (i.val + 1)).take m.val) ++ [32] : List UInt8).isPrefixOf (tabL.drop i.val) = true → (((tabL.drop (i.val + 1)).take m.val).isEmpty || Lib.contains ((tabL.drop (i.val + 1)).take m.val) [32] || opsLL.contains ((tabL.drop (i.val + 1)).take m.val)) = true := by decide +kernel
theorem op_miss {l : List UInt8} (h : Lib.contains tabL (32 :: l ++ [32]) = true) : (l.isEmpty || Lib.contains l [32] || opsLL.contains l) = true := by
  obtain ⟨i, hi, hp⟩ := con_at h
  have hpp := List.isPrefixOf_iff_prefix.1 hp
  obtain ⟨r, hr⟩ := hpp
  have hn := congrArg List.length hr
  simp only [List.length_append, List.length_cons, List.length_drop, List.length_nil] at hn
  have hlen : tabL.length = 16 := rfl
  have hl : (tabL.drop (i + 1)).take l.length = l := by
    rw [← List.drop_drop, ← hr]
    simp
  have := tab_all ⟨i, by omega⟩ ⟨l.length, by omega⟩
  simp only [hl] at this
  exact this hp
theorem opy : ∀ l ∈ opsLL, Lib.contains tabL (32 :: l ++ [32]) = true ∧ Lib.contains l [32] = false ∧ l.isEmpty = false := by decide +kernel
def opT (op : ByteArray) : ByteArray := ({ data := #[32] } ++ op) ++ { data := #[32] }
def opA (op : ByteArray) : Bool := Lib.contains tabL (32 :: op.toList ++ [32])
def opS (op : ByteArray) : Bool := Lib.contains op.toList [32]
theorem con_tab (op : ByteArray) (w : World) (hm : ML w) : Calls Tryd.prog 74 #[.string { data := #[32, 61, 32, 61, 61, 32, 60, 32, 60, 61, 32, 62, 32, 62, 61, 32] }, .string (opT op)] w fun e w' => e = .returned (.bool (opA op)) ∧ w' = w := by
  obtain ⟨m, hm⟩ := hm
  have h := Tryd.strings_Contains { data := #[32, 61, 32, 61, 61, 32, 60, 32, 60, 61, 32, 62, 32, 62, 61, 32] } (opT op) m w (by decide) hm
  have e : (opT op).data.toList = 32 :: op.toList ++ [32] := by
    unfold opT
    rw [← ByteArray.toList_eq, add_list, add_list]
    simp [ByteArray.toList_eq]
  rw [e] at h
  exact h
theorem con_sp (op : ByteArray) (h : op.size ≤ 40000) (w : World) (hm : ML w) : Calls Tryd.prog 74 #[.string op, .string { data := #[32] }] w fun e w' => e = .returned (.bool (opS op)) ∧ w' = w := by
  obtain ⟨m, hm⟩ := hm
  have h := Tryd.strings_Contains op { data := #[32] } m w (by omega) hm
  rw [← ByteArray.toList_eq op] at h
  exact h
theorem op_fy {op : ByteArray} (h : isOp op = true) : opA op = true ∧ opS op = false ∧ op.toList.isEmpty = false := by
  rw [isOp_list] at h
  exact opy _ (List.contains_iff_mem.1 h)
theorem op_fn {op : ByteArray} (h : isOp op = false) : opA op = false ∨ (opA op = true ∧ op.toList.isEmpty = true) ∨ (opA op = true ∧ op.toList.isEmpty = false ∧ opS op = true) := by
  rw [isOp_list] at h
  cases ha : opA op with
  | false => exact Or.inl rfl
  | true =>
    have := op_miss ha
    rw [h] at this
    cases he : op.toList.isEmpty with
    | true => exact Or.inr (Or.inl ⟨rfl, rfl⟩)
    | false =>
      rw [he] at this
      exact Or.inr (Or.inr ⟨rfl, rfl, by simpa [opS] using this⟩)
set_option maxRecDepth 100000 in
set_option maxHeartbeats 4000000 in
theorem rIn_any (A : Option Addr) (n c : Nat) (l : List ByteArray) (s : ByteArray) (w : World) (hl : Pg.RdS w A n c l) : Calls Tryd.prog 54 #[.slice A n c, .string s] w (Give (.bool (inS l s)) w) := by
  have hm := Rd.max hl
  replace hl := hid hl
  have hF : Hid (∀ k, k < n → ((Pg.sth l k).toList == s.toList) = true → inS l s = true) := fun k hk h => by
    have hk2 : k < l.length := by rw [hl.out.len]; exact hk
    unfold inS
    rw [List.any_eq_true]
    exact ⟨l[k], List.getElem_mem _, by rw [← h]; simp [Pg.sth, List.getD, hk2]⟩
  have hN : Hid ((∀ k, k < n → ((Pg.sth l k).toList == s.toList) = false) → inS l s = false) := fun h => by
    cases hb : inS l s with
    | false => rfl
    | true =>
      unfold inS at hb
      rw [List.any_eq_true] at hb
      obtain ⟨x, hx, he⟩ := hb
      obtain ⟨k, hk2, rfl⟩ := List.getElem_of_mem hx
      have := h k (by rw [← hl.out.len]; exact hk2)
      rw [show Pg.sth l k = l[k] by simp [Pg.sth, List.getD, hk2], he] at this
      cases this
  generalize inS l s = R at *
  go_enter Tryd.func54, Tryd.ntmps54
  go_wp2_with fail
  go_loopw [5] (fun i wr => ∃ k : Nat, k ≤ n ∧ i = .int .i64 k ∧ Hid (Ext w wr) ∧ Hid (∀ j, j < k → ((Pg.sth l j).toList == s.toList) = false)) (fun i _ => n - (intOf i).toNat)
  case atStart => exact ⟨0, by omega, rfl, Ext.refl _, fun j hj => absurd hj (by omega)⟩
  case round =>
    obtain ⟨k, hk, rfl, hx, hno⟩ := hrel
    by_cases hlt : k < n
    · obtain ⟨ad, rfl, x0⟩ := Pg.RdS.at_ (Pg.RdS.ext hl.out hx.out) hlt
      have hF2 := hid (hF.out k hlt)
      have hno2 : Hid (((Pg.sth l k).toList == s.toList) = false → ∀ j, j < k + 1 → ((Pg.sth l j).toList == s.toList) = false) := fun h j hj => by
        rcases Nat.lt_or_ge j k with h3 | h3
        · exact hno.out j h3
        · rw [show j = k by omega]; exact h
      clear hno hF hN hl
      generalize Pg.sth l k = z0 at *
      rcases Bool.eq_false_or_eq_true (z0.toList == s.toList) with q | q
      · obtain rfl : R = true := hF2.out q
        clear hF2 hno2
        go_wp2
        go_ret
        exact ⟨rfl, hx.out⟩
      · have hno3 := hid (hno2.out q)
        clear hF2 hno2
        go_wp2
        go_roundw
        case rel => exact ⟨k + 1, by omega, by go_num, hx, hno3⟩
        case measure => simp [intOf]; omega
    · obtain rfl : k = n := by omega
      obtain rfl : R = false := hN.out hno.out
      clear hno hF hN hl
      go_wp2
      go_ret
      exact ⟨rfl, hx.out⟩
set_option maxRecDepth 100000 in
set_option maxHeartbeats 4000000 in
theorem opers_any (w : World) : Calls Tryd.prog 48 #[] w fun e w' => ∃ A, e = .returned (.slice A 6 6) ∧ Pg.RdS w' A 6 6 opsL ∧ Ext w w' := by
  go_enter Tryd.func48, Tryd.ntmps48
  go_wp2
  go_ret
  exact ⟨_, rfl, Pg.Rd.new_ w [.string { data := #[61] }, .string { data := #[61, 61] }, .string { data := #[60] }, .string { data := #[60, 61] }, .string { data := #[62] }, .string { data := #[62, 61] }] _ 6 rfl (by decide), (Ext.refl w).alloc_right _⟩
end Go.Proofs.YtlfanhlkoepodaaDoor
