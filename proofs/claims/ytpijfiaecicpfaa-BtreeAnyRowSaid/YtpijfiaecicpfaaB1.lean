/-
  Comparing two entries.
-/
import Derived.Test.YtpijfiaecicpfaaBg
import Derived.Test.YtpijfiaecicpfaaBt
import Derived.Lib.Strings
import Derived.Lib.Slices
import Derived.Lib.Walk
namespace Go.Proofs.Ytpijfiaecicpfaa
open Go.RowKit Go.Shelf
set_option linter.unusedVariables false
set_option linter.unusedSimpArgs false
theorem isNaN_any (a : Int) (w : World) : Calls Try.prog 103 #[.int .i64 a] w fun e w' => e = .returned (.bool false) ∧ w = w' := by
  have h : (a != a) = false := by simp
  go_enter Try.func103, Try.ntmps103
  go_wp2
  go_ret
  exact ⟨rfl, rfl⟩
theorem cmpCompare_any (a b : Int) (w : World) : Calls Try.prog 75 #[.int .i64 a, .int .i64 b] w fun e w' => e = .returned (.int .i64 (cmpN a b)) ∧ w = w' := by
  by_cases h1 : a < b
  · have d1 : decide (a < b) = true := by simpa using h1
    have Fin : Hid (cmpN a b = -1) := by unfold Hid cmpN; rw [if_pos h1]
    clear h1
    go_enter Try.func75, Try.ntmps75
    go_wp2_with fail
    refine (isNaN_any _ _).mono ?_
    rintro e w' ⟨rfl, rfl⟩
    go_wp2_with fail
    refine (isNaN_any _ _).mono ?_
    rintro e w' ⟨rfl, rfl⟩
    go_wp2
    go_ret
    exact ⟨ret_int Fin.out.symm, rfl⟩
  · have d1 : decide (a < b) = false := by simpa using h1
    by_cases h2 : b < a
    · have d2 : decide (b < a) = true := by simpa using h2
      have Fin : Hid (cmpN a b = 1) := by unfold Hid cmpN; rw [if_neg h1, if_pos h2]
      clear h1 h2
      go_enter Try.func75, Try.ntmps75
      go_wp2_with fail
      refine (isNaN_any _ _).mono ?_
      rintro e w' ⟨rfl, rfl⟩
      go_wp2_with fail
      refine (isNaN_any _ _).mono ?_
      rintro e w' ⟨rfl, rfl⟩
      go_wp2
      go_ret
      exact ⟨ret_int Fin.out.symm, rfl⟩
    · have d2 : decide (b < a) = false := by simpa using h2
      have Fin : Hid (cmpN a b = 0) := by unfold Hid cmpN; rw [if_neg h1, if_neg h2]
      clear h1 h2
      go_enter Try.func75, Try.ntmps75
      go_wp2_with fail
      refine (isNaN_any _ _).mono ?_
      rintro e w' ⟨rfl, rfl⟩
      go_wp2_with fail
      refine (isNaN_any _ _).mono ?_
      rintro e w' ⟨rfl, rfl⟩
      go_wp2
      go_ret
      exact ⟨ret_int Fin.out.symm, rfl⟩
set_option maxHeartbeats 1000000 in
set_option maxRecDepth 100000 in
theorem cmpStr_any (a b : ByteArray) (w : World) :
    Calls Try.prog 102 #[.string a, .string b] w fun e w' => e = .returned (.int .i64 (cmpK a b)) ∧ w = w' := by
  go_enter Try.func102, Try.ntmps102
  go_wp2
  rw [run_callFunc_extern Try.func122 (by kernel_rfl) (by kernel_rfl) (by kernel_rfl) (e := Extern.BytealgCompare.compare) (by kernel_rfl), Lib.run_compareString]
  simp only [Result.andThen]
  rw [Oper.upon_value]
  go_wp2
  go_ret
  exact ⟨rfl, rfl⟩
set_option maxHeartbeats 1000000 in
theorem sCompare_any (a b : ByteArray) (w : World) :
    Calls Try.prog 74 #[.string a, .string b] w fun e w' => e = .returned (.int .i64 (cmpK a b)) ∧ w = w' := by
  go_enter Try.func74, Try.ntmps74
  go_wp2_with (go_at_call 102; refine (cmpStr_any _ _ _).mono ?_; rintro e w' ⟨rfl, rfl⟩)
  go_ret
  exact ⟨rfl, rfl⟩
set_option maxRecDepth 100000 in
set_option maxHeartbeats 4000000 in
theorem cmpOr_any (x y z : Int) (q : Nat) (w : World) (h0 : w.cell? ⟨q, 0, none⟩ = some (.int .i64 x)) (h1 : w.cell? ⟨q, 1, none⟩ = some (.int .i64 y)) (hz : Hid (z = if x = 0 then y else x)) : Calls Try.prog 73 #[.slice (some ⟨q, 0, none⟩) 2 2] w fun e w' => e = .returned (.int .i64 z) ∧ w = w' := by
  have lq := World.block_lt_of_cell? w _ h0
  dsimp only at lq
  go_enter Try.func73, Try.ntmps73
  go_wp2
  go_loopw [8] (fun i wr => ∃ k : Nat, k ≤ 2 ∧ i = .int .i64 k ∧ w = wr ∧ Hid (0 < k → x = 0) ∧ Hid (1 < k → y = 0)) (fun i _ => 2 - (intOf i).toNat)
  case atStart => exact ⟨0, by omega, rfl, rfl, fun h => by omega, fun h => by omega⟩
  case round =>
    obtain ⟨k, hk, rfl, rfl, hx, hy⟩ := hrel
    rcases (by omega : k = 0 ∨ k = 1 ∨ k = 2) with rfl | rfl | rfl
    · by_cases e0 : x = 0
      · subst e0
        have hx2 : Hid (0 < 1 → (0 : Int) = 0) := fun _ => rfl
        have hy2 : Hid (1 < 1 → y = 0) := fun h => by omega
        clear hx hy
        go_wp2
        go_roundw
        case rel => exact ⟨1, by omega, by go_num, by simp, by unfold Hid; simp, hy2⟩
        case measure => simp [intOf]
      · have d0 : (x != 0) = true := by simpa using e0
        have Fin : Hid (z = x) := hz.out.trans (if_neg e0)
        clear e0 hx hy hz
        go_wp2
        go_ret
        exact ⟨ret_int Fin.out.symm, rfl⟩
    · obtain rfl := hx.out (by omega)
      by_cases e0 : y = 0
      · subst e0
        have hx2 : Hid (0 < 2 → (0 : Int) = 0) := fun _ => rfl
        clear hx hy
        go_wp2
        go_roundw
        case rel => exact ⟨2, by omega, by go_num, by simp, by unfold Hid; simp, by unfold Hid; simp⟩
        case measure => simp [intOf]
      · have d0 : (y != 0) = true := by simpa using e0
        have Fin : Hid (z = y) := hz.out.trans (if_pos rfl)
        clear e0 hx hy hz
        go_wp2
        go_ret
        exact ⟨ret_int Fin.out.symm, rfl⟩
    · obtain rfl := hx.out (by omega)
      obtain rfl := hy.out (by omega)
      have Fin : Hid (z = 0) := hz.out.trans (if_pos rfl)
      clear hx hy hz
      go_wp2
      go_ret
      exact ⟨ret_int Fin.out.symm, rfl⟩
/-- An entry as a value. -/
def tv (a : Te) : Value := .agg #[.string a.key, .int .i64 a.no]
set_option maxRecDepth 100000 in
set_option maxHeartbeats 4000000 in
theorem compare_any (a b : Te) (w : World) : Calls Try.prog 40 #[.agg #[.string a.key, .int .i64 a.no], .agg #[.string b.key, .int .i64 b.no]] w (Give (.int .i64 (cmpT a b)) w) := by
  have ha := heap_alloc_new w (.cells #[.string a.key, .int .i64 a.no] 71)
  have hxa := (Ext.refl w).alloc_right (.cells #[.string a.key, .int .i64 a.no] 71)
  have z0 : (w.alloc (.cells #[.string a.key, .int .i64 a.no] 71)).cell? ⟨w.heap.size, 0, none⟩ = some (.string a.key) := by rw [Lib.cell_of_heap ha]; rfl
  have z1 : (w.alloc (.cells #[.string a.key, .int .i64 a.no] 71)).cell? ⟨w.heap.size, 1, none⟩ = some (.int .i64 a.no) := by rw [Lib.cell_of_heap ha]; rfl
  have hb := heap_alloc_new (w.alloc (.cells #[.string a.key, .int .i64 a.no] 71)) (.cells #[.string b.key, .int .i64 b.no] 71)
  have hxb := (Ext.refl (w.alloc (.cells #[.string a.key, .int .i64 a.no] 71))).alloc_right (.cells #[.string b.key, .int .i64 b.no] 71)
  have z2 : ((w.alloc (.cells #[.string a.key, .int .i64 a.no] 71)).alloc (.cells #[.string b.key, .int .i64 b.no] 71)).cell? ⟨(w.alloc (.cells #[.string a.key, .int .i64 a.no] 71)).heap.size, 0, none⟩ = some (.string b.key) := by rw [Lib.cell_of_heap hb]; rfl
  have z3 : ((w.alloc (.cells #[.string a.key, .int .i64 a.no] 71)).alloc (.cells #[.string b.key, .int .i64 b.no] 71)).cell? ⟨(w.alloc (.cells #[.string a.key, .int .i64 a.no] 71)).heap.size, 1, none⟩ = some (.int .i64 b.no) := by rw [Lib.cell_of_heap hb]; rfl
  replace z0 := hxb.cell z0
  replace z1 := hxb.cell z1
  have hx1 := hid (hxa.trans hxb)
  rw [World.size_alloc] at z2 z3
  have hc : Hid (cmpT a b = if cmpK a.key b.key = 0 then cmpN a.no b.no else cmpK a.key b.key) := rfl
  generalize cmpT a b = Z at *
  clear ha hb hxa hxb
  go_enter Try.func40, Try.ntmps40
  go_upto_region 1 with fail
  generalize w.heap.size + 1 = q at *
  generalize w.heap.size = p at *
  have I0 : (fun w' : World => w'.cell? ⟨p, 0, none⟩ = some (.string a.key) ∧ w'.cell? ⟨p, 1, none⟩ = some (.int .i64 a.no) ∧ w'.cell? ⟨q, 0, none⟩ = some (.string b.key) ∧ w'.cell? ⟨q, 1, none⟩ = some (.int .i64 b.no)) ((w.alloc (.cells #[.string a.key, .int .i64 a.no] 71)).alloc (.cells #[.string b.key, .int .i64 b.no] 71)).drew := ⟨z0, z1, z2, z3⟩
  replace hx1 := hid (hx1.out.drew_right)
  refine region_J (fun w' : World => w'.cell? ⟨p, 0, none⟩ = some (.string a.key) ∧ w'.cell? ⟨p, 1, none⟩ = some (.int .i64 a.no) ∧ w'.cell? ⟨q, 0, none⟩ = some (.string b.key) ∧ w'.cell? ⟨q, 1, none⟩ = some (.int .i64 b.no)) 13 (by kernel_rfl) ?_
  clear z0 z1 z2 z3
  generalize ((w.alloc (.cells #[.string a.key, .int .i64 a.no] 71)).alloc (.cells #[.string b.key, .int .i64 b.no] 71)).drew = w2 at *
  refine J_takeO 0 (v := ?vc0) rfl (by kernel_rfl) (by kernel_rfl) (by kernel_rfl) (by kernel_rfl) (fun _ _ _ h => h) (Or.inl ⟨by rfl, ?yc0⟩) I0 ?rc0
  case yc0 => (intro w hSw; obtain ⟨_, _, _, _⟩ := hSw; (go_simp; with_reducible rfl))
  simp only [Act.put, List.getElem_toArray, List.getElem_cons_zero, List.getElem_cons_succ, List.setIfInBounds_toArray, List.set_cons_zero, List.set_cons_succ]
  refine J_takeO 1 (v := ?vc1) rfl (by kernel_rfl) (by kernel_rfl) (by kernel_rfl) (by kernel_rfl) (fun _ _ _ h => h) (Or.inl ⟨by rfl, ?yc1⟩) I0 ?rc1
  case yc1 => (intro w hSw; obtain ⟨_, _, _, _⟩ := hSw; (go_simp; with_reducible rfl))
  simp only [Act.put, List.getElem_toArray, List.getElem_cons_zero, List.getElem_cons_succ, List.setIfInBounds_toArray, List.set_cons_zero, List.set_cons_succ]
  refine J_takeO 2 (v := ?vc2) rfl (by kernel_rfl) (by kernel_rfl) (by kernel_rfl) (by kernel_rfl) (fun _ _ _ h => h) (Or.inl ⟨by rfl, ?yc2⟩) I0 ?rc2
  case yc2 => (intro w hSw; obtain ⟨_, _, _, _⟩ := hSw; (go_simp; with_reducible rfl))
  simp only [Act.put, List.getElem_toArray, List.getElem_cons_zero, List.getElem_cons_succ, List.setIfInBounds_toArray, List.set_cons_zero, List.set_cons_succ]
  refine J_takeO 3 (v := ?vc3) rfl (by kernel_rfl) (by kernel_rfl) (by kernel_rfl) (by kernel_rfl) (fun _ _ _ h => h) (Or.inl ⟨by rfl, ?yc3⟩) I0 ?rc3
  case yc3 => (intro w hSw; obtain ⟨_, _, _, _⟩ := hSw; (go_simp; with_reducible rfl))
  simp only [Act.put, List.getElem_toArray, List.getElem_cons_zero, List.getElem_cons_succ, List.setIfInBounds_toArray, List.set_cons_zero, List.set_cons_succ]
  refine J_takeO 5 (v := ?vc5) rfl (by kernel_rfl) (by kernel_rfl) (by kernel_rfl) (by kernel_rfl) (fun _ _ _ h => h) (Or.inl ⟨by rfl, ?yc5⟩) I0 ?rc5
  case yc5 => (intro w hSw; obtain ⟨_, _, _, _⟩ := hSw; (go_simp; with_reducible rfl))
  simp only [Act.put, List.getElem_toArray, List.getElem_cons_zero, List.getElem_cons_succ, List.setIfInBounds_toArray, List.set_cons_zero, List.set_cons_succ]
  refine J_takeO 6 (v := ?vc6) rfl (by kernel_rfl) (by kernel_rfl) (by kernel_rfl) (by kernel_rfl) (fun _ _ _ h => h) (Or.inl ⟨by rfl, ?yc6⟩) I0 ?rc6
  case yc6 => (intro w hSw; obtain ⟨_, _, _, _⟩ := hSw; (go_simp; with_reducible rfl))
  simp only [Act.put, List.getElem_toArray, List.getElem_cons_zero, List.getElem_cons_succ, List.setIfInBounds_toArray, List.set_cons_zero, List.set_cons_succ]
  refine J_takeO 7 (v := ?vc7) rfl (by kernel_rfl) (by kernel_rfl) (by kernel_rfl) (by kernel_rfl) (fun _ _ _ h => h) (Or.inl ⟨by rfl, ?yc7⟩) I0 ?rc7
  case yc7 => (intro w hSw; obtain ⟨_, _, _, _⟩ := hSw; (go_simp; with_reducible rfl))
  simp only [Act.put, List.getElem_toArray, List.getElem_cons_zero, List.getElem_cons_succ, List.setIfInBounds_toArray, List.set_cons_zero, List.set_cons_succ]
  refine J_takeO 8 (v := ?vc8) rfl (by kernel_rfl) (by kernel_rfl) (by kernel_rfl) (by kernel_rfl) (fun _ _ _ h => h) (Or.inl ⟨by rfl, ?yc8⟩) I0 ?rc8
  case yc8 => (intro w hSw; obtain ⟨_, _, _, _⟩ := hSw; (go_simp; with_reducible rfl))
  simp only [Act.put, List.getElem_toArray, List.getElem_cons_zero, List.getElem_cons_succ, List.setIfInBounds_toArray, List.set_cons_zero, List.set_cons_succ]
  refine J_one 4 rfl (by kernel_rfl) (fun K hK => ?_)
  go_simp
  refine (sCompare_any _ _ _).mono ?_
  rintro e w' ⟨rfl, rfl⟩
  refine hK _ _ ⟨fun _ => I0, ?_⟩
  clear hK K
  try simp only [Act.put, List.getElem_toArray, List.getElem_cons_zero, List.getElem_cons_succ, List.setIfInBounds_toArray, List.set_cons_zero, List.set_cons_succ]
  refine J_one 9 rfl (by kernel_rfl) (fun K hK => ?_)
  go_simp
  refine (cmpCompare_any _ _ _).mono ?_
  rintro e w' ⟨rfl, rfl⟩
  refine hK _ _ ⟨fun _ => I0, ?_⟩
  clear hK K
  try simp only [Act.put, List.getElem_toArray, List.getElem_cons_zero, List.getElem_cons_succ, List.setIfInBounds_toArray, List.set_cons_zero, List.set_cons_succ]
  refine J_one 10 rfl (by kernel_rfl) (fun K hK => ?_)
  go_simp
  have I1 : (fun w' : World => w'.cell? ⟨p, 0, none⟩ = some (.string a.key) ∧ w'.cell? ⟨p, 1, none⟩ = some (.int .i64 a.no) ∧ w'.cell? ⟨q, 0, none⟩ = some (.string b.key) ∧ w'.cell? ⟨q, 1, none⟩ = some (.int .i64 b.no)) (w2.alloc (.cells #[.int .i64 (cmpK a.key b.key), .int .i64 (cmpN a.no b.no)] 3)) := ⟨((Ext.refl w2).alloc_right _).cell I0.1, ((Ext.refl w2).alloc_right _).cell I0.2.1, ((Ext.refl w2).alloc_right _).cell I0.2.2.1, ((Ext.refl w2).alloc_right _).cell I0.2.2.2⟩
  have hx2 := hid (hx1.out.alloc_right (.cells #[.int .i64 (cmpK a.key b.key), .int .i64 (cmpN a.no b.no)] 3))
  have y0 : (w2.alloc (.cells #[.int .i64 (cmpK a.key b.key), .int .i64 (cmpN a.no b.no)] 3)).cell? ⟨w2.heap.size, 0, none⟩ = some (.int .i64 (cmpK a.key b.key)) := by rw [Lib.cell_of_heap (heap_alloc_new w2 _)]; rfl
  have y1 : (w2.alloc (.cells #[.int .i64 (cmpK a.key b.key), .int .i64 (cmpN a.no b.no)] 3)).cell? ⟨w2.heap.size, 1, none⟩ = some (.int .i64 (cmpN a.no b.no)) := by rw [Lib.cell_of_heap (heap_alloc_new w2 _)]; rfl
  generalize w2.heap.size = r at *
  generalize w2.alloc (.cells #[.int .i64 (cmpK a.key b.key), .int .i64 (cmpN a.no b.no)] 3) = w3 at *
  refine hK _ _ ⟨fun _ => I1, ?_⟩
  clear hK K
  try simp only [Act.put, List.getElem_toArray, List.getElem_cons_zero, List.getElem_cons_succ, List.setIfInBounds_toArray, List.set_cons_zero, List.set_cons_succ]
  refine J_one 11 rfl (by kernel_rfl) (fun K hK => ?_)
  go_simp
  refine (cmpOr_any _ _ _ _ _ y0 y1 hc).mono ?_
  rintro e w' ⟨rfl, rfl⟩
  refine hK _ _ ⟨fun _ => I1, ?_⟩
  clear hK K
  try simp only [Act.put, List.getElem_toArray, List.getElem_cons_zero, List.getElem_cons_succ, List.setIfInBounds_toArray, List.set_cons_zero, List.set_cons_succ]
  refine J_one 12 rfl (by kernel_rfl) (fun K hK => ?_)
  go_simp
  refine hK _ _ ⟨fun _ => I1, ?_⟩
  clear hK K
  try simp only [Act.put, List.setIfInBounds_toArray, List.set_cons_zero, List.set_cons_succ]
  refine J_done (by kernel_rfl) (OnlyOn.normal ?_)
  go_wp2
  go_ret
  exact ⟨rfl, hx2.out⟩
end Go.Proofs.Ytpijfiaecicpfaa
