/-
  The methods of no index.
-/
import Derived.Test.YtpijfiaecicpfaaBj
namespace Go.Proofs.Ytpijfiaecicpfaa
open Go.RowKit Go.Shelf
set_option linter.unusedVariables false
set_option linter.unusedSimpArgs false
set_option maxRecDepth 100000 in
set_option maxHeartbeats 4000000 in
theorem Search_0 (fid : Nat) (cs : Array Value) (w : World) : Calls Try.prog 69 #[.int .i64 0, .func (.func fid) #[] cs] w fun e w' => e = .returned (.int .i64 0) ∧ w = w' := by
  go_enter Try.func69, Try.ntmps69
  go_wp2_with fail
  go_loopw [5, 6] (fun i j wr => i = .int .i64 0 ∧ j = .int .i64 0 ∧ w = wr) (fun i j _ => (intOf j).toNat - (intOf i).toNat)
  case atStart => exact ⟨rfl, rfl, rfl⟩
  case round =>
    obtain ⟨rfl, rfl, rfl⟩ := hrel
    go_wp2
    go_ret
    exact ⟨rfl, rfl⟩
set_option maxRecDepth 100000 in
set_option maxHeartbeats 4000000 in
theorem told_no (A : Option Addr) (n c : Nat) (i : Int) (w : World) (h : i < 0 ∨ (n : Int) ≤ i) : Calls Try.prog 66 #[.slice A n c, .int .i64 i] w fun e w' => e = .returned (.tuple #[.string ⟨#[]⟩, .int .i64 0, .bool false]) ∧ w = w' := by
  by_cases h1 : i < 0
  · clear h
    go_enter Try.func66, Try.ntmps66
    go_wp2
    go_ret3
    exact ⟨rfl, rfl⟩
  · have h2 : (n : Int) ≤ i := by omega
    clear h
    go_enter Try.func66, Try.ntmps66
    go_wp2
    go_ret3
    exact ⟨rfl, rfl⟩
set_option maxRecDepth 100000 in
set_option maxHeartbeats 4000000 in
theorem fromKey_0 (s : ByteArray) (w : World) : Calls Try.prog 68 #[.slice none 0 0, .string s] w (Give (.int .i64 0) w) := by
  have hx := hid (((Ext.refl w).alloc_right (.cells #[.slice none 0 0] 92)).alloc_right (.cells #[.string s] 9))
  have hp0 := heap_alloc_new w (.cells #[.slice none 0 0] 92)
  have hp := (((Ext.refl (w.alloc (.cells #[.slice none 0 0] 92))).alloc_right (.cells #[.string s] 9)).block (Array.getElem?_eq_some_iff.1 hp0).1).trans hp0
  have zp : ((w.alloc (.cells #[.slice none 0 0] 92)).alloc (.cells #[.string s] 9)).cell? ⟨w.heap.size, 0, none⟩ = some (.slice none 0 0) := by rw [Lib.cell_of_heap hp]; rfl
  have lz := World.block_lt_of_cell? _ _ zp
  dsimp only at lz
  clear hp hp0
  go_enter Try.func68, Try.ntmps68
  go_upto_region 1 with fail
  generalize (w.alloc (.cells #[.slice none 0 0] 92)).alloc (.cells #[.string s] 9) = w1 at *
  go_wp2_with fail
  refine (Search_0 _ _ _).mono ?_
  rintro e' w3 ⟨rfl, rfl⟩
  go_wp2
  go_ret
  exact ⟨rfl, hx.out⟩
set_option maxRecDepth 100000 in
set_option maxHeartbeats 4000000 in
theorem At_nil (n : Int) (w : World) : Calls Try.prog 31 #[.pointer none, .int .i64 n] w (Give (.tuple #[.string ⟨#[]⟩, .int .i64 0, .bool false]) w) := by
  go_enter Try.func31, Try.ntmps31
  go_wp2_with fail
  refine (entries_nil _).mono ?_
  rintro e w2 ⟨rfl, hx⟩
  go_wp2_with fail
  refine (told_no none 0 0 n _ (by omega)).mono ?_
  rintro e w3 ⟨rfl, rfl⟩
  go_wp2
  go_ret3
  exact ⟨rfl, hx⟩
set_option maxRecDepth 100000 in
set_option maxHeartbeats 4000000 in
theorem Seek_nil (s : ByteArray) (w : World) : Calls Try.prog 33 #[.pointer none, .string s] w (Give (.tuple #[.string ⟨#[]⟩, .int .i64 0, .bool false]) w) := by
  go_enter Try.func33, Try.ntmps33
  go_wp2_with fail
  refine (entries_nil _).mono ?_
  rintro e w2 ⟨rfl, hx⟩
  go_wp2_with fail
  refine (fromKey_0 s _).mono ?_
  rintro e w3 ⟨rfl, hx3⟩
  go_wp2_with fail
  refine (told_no none 0 0 0 _ (by omega)).mono ?_
  rintro e w4 ⟨rfl, rfl⟩
  go_wp2
  go_ret3
  exact ⟨rfl, hx.trans hx3⟩
set_option maxRecDepth 100000 in
set_option maxHeartbeats 4000000 in
theorem Prev_nil (s : ByteArray) (i : Int) (w : World) : Calls Try.prog 35 #[.pointer none, .string s, .int .i64 i] w (Give (.tuple #[.string ⟨#[]⟩, .int .i64 0, .bool false]) w) := by
  have hF : Hid (∀ w, Calls Try.prog 67 #[.slice none 0 0, .agg #[.string s, .int .i64 i]] w (Give (.int .i64 0) w)) := fun w => from_any none 0 0 [] ⟨s, i⟩ w (Rd.none_ _ _) List.Pairwise.nil (by decide)
  go_enter Try.func35, Try.ntmps35
  go_wp2_with fail
  refine (entries_nil _).mono ?_
  rintro e w2 ⟨rfl, hx⟩
  go_wp2_with fail
  refine (hF.out w2).mono ?_
  rintro e w3 ⟨rfl, hx3⟩
  go_wp2_with fail
  refine (told_no none 0 0 (-1) _ (by omega)).mono ?_
  rintro e w4 ⟨rfl, rfl⟩
  go_wp2
  go_ret3
  exact ⟨rfl, hx.trans hx3⟩
set_option maxRecDepth 100000 in
set_option maxHeartbeats 4000000 in
theorem Next_nil (s : ByteArray) (i : Int) (w : World) : Calls Try.prog 34 #[.pointer none, .string s, .int .i64 i] w (Give (.tuple #[.string ⟨#[]⟩, .int .i64 0, .bool false]) w) := by
  go_enter Try.func34, Try.ntmps34
  go_wp2_with fail
  refine (entries_nil _).mono ?_
  rintro e w2 ⟨rfl, hx⟩
  have hp0 := heap_alloc_new w2 (.cells #[.slice none 0 0] 92)
  have hxa := (Ext.refl w2).alloc_right (.cells #[.slice none 0 0] 92)
  have hxb := (Ext.refl (w2.alloc (.cells #[.slice none 0 0] 92))).alloc_right (.cells #[.string s, .int .i64 i] 71)
  have hp := (hxb.block (Array.getElem?_eq_some_iff.1 hp0).1).trans hp0
  have zp : ((w2.alloc (.cells #[.slice none 0 0] 92)).alloc (.cells #[.string s, .int .i64 i] 71)).cell? ⟨w2.heap.size, 0, none⟩ = some (.slice none 0 0) := by rw [Lib.cell_of_heap hp]; rfl
  have lz := World.block_lt_of_cell? _ _ zp
  dsimp only at lz
  have hx5 := hid (hx.trans (hxa.trans hxb))
  clear hp hp0 hxa hxb
  go_upto_region 3 with fail
  obtain ⟨b, hbe⟩ : ∃ b, b = w2.heap.size := ⟨_, rfl⟩
  rw [← hbe] at zp lz
  simp only [← hbe]
  clear hbe
  have I0 : (fun w' : World => w'.cell? ⟨b, 0, none⟩ = some (.slice none 0 0)) ((w2.alloc (.cells #[.slice none 0 0] 92)).alloc (.cells #[.string s, .int .i64 i] 71)).drew := zp
  refine region_J (fun w' : World => w'.cell? ⟨b, 0, none⟩ = some (.slice none 0 0)) 12 (by kernel_rfl) ?_
  have hx6 := hid (hx5.out.drew_right)
  clear hx5 zp
  generalize ((w2.alloc (.cells #[.slice none 0 0] 92)).alloc (.cells #[.string s, .int .i64 i] 71)).drew = w3 at *
  refine J_takeO 0 (v := ?vc0) rfl (by kernel_rfl) (by kernel_rfl) (by kernel_rfl) (by kernel_rfl) (fun _ _ _ h => h) (Or.inl ⟨by rfl, ?yc0⟩) I0 ?rc0
  case yc0 => (intro w hSw; (go_simp; with_reducible rfl))
  simp only [Act.put, List.getElem_toArray, List.getElem_cons_zero, List.getElem_cons_succ, List.setIfInBounds_toArray, List.set_cons_zero, List.set_cons_succ]
  refine J_takeO 1 (v := ?vc1) rfl (by kernel_rfl) (by kernel_rfl) (by kernel_rfl) (by kernel_rfl) (fun _ _ _ h => h) (Or.inl ⟨by rfl, ?yc1⟩) I0 ?rc1
  case yc1 => (intro w hSw; (go_simp; with_reducible rfl))
  simp only [Act.put, List.getElem_toArray, List.getElem_cons_zero, List.getElem_cons_succ, List.setIfInBounds_toArray, List.set_cons_zero, List.set_cons_succ]
  refine J_takeO 2 (v := ?vc2) rfl (by kernel_rfl) (by kernel_rfl) (by kernel_rfl) (by kernel_rfl) (fun _ _ _ h => h) (Or.inl ⟨by rfl, ?yc2⟩) I0 ?rc2
  case yc2 => (intro w hSw; (go_simp; with_reducible rfl))
  simp only [Act.put, List.getElem_toArray, List.getElem_cons_zero, List.getElem_cons_succ, List.setIfInBounds_toArray, List.set_cons_zero, List.set_cons_succ]
  refine J_takeO 3 (v := ?vc3) rfl (by kernel_rfl) (by kernel_rfl) (by kernel_rfl) (by kernel_rfl) (fun _ _ _ h => h) (Or.inl ⟨by rfl, ?yc3⟩) I0 ?rc3
  case yc3 => (intro w hSw; (go_simp; with_reducible rfl))
  simp only [Act.put, List.getElem_toArray, List.getElem_cons_zero, List.getElem_cons_succ, List.setIfInBounds_toArray, List.set_cons_zero, List.set_cons_succ]
  refine J_one 4 rfl (by kernel_rfl) (fun K hK => ?_)
  go_simp
  refine (Search_0 _ _ _).mono ?_
  rintro e w' ⟨rfl, rfl⟩
  refine hK _ _ ⟨fun _ => I0, ?_⟩
  clear hK K
  try simp only [Act.put, List.getElem_toArray, List.getElem_cons_zero, List.getElem_cons_succ, List.setIfInBounds_toArray, List.set_cons_zero, List.set_cons_succ]
  refine J_one 5 rfl (by kernel_rfl) (fun K hK => ?_)
  go_simp
  refine (told_no none 0 0 0 _ (by omega)).mono ?_
  rintro e w' ⟨rfl, rfl⟩
  refine hK _ _ ⟨fun _ => I0, ?_⟩
  clear hK K
  try simp only [Act.put, List.getElem_toArray, List.getElem_cons_zero, List.getElem_cons_succ, List.setIfInBounds_toArray, List.set_cons_zero, List.set_cons_succ]
  refine J_takeO 6 (v := ?vd6) rfl (by kernel_rfl) (by kernel_rfl) (by kernel_rfl) (by kernel_rfl) (fun _ _ _ h => h) (Or.inl ⟨by rfl, ?yd6⟩) I0 ?rd6
  case yd6 => (intro w hSw; (go_simp; with_reducible rfl))
  simp only [Act.put, List.getElem_toArray, List.getElem_cons_zero, List.getElem_cons_succ, List.setIfInBounds_toArray, List.set_cons_zero, List.set_cons_succ]
  refine J_takeO 7 (v := ?vd7) rfl (by kernel_rfl) (by kernel_rfl) (by kernel_rfl) (by kernel_rfl) (fun _ _ _ h => h) (Or.inl ⟨by rfl, ?yd7⟩) I0 ?rd7
  case yd7 => (intro w hSw; (go_simp; with_reducible rfl))
  simp only [Act.put, List.getElem_toArray, List.getElem_cons_zero, List.getElem_cons_succ, List.setIfInBounds_toArray, List.set_cons_zero, List.set_cons_succ]
  refine J_takeO 8 (v := ?vd8) rfl (by kernel_rfl) (by kernel_rfl) (by kernel_rfl) (by kernel_rfl) (fun _ _ _ h => h) (Or.inl ⟨by rfl, ?yd8⟩) I0 ?rd8
  case yd8 => (intro w hSw; (go_simp; with_reducible rfl))
  simp only [Act.put, List.getElem_toArray, List.getElem_cons_zero, List.getElem_cons_succ, List.setIfInBounds_toArray, List.set_cons_zero, List.set_cons_succ]
  refine J_one 9 rfl (by kernel_rfl) (fun K hK => ?_)
  go_simp
  refine hK _ _ ⟨fun _ => I0, ?_⟩
  clear hK K
  try simp only [Act.put, List.setIfInBounds_toArray, List.set_cons_zero, List.set_cons_succ]
  refine J_one 10 rfl (by kernel_rfl) (fun K hK => ?_)
  go_simp
  refine hK _ _ ⟨fun _ => I0, ?_⟩
  clear hK K
  try simp only [Act.put, List.setIfInBounds_toArray, List.set_cons_zero, List.set_cons_succ]
  refine J_one 11 rfl (by kernel_rfl) (fun K hK => ?_)
  go_simp
  refine hK _ _ ⟨fun _ => I0, ?_⟩
  clear hK K
  try simp only [Act.put, List.setIfInBounds_toArray, List.set_cons_zero, List.set_cons_succ]
  refine J_done (by kernel_rfl) (OnlyOn.normal ?_)
  go_wp2
  go_ret3
  exact ⟨rfl, hx6.out⟩
set_option maxRecDepth 100000 in
set_option maxHeartbeats 4000000 in
theorem len_toListB (s : ByteArray) : s.toList.length = s.size := by
  rw [ByteArray.toList_eq]; rfl
theorem empty_is {s : ByteArray} (h : s.toList.isEmpty = true) : s = ⟨#[]⟩ := by
  obtain ⟨⟨l⟩⟩ := s
  have : (⟨⟨l⟩⟩ : ByteArray).toList.length = 0 := by rw [List.isEmpty_iff.1 h]; rfl
  rw [len_toListB] at this
  have h2 : l.length = 0 := this
  rw [List.length_eq_zero_iff.1 h2]
set_option maxRecDepth 100000 in
set_option maxHeartbeats 4000000 in
theorem between_nil (a b : ByteArray) (w : World) : Calls Try.prog 63 #[.pointer none, .string a, .string b] w (Give (.slice none 0 0) w) := by
  by_cases hb : b = ⟨#[]⟩
  · subst hb
    go_enter Try.func63, Try.ntmps63
    go_wp2_with fail
    refine (entries_nil _).mono ?_
    rintro e w2 ⟨rfl, hx⟩
    go_wp2_with fail
    refine (fromKey_0 a _).mono ?_
    rintro e w3 ⟨rfl, hx3⟩
    go_wp2
    go_ret
    exact ⟨rfl, hx.trans hx3⟩
  · have hbe : b.toList.isEmpty = false := by
      cases he : b.toList.isEmpty with
      | false => rfl
      | true => exact absurd (empty_is he) hb
    go_enter Try.func63, Try.ntmps63
    go_wp2_with fail
    refine (entries_nil _).mono ?_
    rintro e w2 ⟨rfl, hx⟩
    go_wp2_with fail
    refine (fromKey_0 b _).mono ?_
    rintro e w3 ⟨rfl, hx3⟩
    go_wp2_with fail
    refine (fromKey_0 a _).mono ?_
    rintro e w4 ⟨rfl, hx4⟩
    go_wp2
    go_ret
    exact ⟨rfl, (hx.trans hx3).trans hx4⟩
set_option maxRecDepth 100000 in
set_option maxHeartbeats 4000000 in
theorem Range_nil (a b : ByteArray) (n : Int) (w : World) : Calls Try.prog 28 #[.pointer none, .string a, .string b, .int .i64 n] w (Give (.tuple #[.slice none 0 0, .slice none 0 0]) w) := by
  go_enter Try.func28, Try.ntmps28
  go_wp2_with fail
  refine (between_nil a b _).mono ?_
  rintro e w2 ⟨rfl, hx⟩
  replace hx := hid hx
  go_wp2_with fail
  go_loopw [10, 11, 19] (fun k r i wr => k = .slice none 0 0 ∧ r = .slice none 0 0 ∧ i = .int .i64 0 ∧ wr = w2) (fun _ _ i _ => (intOf i).toNat)
  case atStart => exact ⟨rfl, rfl, rfl, rfl⟩
  case round =>
    obtain ⟨rfl, rfl, rfl, rfl⟩ := hrel
    go_wp2
    go_ret2
    exact ⟨rfl, hx.out⟩
set_option maxRecDepth 100000 in
set_option maxHeartbeats 4000000 in
theorem Count_nil (a b : ByteArray) (w : World) : Calls Try.prog 36 #[.pointer none, .string a, .string b] w (Give (.int .i64 0) w) := by
  go_enter Try.func36, Try.ntmps36
  go_wp2_with fail
  refine (between_nil a b _).mono ?_
  rintro e w2 ⟨rfl, hx⟩
  go_wp2
  go_ret
  exact ⟨rfl, hx⟩
set_option maxRecDepth 100000 in
set_option maxHeartbeats 4000000 in
theorem Take_nil (s : ByteArray) (n : Int) (w : World) : Calls Try.prog 26 #[.pointer none, .string s, .int .i64 n] w (Give (.int .i64 9) w) := by
  go_enter_defers Try.func26, Try.ntmps26
  go_wp2
  exact ⟨_, results_tmp rfl _ _ _, rfl, Ext.refl _⟩
set_option maxRecDepth 100000 in
set_option maxHeartbeats 4000000 in
theorem Copy_nil (w : World) : Calls Try.prog 37 #[.pointer none] w (Give (.pointer none) w) := by
  go_enter_defers Try.func37, Try.ntmps37
  go_wp2
  exact ⟨_, results_tmp rfl _ _ _, rfl, Ext.refl _⟩
set_option maxRecDepth 100000 in
set_option maxHeartbeats 4000000 in
theorem Same_nil (w : World) : Calls Try.prog 29 #[.pointer none, .pointer none] w (Give (.bool true) w) := by
  have e1 : ∀ w, (binOp BinOp.eql 26 (Value.pointer none) (Value.pointer none)).run Try.prog w = .ok (.bool true) w := fun w => by kernel_rfl
  go_enter Try.func29, Try.ntmps29
  go_wp2
  go_ret
  exact ⟨rfl, Ext.refl _⟩
set_option maxRecDepth 100000 in
set_option maxHeartbeats 4000000 in
theorem Same_one (t : Nat) (w : World) : Calls Try.prog 29 #[.pointer none, .pointer (some ⟨t, 0, none⟩)] w (Give (.bool false) w) := by
  have e1 : ∀ w, (binOp BinOp.eql 26 (Value.pointer none) (Value.pointer none)).run Try.prog w = .ok (.bool true) w := fun w => by kernel_rfl
  have e2 : ∀ w, (binOp BinOp.eql 26 (Value.pointer none) (Value.pointer (some { block := t, off := 0 }))).run Try.prog w = .ok (.bool false) w := fun w => by kernel_rfl
  go_enter Try.func29, Try.ntmps29
  go_wp2
  go_ret
  exact ⟨rfl, Ext.refl _⟩
end Go.Proofs.Ytpijfiaecicpfaa
