/-
  Encode, the program and the reference.
-/
import Derived.Test.YtlfanhlkoepodaaDoorK3
namespace Go.Proofs.YtlfanhlkoepodaaDoor
open Go.RowKit
set_option linter.unusedVariables false
set_option linter.unusedSimpArgs false
def askV (k n : Int) (s : ByteArray) (p c : Int) : Int := if valE k n s = 0 then askP p c else valE k n s
theorem askV_no {k n : Int} {s : ByteArray} {p c : Int} (h : valE k n s ≠ 0) : askV k n s p c = valE k n s := by unfold askV; rw [if_neg h]
theorem askV_yes {k n : Int} {s : ByteArray} {p c : Int} (h : valE k n s = 0) : askV k n s p c = askP p c := by unfold askV; rw [if_pos h]
theorem askV_ok {k n : Int} {s : ByteArray} {p c : Int} (h : askV k n s p c = 0) : valE k n s = 0 ∧ Co p c := by
  unfold askV at h
  split at h
  · exact ⟨by assumption, askP_ok h⟩
  · contradiction
def encS (k n : Int) (s : ByteArray) (p c : Int) (d : Bool) : ByteArray := if askV k n s p c = 0 then turnS d (keyB k n s p c) else ByteArray.empty
theorem enc_no {k n : Int} {s : ByteArray} {p c : Int} {d : Bool} (h : askV k n s p c ≠ 0) : encS k n s p c d = ByteArray.empty := by unfold encS; rw [if_neg h]
theorem enc_yes {k n : Int} {s : ByteArray} {p c : Int} {d : Bool} (h : askV k n s p c = 0) : encS k n s p c d = turnS d (keyB k n s p c) := by unfold encS; rw [if_pos h]
set_option maxRecDepth 100000 in
set_option maxHeartbeats 4000000 in
theorem asked_any (k n : Int) (s : ByteArray) (p c : Int) (w : World) : Calls Tryd.prog 55 #[vV k n s, .int .i64 p, .int .i64 c] w (Give (.int .i64 (askV k n s p c)) w) := by
  have hv := hid (fun w => Validate_any k n s w)
  by_cases he : valE k n s = 0
  rotate_left
  · have d0 : (valE k n s != 0) = true := by simpa using he
    rw [askV_no he]
    clear he
    generalize valE k n s = E at *
    unfold vV at *
    go_enter Tryd.func55, Tryd.ntmps55
    go_wp2_with fail
    refine (hv.out _).mono ?_
    rintro e w2 ⟨rfl, hx⟩
    go_wp2
    go_ret
    exact ⟨rfl, ((Ext.refl _).alloc_right _).trans hx⟩
  rw [askV_yes he]
  rw [he] at hv
  clear he
  unfold vV at *
  rcases Bool.eq_false_or_eq_true (decide (p < 0)) with d1 | d1 <;> rcases Bool.eq_false_or_eq_true (decide (2 < p)) with d2 | d2 <;> rcases Bool.eq_false_or_eq_true (decide (c < 0)) with d3 | d3 <;> rcases Bool.eq_false_or_eq_true (decide (1 < c)) with d4 | d4
  all_goals have Fin := hid (show askP p c = _ by unfold askP; rw [d1, d2, d3, d4])
  all_goals go_enter Tryd.func55, Tryd.ntmps55
  all_goals go_wp2_with fail
  all_goals refine (hv.out _).mono ?_
  all_goals rintro e w2 ⟨rfl, hx⟩
  all_goals go_wp2
  all_goals go_ret
  all_goals exact ⟨by rw [Fin.out]; rfl, ((Ext.refl _).alloc_right _).trans hx⟩
set_option maxRecDepth 100000 in
set_option maxHeartbeats 4000000 in
theorem Encode_any (k n : Int) (s : ByteArray) (p c : Int) (d : Bool) (w : World) (hm : ML w) : Calls Tryd.prog 17 #[vV k n s, .int .i64 p, .int .i64 c, .bool d] w (GiveSE (encS k n s p c d) (askV k n s p c) w) := by
  have ha := hid (fun w => asked_any k n s p c w)
  by_cases he : askV k n s p c = 0
  rotate_left
  · have d0 : (askV k n s p c != 0) = true := by simpa using he
    rw [enc_no he]
    clear he
    generalize askV k n s p c = E at *
    unfold vV at *
    go_enter Tryd.func17, Tryd.ntmps17
    go_wp2_with fail
    refine (ha.out _).mono ?_
    rintro e w2 ⟨rfl, hx⟩
    go_wp2
    go_ret2
    exact ⟨rfl, ((Ext.refl _).alloc_right _).trans hx⟩
  rw [enc_yes he]
  obtain ⟨hv, hco⟩ := askV_ok he
  rw [he] at ha ⊢
  have hP := hid (fun w hm => plain_any k n s p c hv hco w hm)
  replace hm := hid hm
  clear he hv hco
  cases d with
  | false =>
    rw [turnS_f]
    have hT := hid (fun w => turn1_any (keyB k n s p c) w)
    generalize keyB k n s p c = K at *
    
    have ht := hid (fun w => turner_any false w)
    have en := enterT1
    unfold vV at *
    go_enter Tryd.func17, Tryd.ntmps17
    go_upto_region 1 with fail
    generalize hw_ : w.alloc (.cells #[.int .i64 k, .int .i64 n, .string s] 23) = w1
    have hx1 : Ext (w.alloc (.cells #[.int .i64 k, .int .i64 n, .string s] 23)) w1 := by rw [hw_]; exact Ext.refl _
    clear hw_
    have b0 : w1.cell? ⟨w.heap.size, 0, none⟩ = some (.int .i64 k) := hx1.cell (by go_simp)
    have b1 : w1.cell? ⟨w.heap.size, 1, none⟩ = some (.int .i64 n) := hx1.cell (by go_simp)
    have b2 : w1.cell? ⟨w.heap.size, 2, none⟩ = some (.string s) := hx1.cell (by go_simp)
    have hE := hid (Ext.trans ((Ext.refl w).alloc_right _) hx1)
    have lt := World.block_lt_of_cell? w1 _ b0
    clear hx1
    go_wp2_with fail
    refine (ha.out _).mono ?_
    rintro e w2 ⟨rfl, hx2⟩
    replace b0 := hx2.cell b0
    replace b1 := hx2.cell b1
    replace b2 := hx2.cell b2
    replace hE := hid (hE.out.trans hx2)
    clear lt
    have lt := World.block_lt_of_cell? w2 _ b0
    clear hx2
    have HS : Hid (∀ w', Ext w2 w' → (w'.cell? ⟨w.heap.size, 0, none⟩ = some (.int .i64 k) ∧ w'.cell? ⟨w.heap.size, 1, none⟩ = some (.int .i64 n) ∧ w'.cell? ⟨w.heap.size, 2, none⟩ = some (.string s) ∧ w.heap.size < w'.heap.size ∧ Ext w2 w')) := fun w' hx => ⟨hx.cell b0, hx.cell b1, hx.cell b2, World.block_lt_of_cell? w' _ (hx.cell b0), hx⟩
    go_wp2_with fail
    have I := hid (HS.out w2.drew (Ext.refl w2).drew_right)
    clear b0 b1 b2 lt
    go_region_held3 (fun w' => w'.cell? ⟨w.heap.size, 0, none⟩ = some (.int .i64 k) ∧ w'.cell? ⟨w.heap.size, 1, none⟩ = some (.int .i64 n) ∧ w'.cell? ⟨w.heap.size, 2, none⟩ = some (.string s) ∧ w.heap.size < w'.heap.size ∧ Ext w2 w')
      ((first | exact I.out | (go_split_ands; exact HS.out _ (by assumption)) | (go_split_ands; exact HS.out _ (Ext.trans (by assumption) hx4)) ))
      ((first | (go_at_call 56; go_split_ands; refine (ht.out _).mono ?_; rintro e w3 ⟨rfl, rfl⟩) | (go_at_call 57; go_split_ands; refine (hP.out _ (hm.out.ext (Ext.trans hE.out (by assumption)))).mono ?_; rintro e w4 ⟨rfl, hx4⟩) | (go_at_call 80; go_split_ands; refine (hT.out _).mono ?_; rintro e w5 ⟨rfl, rfl⟩)))
    all_goals go_wp2
    all_goals go_ret2
    all_goals exact ⟨rfl, Ext.trans hE.out (Ext.trans (by assumption) hx4)⟩
  | true =>
    rw [turnS_t]
    have hT := hid (fun w => turn2_any (keyB k n s p c) (by have := keyB_size k n s p c; omega) w)
    generalize keyB k n s p c = K at *
    generalize strB (turnL K.toList) = TK at *
    have ht := hid (fun w => turner_any true w)
    have en := enterT2
    unfold vV at *
    go_enter Tryd.func17, Tryd.ntmps17
    go_upto_region 1 with fail
    generalize hw_ : w.alloc (.cells #[.int .i64 k, .int .i64 n, .string s] 23) = w1
    have hx1 : Ext (w.alloc (.cells #[.int .i64 k, .int .i64 n, .string s] 23)) w1 := by rw [hw_]; exact Ext.refl _
    clear hw_
    have b0 : w1.cell? ⟨w.heap.size, 0, none⟩ = some (.int .i64 k) := hx1.cell (by go_simp)
    have b1 : w1.cell? ⟨w.heap.size, 1, none⟩ = some (.int .i64 n) := hx1.cell (by go_simp)
    have b2 : w1.cell? ⟨w.heap.size, 2, none⟩ = some (.string s) := hx1.cell (by go_simp)
    have hE := hid (Ext.trans ((Ext.refl w).alloc_right _) hx1)
    have lt := World.block_lt_of_cell? w1 _ b0
    clear hx1
    go_wp2_with fail
    refine (ha.out _).mono ?_
    rintro e w2 ⟨rfl, hx2⟩
    replace b0 := hx2.cell b0
    replace b1 := hx2.cell b1
    replace b2 := hx2.cell b2
    replace hE := hid (hE.out.trans hx2)
    clear lt
    have lt := World.block_lt_of_cell? w2 _ b0
    clear hx2
    have HS : Hid (∀ w', Ext w2 w' → (w'.cell? ⟨w.heap.size, 0, none⟩ = some (.int .i64 k) ∧ w'.cell? ⟨w.heap.size, 1, none⟩ = some (.int .i64 n) ∧ w'.cell? ⟨w.heap.size, 2, none⟩ = some (.string s) ∧ w.heap.size < w'.heap.size ∧ Ext w2 w')) := fun w' hx => ⟨hx.cell b0, hx.cell b1, hx.cell b2, World.block_lt_of_cell? w' _ (hx.cell b0), hx⟩
    go_wp2_with fail
    have I := hid (HS.out w2.drew (Ext.refl w2).drew_right)
    clear b0 b1 b2 lt
    go_region_held3 (fun w' => w'.cell? ⟨w.heap.size, 0, none⟩ = some (.int .i64 k) ∧ w'.cell? ⟨w.heap.size, 1, none⟩ = some (.int .i64 n) ∧ w'.cell? ⟨w.heap.size, 2, none⟩ = some (.string s) ∧ w.heap.size < w'.heap.size ∧ Ext w2 w')
      ((first | exact I.out | (go_split_ands; exact HS.out _ (by assumption)) | (go_split_ands; exact HS.out _ (Ext.trans (by assumption) hx4)) | (go_split_ands; exact HS.out _ (Ext.trans (by assumption) hx5))))
      ((first | (go_at_call 56; go_split_ands; refine (ht.out _).mono ?_; rintro e w3 ⟨rfl, rfl⟩) | (go_at_call 57; go_split_ands; refine (hP.out _ (hm.out.ext (Ext.trans hE.out (by assumption)))).mono ?_; rintro e w4 ⟨rfl, hx4⟩) | (go_at_call 81; go_split_ands; refine (hT.out _).mono ?_; rintro e w5 ⟨rfl, hx5⟩)))
    all_goals go_wp2
    all_goals go_ret2
    all_goals exact ⟨rfl, Ext.trans hE.out (Ext.trans (by assumption) hx5)⟩
set_option maxRecDepth 100000 in
set_option maxHeartbeats 4000000 in
theorem rEncode_any (k n : Int) (s : ByteArray) (p c : Int) (d : Bool) (w : World) : Calls Tryd.prog 18 #[vV k n s, .int .i64 p, .int .i64 c, .bool d] w (GiveSE (encS k n s p c d) (askV k n s p c) w) := by
  have hv := hid (fun w => rValidate_any k n s w)
  have ha := hid (fun w => rAsked_any p c w)
  by_cases he : valE k n s = 0
  rotate_left
  · have d0 : (valE k n s != 0) = true := by simpa using he
    have e1 := askV_no (p := p) (c := c) he
    rw [enc_no (by rw [e1]; exact he), e1]
    clear he e1
    generalize valE k n s = E at *
    unfold vV at *
    go_enter Tryd.func18, Tryd.ntmps18
    go_wp2_with fail
    refine (hv.out _).mono ?_
    rintro e w2 ⟨rfl, hx⟩
    go_wp2
    go_ret2
    exact ⟨rfl, ((Ext.refl _).alloc_right _).trans hx⟩
  have e1 := askV_yes (p := p) (c := c) he
  by_cases hp : askP p c = 0
  rotate_left
  · have d0 : (askP p c != 0) = true := by simpa using hp
    rw [enc_no (by rw [e1]; exact hp), e1]
    rw [he] at hv
    clear he e1 hp
    generalize askP p c = E at *
    unfold vV at *
    go_enter Tryd.func18, Tryd.ntmps18
    go_wp2_with fail
    refine (hv.out _).mono ?_
    rintro e w2 ⟨rfl, hx⟩
    go_wp2_with fail
    refine (ha.out _).mono ?_
    rintro e w3 ⟨rfl, rfl⟩
    go_wp2
    go_ret2
    exact ⟨rfl, ((Ext.refl _).alloc_right _).trans hx⟩
  rw [enc_yes (by rw [e1]; exact hp), e1]
  rw [he] at hv
  have hK := hid (fun w => rKeyOf_any k n s p c d he (askP_ok hp) w)
  rw [hp] at ha ⊢
  clear he e1 hp
  generalize turnS d (keyB k n s p c) = K at *
  unfold vV at *
  go_enter Tryd.func18, Tryd.ntmps18
  go_upto_region 1 with fail
  generalize hw_ : w.alloc (.cells #[.int .i64 k, .int .i64 n, .string s] 23) = w1
  have hx1 : Ext (w.alloc (.cells #[.int .i64 k, .int .i64 n, .string s] 23)) w1 := by rw [hw_]; exact Ext.refl _
  clear hw_
  have b0 : w1.cell? ⟨w.heap.size, 0, none⟩ = some (.int .i64 k) := hx1.cell (by go_simp)
  have b1 : w1.cell? ⟨w.heap.size, 1, none⟩ = some (.int .i64 n) := hx1.cell (by go_simp)
  have b2 : w1.cell? ⟨w.heap.size, 2, none⟩ = some (.string s) := hx1.cell (by go_simp)
  have hE := hid (Ext.trans ((Ext.refl w).alloc_right _) hx1)
  have lt := World.block_lt_of_cell? w1 _ b0
  clear hx1
  go_wp2_with fail
  refine (hv.out _).mono ?_
  rintro e w2 ⟨rfl, hx2⟩
  replace b0 := hx2.cell b0
  replace b1 := hx2.cell b1
  replace b2 := hx2.cell b2
  replace hE := hid (hE.out.trans hx2)
  clear lt
  have lt := World.block_lt_of_cell? w2 _ b0
  clear hx2
  go_wp2_with fail
  refine (ha.out _).mono ?_
  rintro e w3 ⟨rfl, rfl⟩
  go_wp2_with fail
  refine (hK.out _).mono ?_
  rintro e w4 ⟨rfl, hx4⟩
  go_wp2
  go_ret2
  exact ⟨rfl, hE.out.trans hx4⟩
end Go.Proofs.YtlfanhlkoepodaaDoor
