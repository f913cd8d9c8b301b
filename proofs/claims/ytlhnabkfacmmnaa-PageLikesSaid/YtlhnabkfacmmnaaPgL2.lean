/-
  Is a text as a pattern says: the reference's table.
-/
import Derived.Test.YtlhnabkfacmmnaaPgL1
import Derived.StillTailTactics
import Derived.IntWalk
import Derived.Laws.MakeOwn
namespace Go.Proofs.Ytlhnabkfacmmnaa
open Go.RowKit
set_option linter.unusedVariables false
set_option linter.unusedSimpArgs false
def tabT (q : UInt8 → UInt8 → Bool) (P S : List UInt8) (i k : Nat) : Bool := mat q (P.take i).reverse (S.take k).reverse
section
variable {q : UInt8 → UInt8 → Bool} {P S : List UInt8} {i k : Nat}
theorem tab_end : tabT q P S P.length S.length = mat q P S := by unfold tabT; rw [List.take_length, List.take_length, mat_rev]
theorem tab_00 : tabT q P S 0 0 = true := rfl
theorem tab_0s (hk : k < S.length) : tabT q P S 0 (k + 1) = false := by
  unfold tabT
  rw [List.take_succ_eq_append_getElem hk, List.reverse_append]
  rfl
theorem tab_p (hi : i < P.length) : (P.take (i + 1)).reverse = P[i] :: (P.take i).reverse := by
  rw [List.take_succ_eq_append_getElem hi, List.reverse_append]
  rfl
theorem tab_star0 (hi : i < P.length) (h : P[i] = 42) : tabT q P S (i + 1) 0 = tabT q P S i 0 := by
  unfold tabT
  rw [tab_p hi, h]
  rfl
theorem tab_star (hi : i < P.length) (h : P[i] = 42) (hk : k < S.length) : tabT q P S (i + 1) (k + 1) = (tabT q P S i (k + 1) || tabT q P S (i + 1) k) := by
  unfold tabT
  rw [tab_p hi, tab_p hk, h]
  rfl
theorem tab_step0 (hi : i < P.length) (h : P[i] ≠ 42) : tabT q P S (i + 1) 0 = false := by
  unfold tabT
  rw [tab_p hi, mat_step h]
  rfl
theorem tab_step (hi : i < P.length) (h : P[i] ≠ 42) (hk : k < S.length) : tabT q P S (i + 1) (k + 1) = ((P[i] == 63 || q P[i] S[k]) && tabT q P S i k) := by
  unfold tabT
  rw [tab_p hi, tab_p hk, mat_step h]
  rfl
end
/-- Block g holds n truths, and they may be written. -/
def Bb (w : World) (g n : Nat) (f : Nat → Bool) : Prop := ∀ k, k < n → w.cell? ⟨g, k, none⟩ = some (.bool (f k)) ∧ w.frozen? ⟨g, k, none⟩ = false
theorem Bb.ext {w w' : World} {g n : Nat} {f : Nat → Bool} (h : Bb w g n f) (hb : Ext w w') : Bb w' g n f := fun j hj => ⟨hb.cell (h j hj).1, by rw [hb.frozen (World.block_lt_of_cell? w _ (h j hj).1)]; exact (h j hj).2⟩
theorem Bb.congr {w : World} {g n : Nat} {f f' : Nat → Bool} (h : Bb w g n f) (e : ∀ k, k < n → f k = f' k) : Bb w g n f' := fun j hj => by rw [← e j hj]; exact h j hj
theorem Bb.set {w : World} {g n : Nat} {f f' : Nat → Bool} (h : Bb w g n f) {k : Nat} {b : Bool} (e : ∀ j, j < n → f' j = if j = k then b else f j) : Bb (w.setCell ⟨g, k, none⟩ (.bool b)) g n f' := by
  intro j hj
  refine ⟨?_, by rw [World.frozen?_setCell]; exact (h j hj).2⟩
  rw [e j hj]
  by_cases e : j = k
  · subst e
    rw [World.cell?_setCell_same _ _ _ (h j hj).1, if_pos rfl]
  · rw [World.cell?_setCell_other _ _ _ _ (by intro e'; injection e' with _ e' _; exact e e'.symm), (h j hj).1, if_neg e]
def newT (w : World) (k : Nat) : World := w.alloc (.cells (madeCells #[.bool false] (k * 1)) 4)
theorem newT_ext (w : World) (k : Nat) : Ext w (newT w k) := (Ext.refl w).alloc_right _
theorem newT_lt (w : World) (k : Nat) : w.heap.size < (newT w k).heap.size := by simp [newT]
theorem newT_bb (w : World) (k : Nat) : Bb (newT w k) w.heap.size k (fun _ => false) := by
  have hb : (newT w k).heap[w.heap.size]? = some (.cells (madeCells #[.bool false] (k * 1)) 4) := heap_alloc_new w _
  refine fun j hj => ⟨?_, ?_⟩
  · rw [cell_of_row _ w.heap.size j _ 4 _ hb]
    unfold madeCells
    have : j < (Array.range (k * 1)).size := by simp; exact hj
    rw [Array.getElem?_map, Array.getElem?_eq_getElem this]
    simp [Nat.mod_one]
  · unfold World.frozen?
    rw [hb]
    simp
theorem info_partsT {o : Option TypeInfo} {z : Option Value} {s b : Nat} (h : o.map (fun i => (i.zero, i.size, i.bytes)) = some (z, s, b)) : ∃ i, o = some i ∧ i.zero = z ∧ i.size = s ∧ i.bytes = b := by
  cases o with
  | none => cases h
  | some i => simp at h; exact ⟨i, rfl, h⟩
/-- The row of the table under way. -/
def rowN (q : UInt8 → UInt8 → Bool) (P S : List UInt8) (i k j : Nat) : Bool := if j < k then tabT q P S (i + 1) j else false
section
variable {q : UInt8 → UInt8 → Bool} {P S : List UInt8} {i k : Nat}
theorem rowN_at {j : Nat} (h : j < k) : rowN q P S i k j = tabT q P S (i + 1) j := if_pos h
theorem rowN_set {b : Bool} (h : tabT q P S (i + 1) k = b) (n : Nat) : ∀ j, j < n → rowN q P S i (k + 1) j = if j = k then b else rowN q P S i k j := by
  intro j _
  unfold rowN
  by_cases e : j = k
  · subst e; rw [if_pos (by omega), if_pos rfl, h]
  · rw [if_neg e]
    by_cases e2 : j < k
    · rw [if_pos (by omega), if_pos e2]
    · rw [if_neg (by omega), if_neg e2]
theorem rowN_zero (n : Nat) : ∀ j, j < n → false = rowN q P S i 0 j := fun j _ => (if_neg (by omega)).symm
theorem rowN_skip (h : tabT q P S (i + 1) 0 = false) (n : Nat) : ∀ j, j < n → rowN q P S i 0 j = rowN q P S i 1 j := by
  intro j _
  unfold rowN
  rw [if_neg (by omega)]
  by_cases e : j < 1
  · obtain rfl : j = 0 := by omega
    rw [if_pos e, h]
  · rw [if_neg e]
theorem rowN_all (n : Nat) : ∀ j, j < n → rowN q P S i n j = tabT q P S (i + 1) j := fun j hj => if_pos hj
theorem tab_init : ∀ j, j < S.length + 1 → tabT q P S 0 j = if j = 0 then true else false := by
  intro j hj
  cases j with
  | zero => rfl
  | succ j => rw [if_neg (by omega)]; exact tab_0s (by omega)
end
theorem wpStill_skip {P : Program} {ops : Array Oper} {w : World} {Q : Act → Prop} {a : Act} {o : Oper} {rest : List Oper} (hw : Region.wanted o (yielded ops a.tmps) = false) (h : wpStill P ops w Q rest (a.put o.dst undef)) : wpStill P ops w Q (o :: rest) a := by
  unfold wpStill
  rw [if_neg (by rw [hw]; exact Bool.false_ne_true)]
  exact h
theorem eq42 {b : UInt8} (h : ((b.toNat : Int) == 42) = true) : b = 42 := by rw [u8_42, beq_iff_eq] at h; exact h
theorem still_of {P : Program} {f : FuncId} {args : Array Value} {w : World} {v : Value} (h : Calls P f args w fun e w' => e = .returned v ∧ w = w') : Calls P f args w fun e w' => e = .returned v ∧ w' = w := h.mono fun _ _ ⟨a, b⟩ => ⟨a, b.symm⟩
set_option maxRecDepth 100000 in
set_option maxHeartbeats 8000000 in
theorem rLike_any (P S : ByteArray) (p c : Int) (w : World) : Calls Try.prog 22 #[.string P, .string S, .int .i64 p, .int .i64 c] w (GiveBE (okT p c [P, S] (likeB P S p c)) (askC p c [P, S]) w) := by
  by_cases h : askC p c [P, S] = 0
  · have e1 : (askC p c [P, S] != 0) = false := by simp [h]
    have Fin : Hid (okT p c [P, S] (likeB P S p c) = likeB P S p c) := by unfold Hid okT; rw [if_pos h]
    have Fin2 := hid h
    have ho := ask_ok2 h
    have hpg := hid ho.2.2
    have hP := ho.1
    have hS := ho.2.1
    clear h ho
    have info4 : (Try.prog.info? 4).map (fun i => (i.zero, i.size, i.bytes)) = some (some (.bool false), 1, 1) := by kernel_rfl
    obtain ⟨i0, hi, hz0, hz1, hz2⟩ := info_partsT info4
    have mk : ∀ wx, (Instr.makeSlice 55 (.int .i64 ((S.size : Int) + 1)) (.int .i64 ((S.size : Int) + 1))).run Try.prog wx = .ok (.slice (some ⟨wx.heap.size, 0, none⟩) (S.size + 1) (S.size + 1)) (newT wx (S.size + 1)) := by
      intro wx
      have h := run_makeSlice (P := Try.prog) wx 55 4 i0 (.bool false) Try.underlying55 hi hz0 .i64 .i64 ((S.size + 1 : Nat) : Int) ((S.size + 1 : Nat) : Int) (by omega) (by omega) (by rw [hz1]; omega) (by rw [hz2]; omega) (by omega)
      rw [hz1] at h
      simp only [Int.toNat_natCast] at h
      exact h
    clear info4 hi hz0 hz1 hz2
    have hq : Hid (likeB P S p c = tabT (qW p c) P.data.toList S.data.toList P.size S.size) := tab_end.symm
    generalize hQ : qW p c = Q at hq
    have hQ := hid hQ
    go_enter Try.func22, Try.ntmps22
    go_wp2_with fail
    refine (rasked_any 2048 _ _ _ [P, S] c _ _ _ [p] _ (RdS.new2' w P S 9 (.cells #[.int .i64 p] 3)) (RdI.new1b w (.cells #[.string P, .string S] 9) p 3)).mono ?_
    rintro e w1 ⟨rfl, rfl⟩
    rw [askR_C]
    have hx1 := hid (((Ext.refl w).alloc_right (.cells #[.string P, .string S] 9)).alloc_right (.cells #[.int .i64 p] 3))
    generalize hw1 : (w.alloc (.cells #[.string P, .string S] 9)).alloc (.cells #[.int .i64 p] 3) = w1 at *
    clear hw1
    have hB0 := hid (newT_bb w1 (S.size + 1))
    have hE0 := hid (newT_ext w1 (S.size + 1))
    have hg := newT_lt w1 (S.size + 1)
    have c0 := (hB0.out 0 (by omega)).1
    have f0 := (hB0.out 0 (by omega)).2
    have hB1 := hid (hB0.out.set (k := 0) (b := true) (f' := tabT Q P.data.toList S.data.toList 0) tab_init)
    have hE1 := hid (hE0.out.set (p := ⟨w1.heap.size, 0, none⟩) (Nat.le_refl _) (.bool true))
    go_wp2_with fail
    go_loopw [11, 12] (fun vf vi wr => ∃ i g : Nat, i ≤ P.size ∧ vi = .int .i64 i ∧ vf = .slice (some ⟨g, 0, none⟩) (S.size + 1) (S.size + 1) ∧ Hid (Bb wr g (S.size + 1) (tabT Q P.data.toList S.data.toList i)) ∧ Hid (Ext w1 wr)) (fun _ vi _ => P.size - (intOf vi).toNat)
    case atStart => exact ⟨0, w1.heap.size, by omega, rfl, rfl, hB1, hE1⟩
    case round =>
      clear hB0 hE0 hg c0 f0 hB1 hE1
      obtain ⟨i, g, hip, rfl, rfl, hf, hx⟩ := hrel
      rename World => w0
      by_cases hlt : i < P.size
      · have b1 : decide ((i : Int) < (P.size : Int)) = true := by simp; omega
        have hB0 := hid (newT_bb w0 (S.size + 1))
        have hE0 := hid (newT_ext w0 (S.size + 1))
        have hfn := hid (hf.out.ext hE0.out)
        have hgl := World.block_lt_of_cell? w0 _ (hf.out 0 (by omega)).1
        have hg := newT_lt w0 (S.size + 1)
        have hN0 := hid (hB0.out.congr (rowN_zero (q := Q) (P := P.data.toList) (S := S.data.toList) (i := i) (S.size + 1)))
        clear hB0
        go_wp2_with fail
        go_loopw [14] (fun vk wr => ∃ k : Nat, k ≤ S.size + 1 ∧ vk = .int .i64 k ∧ Hid (Bb wr w0.heap.size (S.size + 1) (rowN Q P.data.toList S.data.toList i k)) ∧ Hid (Ext w0 wr)) (fun vk _ => S.size + 1 - (intOf vk).toNat)
        case atStart => exact ⟨0, by omega, rfl, hN0, hE0⟩
        case round =>
          clear hN0 hE0 hg hfn
          obtain ⟨k, hk, rfl, hn, hx2⟩ := hrel
          by_cases hlk : k ≤ S.size
          · have b2 : decide ((k : Int) ≤ (S.size : Int)) = true := by simp; omega
            have hf2 := hid (hf.out.ext hx2.out)
            have cf := (hf2.out k (by omega)).1
            have cn := (hn.out k (by omega)).1
            have fn := (hn.out k (by omega)).2
            have lg : g < wr.heap.size := World.block_lt_of_cell? wr _ cf
            have ln : w0.heap.size < wr.heap.size := World.block_lt_of_cell? wr _ cn
            have r1 : (P[i].toNat : Int) ≤ 255 := by have := P[i].toNat_lt; omega
            rcases Bool.eq_false_or_eq_true ((P[i].toNat : Int) == 42) with h42 | h42
            · have hp42 := hid (show P.data.toList[i]'hlt = 42 from eq42 h42)
              rcases Nat.eq_zero_or_pos k with rfl | hk0
              · rcases Bool.eq_false_or_eq_true (tabT Q P.data.toList S.data.toList i 0) with hA | hA
                · rw [hA] at cf
                  have hv := hid ((tab_star0 (q := Q) (P := P.data.toList) (S := S.data.toList) hlt hp42.out).trans hA)
                  have hb2 := hid (Bb.set (w := wr) (k := 0) (b := true) hn.out (rowN_set hv.out (S.size + 1)))
                  have hx3 := hid (hx2.out.set (p := ⟨w0.heap.size, 0, none⟩) (Nat.le_refl _) (.bool true))
                  clear hA
                  go_wp2
                  go_roundw
                  case rel => exact ⟨0 + 1, by omega, by go_num, hb2, hx3⟩
                  case measure => simp [intOf] <;> omega
                · rw [hA] at cf
                  have hv := hid ((tab_star0 (q := Q) (P := P.data.toList) (S := S.data.toList) hlt hp42.out).trans hA)
                  have hb2 := hid (Bb.set (w := wr) (k := 0) (b := false) hn.out (rowN_set hv.out (S.size + 1)))
                  have hx3 := hid (hx2.out.set (p := ⟨w0.heap.size, 0, none⟩) (Nat.le_refl _) (.bool false))
                  clear hA
                  go_wp2
                  go_roundw
                  case rel => exact ⟨0 + 1, by omega, by go_num, hb2, hx3⟩
                  case measure => simp [intOf] <;> omega
              · obtain ⟨j, rfl⟩ : ∃ j, k = j + 1 := ⟨k - 1, by omega⟩
                have t0 : decide ((0 : Int) < ((j + 1 : Nat) : Int)) = true := by simp
                have t1 : (((j + 1 : Nat) : Int) == 0) = false := by rw [beq_eq_false_iff_ne]; omega
                have ej : ((j + 1 : Nat) : Int) - 1 = (j : Int) := by omega
                have ew : IntKind.i64.wrap (((j + 1 : Nat) : Int) - 1) = (j : Int) := by rw [ej]; exact IntWalk.i64_in _ (by omega)
                have cj := (hn.out j (by omega)).1
                rw [rowN_at (by omega)] at cj
                have hs := hid (tab_star (q := Q) (P := P.data.toList) (S := S.data.toList) hlt hp42.out (k := j) (show j < S.size by omega))
                rcases Bool.eq_false_or_eq_true (tabT Q P.data.toList S.data.toList i (j + 1)) with hA | hA
                · rw [hA] at cf
                  have hv := hid (hs.out.trans (by rw [hA]; try rfl))
                  have hb2 := hid (Bb.set (w := wr) (k := (j + 1)) (b := true) hn.out (rowN_set hv.out (S.size + 1)))
                  have hx3 := hid (hx2.out.set (p := ⟨w0.heap.size, (j + 1), none⟩) (Nat.le_refl _) (.bool true))
                  clear hA cj
                  go_wp2
                  go_roundw
                  case rel => exact ⟨(j + 1) + 1, by omega, by go_num, hb2, hx3⟩
                  case measure => simp [intOf] <;> omega
                · rw [hA] at cf
                  rcases Bool.eq_false_or_eq_true (tabT Q P.data.toList S.data.toList (i + 1) j) with hC | hC
                  · rw [hC] at cj
                    have hv := hid (hs.out.trans (by rw [hA, hC]; try rfl))
                    have hb2 := hid (Bb.set (w := wr) (k := (j + 1)) (b := true) hn.out (rowN_set hv.out (S.size + 1)))
                    have hx3 := hid (hx2.out.set (p := ⟨w0.heap.size, (j + 1), none⟩) (Nat.le_refl _) (.bool true))
                    clear hA hC
                    go_wp2
                    go_roundw
                    case rel => exact ⟨(j + 1) + 1, by omega, by go_num, hb2, hx3⟩
                    case measure => simp [intOf] <;> omega
                  · rw [hC] at cj
                    have hv := hid (hs.out.trans (by rw [hA, hC]; try rfl))
                    have hb2 := hid (Bb.set (w := wr) (k := (j + 1)) (b := false) hn.out (rowN_set hv.out (S.size + 1)))
                    have hx3 := hid (hx2.out.set (p := ⟨w0.heap.size, (j + 1), none⟩) (Nat.le_refl _) (.bool false))
                    clear hA hC
                    go_wp2
                    go_roundw
                    case rel => exact ⟨(j + 1) + 1, by omega, by go_num, hb2, hx3⟩
                    case measure => simp [intOf] <;> omega
            · have hp42 := hid (show P.data.toList[i]'hlt ≠ 42 from ne42 h42)
              rcases Nat.eq_zero_or_pos k with rfl | hk0
              · have hv := hid (tab_step0 (q := Q) (P := P.data.toList) (S := S.data.toList) hlt hp42.out)
                have hb2 := hid (hn.out.congr (rowN_skip hv.out (S.size + 1)))
                go_wp2
                go_roundw
                case rel => exact ⟨0 + 1, by omega, by go_num, hb2, hx2⟩
                case measure => simp [intOf] <;> omega
              · obtain ⟨j, rfl⟩ : ∃ j, k = j + 1 := ⟨k - 1, by omega⟩
                have t0 : decide ((0 : Int) < ((j + 1 : Nat) : Int)) = true := by simp
                have t1 : (((j + 1 : Nat) : Int) == 0) = false := by rw [beq_eq_false_iff_ne]; omega
                have ej : ((j + 1 : Nat) : Int) - 1 = (j : Int) := by omega
                have ew : IntKind.i64.wrap (((j + 1 : Nat) : Int) - 1) = (j : Int) := by rw [ej]; exact IntWalk.i64_in _ (by omega)
                have cj := (hf2.out j (by omega)).1
                have hs := hid (tab_step (q := Q) (P := P.data.toList) (S := S.data.toList) hlt hp42.out (k := j) (show j < S.size by omega))
                rcases Bool.eq_false_or_eq_true ((P[i].toNat : Int) == 63) with h63 | h63
                · have h63' := hid (show (P.data.toList[i]'hlt == 63) = true from (u8_63 _).symm.trans h63)
                  rcases Bool.eq_false_or_eq_true (tabT Q P.data.toList S.data.toList i j) with hA | hA
                  · rw [hA] at cj
                    have hv := hid (hs.out.trans (by rw [hA, h63'.out]; try rfl))
                    have hb2 := hid (Bb.set (w := wr) (k := (j + 1)) (b := true) hn.out (rowN_set hv.out (S.size + 1)))
                    have hx3 := hid (hx2.out.set (p := ⟨w0.heap.size, (j + 1), none⟩) (Nat.le_refl _) (.bool true))
                    clear hA
                    go_wp2
                    go_roundw
                    case rel => exact ⟨(j + 1) + 1, by omega, by go_num, hb2, hx3⟩
                    case measure => simp [intOf] <;> omega
                  · rw [hA] at cj
                    have hv := hid (hs.out.trans (by rw [hA, h63'.out]; try rfl))
                    have hb2 := hid (Bb.set (w := wr) (k := (j + 1)) (b := false) hn.out (rowN_set hv.out (S.size + 1)))
                    have hx3 := hid (hx2.out.set (p := ⟨w0.heap.size, (j + 1), none⟩) (Nat.le_refl _) (.bool false))
                    clear hA
                    go_wp2
                    go_roundw
                    case rel => exact ⟨(j + 1) + 1, by omega, by go_num, hb2, hx3⟩
                    case measure => simp [intOf] <;> omega
                · have h63' := hid (show (P.data.toList[i]'hlt == 63) = false from (u8_63 _).symm.trans h63)
                  have r2 : (S[j].toNat : Int) ≤ 255 := by have := S[j].toNat_lt; omega
                  have hqe := hid (show Q (P.data.toList[i]'hlt) (S.data.toList[j]'(show j < S.size by omega)) = (weightS (P[i].toNat : Int) p c == weightS (S[j].toNat : Int) p c) from by rw [← hQ.out]; try rfl)
                  rcases Bool.eq_false_or_eq_true (tabT Q P.data.toList S.data.toList i j) with hA | hA
                  · rw [hA] at cj
                    rcases Bool.eq_false_or_eq_true (weightS (P[i].toNat : Int) p c == weightS (S[j].toNat : Int) p c) with hw | hw
                    · have hv := hid (hs.out.trans (by rw [hA, h63'.out, hqe.out, hw]; try rfl))
                      have hb2 := hid (Bb.set (w := wr.drew) (k := (j + 1)) (b := true) (show Bb wr.drew _ _ _ from hn.out) (rowN_set hv.out (S.size + 1)))
                      have hx3 := hid ((hx2.out.drew_right).set (p := ⟨w0.heap.size, (j + 1), none⟩) (Nat.le_refl _) (.bool true))
                      clear hA
                      have ewj : IntKind.i64.wrap (j : Int) = (j : Int) := IntWalk.i64_in _ (by omega)
                      have hjl : (j : Int) < (S.size : Int) + 1 := by omega
                      have hjs : (j : Int) < (S.size : Int) := by omega
                      have hj0 : (0 : Int) ≤ (j : Int) + 1 := by omega
                      have hil : (i : Int) < (P.size : Int) := by omega
                      go_wp2
                      refine wp_region_still_tail 24 (by kernel_rfl) (by kernel_rfl) ?_
                      simp only [List.take_succ_cons, List.take_zero, List.drop_succ_cons, List.drop_zero]
                      repeat (first | (with_reducible refine wpStill_step (fun K hK => ?_); go_simp; with_reducible refine hK _ ?_; clear hK K) | still_call (still_of (rweight_any _ _ _ hpg.out _ (by omega) (by assumption))))
                      with_reducible refine wpStill_nil ?_
                      change wpList _ _ _ _ _ wr.drew
                      go_wp2
                      go_roundw
                      case rel => exact ⟨(j + 1) + 1, by omega, by go_num, hb2, hx3⟩
                      case measure => simp [intOf] <;> omega
                    · have hv := hid (hs.out.trans (by rw [hA, h63'.out, hqe.out, hw]; try rfl))
                      have hb2 := hid (Bb.set (w := wr.drew) (k := (j + 1)) (b := false) (show Bb wr.drew _ _ _ from hn.out) (rowN_set hv.out (S.size + 1)))
                      have hx3 := hid ((hx2.out.drew_right).set (p := ⟨w0.heap.size, (j + 1), none⟩) (Nat.le_refl _) (.bool false))
                      clear hA
                      have ewj : IntKind.i64.wrap (j : Int) = (j : Int) := IntWalk.i64_in _ (by omega)
                      have hjl : (j : Int) < (S.size : Int) + 1 := by omega
                      have hjs : (j : Int) < (S.size : Int) := by omega
                      have hj0 : (0 : Int) ≤ (j : Int) + 1 := by omega
                      have hil : (i : Int) < (P.size : Int) := by omega
                      go_wp2
                      refine wp_region_still_tail 24 (by kernel_rfl) (by kernel_rfl) ?_
                      simp only [List.take_succ_cons, List.take_zero, List.drop_succ_cons, List.drop_zero]
                      repeat (first | (with_reducible refine wpStill_step (fun K hK => ?_); go_simp; with_reducible refine hK _ ?_; clear hK K) | still_call (still_of (rweight_any _ _ _ hpg.out _ (by omega) (by assumption))))
                      with_reducible refine wpStill_nil ?_
                      change wpList _ _ _ _ _ wr.drew
                      go_wp2
                      go_roundw
                      case rel => exact ⟨(j + 1) + 1, by omega, by go_num, hb2, hx3⟩
                      case measure => simp [intOf] <;> omega
                  · rw [hA] at cj
                    have hv := hid (hs.out.trans (by rw [hA, Bool.and_false]))
                    have hb2 := hid (Bb.set (w := wr.drew) (k := (j + 1)) (b := false) (show Bb wr.drew _ _ _ from hn.out) (rowN_set hv.out (S.size + 1)))
                    have hx3 := hid ((hx2.out.drew_right).set (p := ⟨w0.heap.size, (j + 1), none⟩) (Nat.le_refl _) (.bool false))
                    clear hA
                    have ewj : IntKind.i64.wrap (j : Int) = (j : Int) := IntWalk.i64_in _ (by omega)
                    have hjl : (j : Int) < (S.size : Int) + 1 := by omega
                    have hjs : (j : Int) < (S.size : Int) := by omega
                    have hj0 : (0 : Int) ≤ (j : Int) + 1 := by omega
                    have hil : (i : Int) < (P.size : Int) := by omega
                    go_wp2
                    refine wp_region_still_tail 24 (by kernel_rfl) (by kernel_rfl) ?_
                    simp only [List.take_succ_cons, List.take_zero, List.drop_succ_cons, List.drop_zero]
                    iterate 8 (with_reducible refine wpStill_step (fun K hK => ?_); go_simp; with_reducible refine hK _ ?_; clear hK K)
                    iterate 14 (with_reducible refine wpStill_skip ?_ ?_; kernel_rfl)
                    iterate 2 (with_reducible refine wpStill_step (fun K hK => ?_); go_simp; with_reducible refine hK _ ?_; clear hK K)
                    with_reducible refine wpStill_nil ?_
                    change wpList _ _ _ _ _ wr.drew
                    go_wp2
                    go_roundw
                    case rel => exact ⟨(j + 1) + 1, by omega, by go_num, hb2, hx3⟩
                    case measure => simp [intOf] <;> omega
          · have b2 : decide ((k : Int) ≤ (S.size : Int)) = false := by simp; omega
            obtain rfl : k = S.size + 1 := by omega
            have hb2 := hid (hn.out.congr (rowN_all (S.size + 1)))
            have hx3 := hid (hx.out.trans hx2.out)
            go_wp2
            go_roundw
            case rel => exact ⟨i + 1, w0.heap.size, by omega, by go_num, rfl, hb2, hx3⟩
            case measure => simp [intOf] <;> omega
      · obtain rfl : i = P.size := by omega
        have cf := (hf.out S.size (by omega)).1
        have lg : g < w0.heap.size := World.block_lt_of_cell? w0 _ cf
        rw [← hq.out] at cf
        go_wp2
        go_ret2
        exact ⟨by rw [Fin.out, Fin2.out]; rfl, hx1.out.trans hx.out⟩
  · have e1 : (askC p c [P, S] != 0) = true := by simp [h]
    have Fin : Hid (okT p c [P, S] (likeB P S p c) = false) := by unfold Hid okT; rw [if_neg h]
    clear h
    go_enter Try.func22, Try.ntmps22
    go_wp2_with fail
    refine (rasked_any 2048 _ _ _ [P, S] c _ _ _ [p] _ (RdS.new2' w P S 9 (.cells #[.int .i64 p] 3)) (RdI.new1b w (.cells #[.string P, .string S] 9) p 3)).mono ?_
    rintro e w1 ⟨rfl, rfl⟩
    rw [askR_C]
    go_wp2
    go_ret2
    exact ⟨by rw [Fin.out]; rfl, ((Ext.refl w).alloc_right _).alloc_right _⟩
end Go.Proofs.Ytlhnabkfacmmnaa
