/-
  put and get of numbers of bytes.
-/
import Derived.Test.YtcgjhloiokpicaaNa
namespace Go.Proofs.Ytcgjhloiokpicaa
open Go.RowKit Go.Shelf
set_option linter.unusedVariables false
set_option linter.unusedSimpArgs false
theorem splice_set {α : Type} {cur L : List α} {o : Nat} (v : α) (h : o + L.length < cur.length) : (splice cur o L).set (o + L.length) v = splice cur o (L ++ [v]) := by
  have ho : (cur.take o).length = o := by rw [List.length_take]; omega
  unfold splice
  rw [List.set_append_right _ _ (by omega), ho, show o + L.length - o = L.length by omega, List.set_append_right _ _ (Nat.le_refl _), Nat.sub_self]
  have hd : cur.drop (o + L.length) = cur[o + L.length] :: cur.drop (o + L.length + 1) := List.drop_eq_getElem_cons h
  rw [hd, List.set_cons_zero, List.length_append, List.length_singleton, List.append_assoc, List.singleton_append, Nat.add_assoc]
theorem splice_nil {α : Type} (cur : List α) (o : Nat) : splice cur o [] = cur := by unfold splice; simp
/-- A cell of a row turns (the row as a list). -/
theorem setCell_row {w : World} {g o : Nat} {cur : List Value} {t : TypeId} (hg : w.heap[g]? = some (.cells cur.toArray t (0, 0))) (v : Value) : (w.setCell ⟨g, o, none⟩ v).heap[g]? = some (.cells (cur.set o v).toArray t (0, 0)) := by
  simp [World.setCell, Array.getElem?_modify, hg]
theorem row_at {w : World} {g o : Nat} {cur : List Value} {t : TypeId} (hg : w.heap[g]? = some (.cells cur.toArray t (0, 0))) (h : o < cur.length) : ∃ u, w.cell? ⟨g, o, none⟩ = some u := by
  refine ⟨cur[o], ?_⟩
  rw [cell_of_row w g o cur.toArray t (0, 0) hg]
  simp [h]
def leN (m : Nat) (n : Int) : List Int := (le4 n).take m
theorem bysle_len (k : Nat) (n : Int) (hk : k ≤ 4) : (bys ((le4 n).take k)).length = k := by rw [bys_len, List.length_take]; simp [le4]; omega
set_option maxRecDepth 100000 in
set_option maxHeartbeats 4000000 in
theorem bput_any (g o m c : Nat) (n : Int) (cur : List Value) (w : World) (hm : m ≤ 4) (hmc : m ≤ c) (hc : c ≤ 9223372036854775807) (h0 : 0 ≤ n) (h1 : n ≤ 2147483647) (hfit : o + m ≤ cur.length) (hg : Hid (w.heap[g]? = some (.cells cur.toArray 5 (0, 0)))) :
    Calls Try.prog 43 #[.slice (some ⟨g, o, none⟩) m c, .int .i64 n] w fun e w' => e = .returned (.tuple #[]) ∧ Hid (w'.heap[g]? = some (.cells (splice cur o (bys ((le4 n).take m))).toArray 5 (0, 0))) ∧ Hid (w.grownBy w' (some g)) := by
  have hbl := hid (fun k => bysle_len k n)
  go_enter Try.func43, Try.ntmps43
  go_wp2_with fail
  go_loopw [7] (fun i wr => ∃ k : Nat, k ≤ m ∧ i = .int .i64 k ∧ Hid (wr.heap[g]? = some (.cells (splice cur o (bys ((le4 n).take k))).toArray 5 (0, 0))) ∧ Hid (w.grownBy wr (some g))) (fun i _ => m - (intOf i).toNat)
  case atStart => exact ⟨0, by omega, rfl, by rw [List.take_zero, show bys [] = [] from rfl, splice_nil]; exact hg, ⟨rfl, rfl, rfl, Nat.le_refl _, fun _ _ _ => rfl⟩⟩
  case round =>
    obtain ⟨k, hk, rfl, hgr, hr⟩ := hrel
    by_cases hlt : k < m
    · have hl := hbl.out k (by omega)
      have hspl : (splice cur o (bys ((le4 n).take k))).length = cur.length := length_splice _ _ _ (by omega)
      obtain ⟨ov, hov⟩ := row_at hgr.out (o := o + k) (by omega)
      have hfz := Lib.frozen_of_heap hgr.out (o + k)
      have lgr := World.block_lt_of_cell? wr _ hov
      dsimp only at lgr
      have hkk : (k : Int) < (m : Int) := by omega
      have hst : Hid (∀ x : Int, (le4 n)[k]? = some x → (wr.setCell ⟨g, o + k, none⟩ (.int .u8 x)).heap[g]? = some (.cells (splice cur o (bys ((le4 n).take (k + 1)))).toArray 5 (0, 0))) := by
        intro x hx
        have e := splice_set (cur := cur) (o := o) (L := bys ((le4 n).take k)) (.int .u8 x) (by omega)
        rw [hl] at e
        have e2 : bys ((le4 n).take (k + 1)) = bys ((le4 n).take k) ++ [.int .u8 x] := by
          rw [List.take_add_one, hx, bys_append]
          rfl
        rw [e2, ← e]
        exact setCell_row hgr.out _
      have hr2 : Hid (∀ x : Value, w.grownBy (wr.setCell ⟨g, o + k, none⟩ x) (some g)) := fun x => ⟨hr.out.os, hr.out.tape, hr.out.output, by simpa using hr.out.size, fun j hj hne => (heap_setCell_other _ _ j _ (fun e => hne (by rw [e]))).trans (hr.out.block j hj hne)⟩
      clear hl hspl hgr hbl
      have hmm : m ≤ 4 := hm
      obtain rfl | rfl | rfl | rfl : k = 0 ∨ k = 1 ∨ k = 2 ∨ k = 3 := by omega
      · have hS := hid (hst.out (n % 256) rfl)
        have hR := hid (hr2.out (.int .u8 (n % 256)))
        have hw8 : IntKind.u8.wrap (n) = n % 256 := IntKind.wrap_u8 _
        clear hst hr2
        rw [Nat.add_zero] at hov hfz hS hR
        have hfz2 := hfz
        go_wp2_with fail
        go_roundw
        case rel => exact ⟨0 + 1, by omega, by go_num, hS, hR⟩
        case measure => simp [intOf]; omega
      · have hS := hid (hst.out (n / 256 % 256) rfl)
        have hR := hid (hr2.out (.int .u8 (n / 256 % 256)))
        have hw8 : IntKind.u8.wrap (n / 256) = n / 256 % 256 := IntKind.wrap_u8 _
        clear hst hr2
        skip
        have hfz2 := hfz
        go_wp2_with fail
        go_roundw
        case rel => exact ⟨1 + 1, by omega, by go_num, hS, hR⟩
        case measure => simp [intOf]; omega
      · have hS := hid (hst.out (n / 65536 % 256) rfl)
        have hR := hid (hr2.out (.int .u8 (n / 65536 % 256)))
        have hw8 : IntKind.u8.wrap (n / 65536) = n / 65536 % 256 := IntKind.wrap_u8 _
        clear hst hr2
        skip
        have hfz2 := hfz
        go_wp2_with fail
        go_roundw
        case rel => exact ⟨2 + 1, by omega, by go_num, hS, hR⟩
        case measure => simp [intOf]; omega
      · have hS := hid (hst.out (n / 16777216 % 256) rfl)
        have hR := hid (hr2.out (.int .u8 (n / 16777216 % 256)))
        have hw8 : IntKind.u8.wrap (n / 16777216) = n / 16777216 % 256 := IntKind.wrap_u8 _
        clear hst hr2
        skip
        have hfz2 := hfz
        go_wp2_with fail
        go_roundw
        case rel => exact ⟨3 + 1, by omega, by go_num, hS, hR⟩
        case measure => simp [intOf]; omega
    · obtain rfl : k = m := by omega
      go_wp2
      go_end0
      exact ⟨rfl, hgr, hr⟩
end Go.Proofs.Ytcgjhloiokpicaa
