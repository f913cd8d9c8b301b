/-
  The laws of the values of keys.
-/
import Derived.Test.YtlfanhlkoepodaaDoorK16
import Derived.Test.YtlfanhlkoepodaaDoorK7
namespace Go.Proofs.YtlfanhlkoepodaaDoor
open Go.RowKit
set_option linter.unusedVariables false
set_option linter.unusedSimpArgs false
def SomePg (e : Ending) : Prop := ∃ p c, Co p c ∧ e = .returned (.tuple #[.int .i64 p, .int .i64 c])
set_option maxRecDepth 100000 in
set_option maxHeartbeats 4000000 in
theorem page_any (n : Int) (hn : WfI n) (w : World) : Calls Tryd.prog 19 #[.int .i64 n] w fun e w' => SomePg e ∧ w = w' := by
  obtain ⟨n1, n2⟩ := hn
  have h1 : -5 ≤ n.tmod 6 ∧ n.tmod 6 ≤ 5 := by
    rcases Int.le_total 0 n with h | h
    · rw [Int.tmod_eq_emod_of_nonneg h]; omega
    · have := Int.neg_tmod (-n) 6
      rw [Int.neg_neg] at this
      rw [this, Int.tmod_eq_emod_of_nonneg (by omega)]
      omega
  have h2 := h1.1
  have h3 := h1.2
  clear h1
  have ew : IntKind.i64.wrap (n.tmod 6) = n.tmod 6 := IntWalk.i64_in _ (by omega)
  have ew2 : wrap64 (n.tmod 6) = n.tmod 6 := IntWalk.wrap64_in _ ⟨by omega, by omega⟩
  go_enter Tryd.func19, Tryd.ntmps19
  go_wp2
  go_ret2
  refine ⟨⟨_, _, ?_, rfl⟩, rfl⟩
  unfold Co Pg.Pg
  omega
set_option maxRecDepth 100000 in
set_option maxHeartbeats 4000000 in
theorem decodes_law (k : ByteArray) (d : Bool) (w : World) (hs : k.size ≤ 140737488351232) (hm : ML w) : Calls Tryd.prog 9 #[.string k, .bool d] w (Give (.bool true) w) := by
  replace hm := hid hm
  by_cases hl : 40000 < k.size
  · have d1 : decide ((40000 : Int) < (k.size : Int)) = true := by simp; omega
    clear hl
    go_enter Tryd.func9, Tryd.ntmps9
    go_wp2_with fail
    refine (known_any _ (hm.out.ext (Ext.refl w))).mono ?_
    rintro e w1 ⟨rfl, hx1⟩
    go_wp2
    go_ret
    exact ⟨rfl, ((Ext.refl w)).trans hx1⟩
  have d1 : decide ((40000 : Int) < (k.size : Int)) = false := by simp; omega
  have c1 := hid (fun w => Decode_any k d (by omega) w)
  have c2 := hid (fun w => rDecode_any k d (by omega) w)
  clear hl
  generalize decL (turnS d k).toList = R at *
  cases R with
  | none =>
    have sv := hid (fun w => SameV_any 0 0 { data := #[] } w)
    unfold vV at sv
    go_enter Tryd.func9, Tryd.ntmps9
    go_wp2_with fail
    refine (c1.out _).mono ?_
    rintro e w1 ⟨rfl, hx1⟩
    unfold vV
    go_upto_region 4 with fail
    have u0 : (w1.alloc (.cells #[.int .i64 0, .int .i64 0, .string { data := #[] }] 23)).cell? ⟨w1.heap.size, 0, none⟩ = some (.int .i64 0) := by go_simp
    have u1 : (w1.alloc (.cells #[.int .i64 0, .int .i64 0, .string { data := #[] }] 23)).cell? ⟨w1.heap.size, 1, none⟩ = some (.int .i64 0) := by go_simp
    have u2 : (w1.alloc (.cells #[.int .i64 0, .int .i64 0, .string { data := #[] }] 23)).cell? ⟨w1.heap.size, 2, none⟩ = some (.string { data := #[] }) := by go_simp
    have hE := hid (hx1.alloc_right (.cells #[.int .i64 0, .int .i64 0, .string { data := #[] }] 23))
    generalize w1.alloc (.cells #[.int .i64 0, .int .i64 0, .string { data := #[] }] 23) = w2 at *
    clear hx1
    go_wp2_with fail
    refine (c2.out _).mono ?_
    rintro e w3 ⟨rfl, hx3⟩
    unfold vV
    replace u0 := hx3.cell u0
    replace u1 := hx3.cell u1
    replace u2 := hx3.cell u2
    replace hE := hid (hE.out.trans hx3)
    clear hx3
    go_upto_region 5 with fail
    have x0 : (w3.alloc (.cells #[.int .i64 0, .int .i64 0, .string { data := #[] }] 23)).cell? ⟨w3.heap.size, 0, none⟩ = some (.int .i64 0) := by go_simp
    have x1 : (w3.alloc (.cells #[.int .i64 0, .int .i64 0, .string { data := #[] }] 23)).cell? ⟨w3.heap.size, 1, none⟩ = some (.int .i64 0) := by go_simp
    have x2 : (w3.alloc (.cells #[.int .i64 0, .int .i64 0, .string { data := #[] }] 23)).cell? ⟨w3.heap.size, 2, none⟩ = some (.string { data := #[] }) := by go_simp
    replace u0 := cell_alloc u0 (.cells #[.int .i64 0, .int .i64 0, .string { data := #[] }] 23)
    replace u1 := cell_alloc u1 (.cells #[.int .i64 0, .int .i64 0, .string { data := #[] }] 23)
    replace u2 := cell_alloc u2 (.cells #[.int .i64 0, .int .i64 0, .string { data := #[] }] 23)
    replace hE := hid (hE.out.alloc_right (.cells #[.int .i64 0, .int .i64 0, .string { data := #[] }] 23))
    generalize w3.alloc (.cells #[.int .i64 0, .int .i64 0, .string { data := #[] }] 23) = w4 at *
    have lt1 : w1.heap.size < w4.heap.size := World.block_lt_of_cell? w4 _ u0
    have lt3 : w3.heap.size < w4.heap.size := World.block_lt_of_cell? w4 _ x0
    go_wp2_with fail
    refine (sv.out _).mono ?_
    rintro e w5 ⟨rfl, hx5⟩
    replace hE := hid (hE.out.trans hx5)
    clear hx5 u0 u1 u2 x0 x1 x2 lt1 lt3
    go_wp2_with fail
    refine (known_any _ (hm.out.ext hE.out)).mono ?_
    rintro e w6 ⟨rfl, hx6⟩
    go_wp2
    go_ret
    exact ⟨rfl, (hE.out).trans hx6⟩
  | some x =>
    obtain ⟨k', n', t⟩ := x
    have sv := hid (fun w => SameV_any k' n' (strB t) w)
    unfold vV at sv
    go_enter Tryd.func9, Tryd.ntmps9
    go_wp2_with fail
    refine (c1.out _).mono ?_
    rintro e w1 ⟨rfl, hx1⟩
    unfold vV
    go_upto_region 4 with fail
    have u0 : (w1.alloc (.cells #[.int .i64 k', .int .i64 n', .string (strB t)] 23)).cell? ⟨w1.heap.size, 0, none⟩ = some (.int .i64 k') := by go_simp
    have u1 : (w1.alloc (.cells #[.int .i64 k', .int .i64 n', .string (strB t)] 23)).cell? ⟨w1.heap.size, 1, none⟩ = some (.int .i64 n') := by go_simp
    have u2 : (w1.alloc (.cells #[.int .i64 k', .int .i64 n', .string (strB t)] 23)).cell? ⟨w1.heap.size, 2, none⟩ = some (.string (strB t)) := by go_simp
    have hE := hid (hx1.alloc_right (.cells #[.int .i64 k', .int .i64 n', .string (strB t)] 23))
    generalize w1.alloc (.cells #[.int .i64 k', .int .i64 n', .string (strB t)] 23) = w2 at *
    clear hx1
    go_wp2_with fail
    refine (c2.out _).mono ?_
    rintro e w3 ⟨rfl, hx3⟩
    unfold vV
    replace u0 := hx3.cell u0
    replace u1 := hx3.cell u1
    replace u2 := hx3.cell u2
    replace hE := hid (hE.out.trans hx3)
    clear hx3
    go_upto_region 5 with fail
    have x0 : (w3.alloc (.cells #[.int .i64 k', .int .i64 n', .string (strB t)] 23)).cell? ⟨w3.heap.size, 0, none⟩ = some (.int .i64 k') := by go_simp
    have x1 : (w3.alloc (.cells #[.int .i64 k', .int .i64 n', .string (strB t)] 23)).cell? ⟨w3.heap.size, 1, none⟩ = some (.int .i64 n') := by go_simp
    have x2 : (w3.alloc (.cells #[.int .i64 k', .int .i64 n', .string (strB t)] 23)).cell? ⟨w3.heap.size, 2, none⟩ = some (.string (strB t)) := by go_simp
    replace u0 := cell_alloc u0 (.cells #[.int .i64 k', .int .i64 n', .string (strB t)] 23)
    replace u1 := cell_alloc u1 (.cells #[.int .i64 k', .int .i64 n', .string (strB t)] 23)
    replace u2 := cell_alloc u2 (.cells #[.int .i64 k', .int .i64 n', .string (strB t)] 23)
    replace hE := hid (hE.out.alloc_right (.cells #[.int .i64 k', .int .i64 n', .string (strB t)] 23))
    generalize w3.alloc (.cells #[.int .i64 k', .int .i64 n', .string (strB t)] 23) = w4 at *
    have lt1 : w1.heap.size < w4.heap.size := World.block_lt_of_cell? w4 _ u0
    have lt3 : w3.heap.size < w4.heap.size := World.block_lt_of_cell? w4 _ x0
    go_wp2_with fail
    refine (sv.out _).mono ?_
    rintro e w5 ⟨rfl, hx5⟩
    replace hE := hid (hE.out.trans hx5)
    clear hx5 u0 u1 u2 x0 x1 x2 lt1 lt3
    go_wp2_with fail
    refine (known_any _ (hm.out.ext hE.out)).mono ?_
    rintro e w6 ⟨rfl, hx6⟩
    go_wp2
    go_ret
    exact ⟨rfl, (hE.out).trans hx6⟩
end Go.Proofs.YtlfanhlkoepodaaDoor
