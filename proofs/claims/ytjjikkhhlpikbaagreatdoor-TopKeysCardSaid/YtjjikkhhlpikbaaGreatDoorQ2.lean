/-
  Encode, the program and the reference; Numbers of bytes as the program reads them (they wrap), and the values of keys. No program in sight but the kinds of values; Ported contracts (Pg15); Ported contracts (Va4, Vb3); Rows of memory, copies, and regions that draw their order, taken step by step: bound to no program; The key of a value: the program and the reference; The numbers under which this program holds the library's mutex, and that it holds it; The order of keys is that of the values. No program in sight; The order of keys is that of the values; the first bytes of a text; The values of keys. No program in sight but the kinds of values; The weights of a text in a key, and what is asked of a page and a collation: the program and the reference; What is above a text, and the shortest text between two. No program in sight; before: which of two values stands first, by what the program says of them.
-/
import Derived.Test.YtjjikkhhlpikbaaGreatDoorQ1
import Derived.Lib.CountLaws
import Derived.Lib.Bytealg
import Derived.Deep.DeepCutAuto
import Derived.Deep.DrawnRows
import Derived.Laws.EntriesVeiled
import Derived.Deep.RegionHeld3
import Derived.WalkKit
import Derived.Test.YtjjikkhhlpikbaaGreatDoorProg
import Derived.Conc.RwLib
import Derived.Conc.MuData
import Derived.Conc.MuLone
import Derived.KernelRfl
import Derived.BigQuiet
import Derived.Deep.Cut
import Derived.Deep.MidRow
import Derived.Deep.RegionLaw
import Derived.IntWalk
import Derived.Laws.BytesArg
import Derived.Laws.CopyOwn
import Derived.Laws.CopyRow
import Derived.Laws.IdiomStrings
import Derived.Laws.OwnMore
import Derived.Lib.AppendZerosOnto
import Derived.Lib.Bytes
import Derived.Lib.Overlaps
import Derived.Lib.SliceRun
import Derived.LoopIn
import Derived.LoopNIn
import Derived.OrdersHeld
import Derived.OwnWalkIn
import Derived.RangeFuncBound
import Derived.RangeFuncBox
import Derived.RangeFuncCalls
import Derived.RangeFuncLeaves
import Derived.RangeFuncNested
import Derived.Shelf.Abstract
import Derived.Shelf.RegionOpen
import Derived.TacticsInMore
import Derived.Lib.Strings
import Derived.Lib.Slices
import Derived.Lib.Walk
set_option maxRecDepth 100000
set_option maxHeartbeats 40000000
set_option linter.unusedVariables false
set_option linter.unusedSimpArgs false
namespace Go.Proofs.YtjjikkhhlpikbaaGreatDoor.Ky
open Go.RowKit
attribute [local go_sem] Pg.conv_new
theorem esc_swL : ∀ (n : Nat) (l : List UInt8), l.length ≤ n → swL [0] [0, 1] l = escL l
  | _, [], _ => swL_nil
  | 0, _ :: _, h => by simp at h
  | n + 1, b :: l, h => by
    have ih := esc_swL n l (by simpa using h)
    by_cases hb : b = 0
    · subst hb
      rw [swL_hit (by simp) (by simp) (by simp), esc_cons, if_pos rfl]
      show [0, 1] ++ swL [0] [0, 1] l = _
      rw [ih]
      rfl
    · have hf : ([0] : List UInt8).isPrefixOf (b :: l) = false := by
        show ((0 : UInt8) == b && _) = false
        have : ((0 : UInt8) == b) = false := by simpa using fun e => hb e.symm
        rw [this]
        rfl
      rw [swL_miss hf, esc_cons, if_neg hb, ih]
theorem esc_rep (s : ByteArray) (hs : s.size ≤ 2048) (w : World) (hm : ML w) : Calls Tryz.prog 72 #[.string s, .string ⟨#[0]⟩, .string ⟨#[0, 1]⟩] w (Give (.string (strB (escL s.toList))) w) := by
  obtain ⟨m, hm⟩ := hm
  have hc := Lib.countB_le ⟨#[0]⟩ (by decide) s.size s (Nat.le_refl _)
  refine (Tryz.strings_ReplaceAll s ⟨#[0]⟩ ⟨#[0, 1]⟩ m w (by omega) hm (by decide) (by show s.size + _ * 2 ≤ _; omega)).mono ?_
  rintro e w' ⟨rfl, hb⟩
  refine ⟨?_, hb⟩
  rw [← ByteArray.toList_eq]
  rw [show (⟨#[0]⟩ : ByteArray).data.toList = [0] from rfl, show (⟨#[0, 1]⟩ : ByteArray).data.toList = [0, 1] from rfl, all_swL (by simp), esc_swL _ _ (Nat.le_refl _)]
  rfl
def wt (s : ByteArray) (p c : Int) : List UInt8 := Pg.wl (s.toList.take 48) p c
theorem wt_len (s : ByteArray) (p c : Int) : (wt s p c).length ≤ 48 := by unfold wt Pg.wl; rw [List.length_map, List.length_take]; omega
def Co (p c : Int) : Prop := Pg.Pg p ∧ (c = 0 ∨ c = 1)
theorem ask_ok {p c : Int} {s : ByteArray} (h : Co p c) (hs : s.size ≤ 2048) : Pg.askC p c [s] = 0 ∧ ∀ t, Pg.okC p c [s] t = t := by
  have h1 : Pg.askE p [s] = 0 := by
    unfold Pg.askE
    rw [if_neg (by simp [Pg.longTo]; omega), if_neg]
    rcases h.1 with rfl | rfl | rfl <;> decide
  have h2 : Pg.askC p c [s] = 0 := by
    unfold Pg.askC
    rw [if_pos h1, if_neg]
    rcases h.2 with rfl | rfl <;> decide
  exact ⟨h2, fun t => by unfold Pg.okC; rw [if_pos h2]⟩
theorem mapS_wt {s t : ByteArray} {p c : Int} (h : t.toList = s.toList.take 48) : (Pg.mapS (fun x => Pg.weightS x p c) t).toList = wt s p c := by
  unfold wt Pg.wl Pg.mapS Pg.strB
  rw [ByteArray.toList_eq, h]
theorem cut48 (s : ByteArray) (m : Nat) (h : m = min s.size 48) : (s.extract 0 m).toList = s.toList.take 48 := by
  rw [ext_str, strB_toList, List.drop_zero, Nat.sub_zero, h]
  rcases Nat.le_total s.size 48 with h1 | h1
  · rw [Nat.min_eq_left h1, List.take_of_length_le (by rw [len_toList]; exact Nat.le_refl _), List.take_of_length_le (by rw [len_toList]; exact h1)]
  · rw [Nat.min_eq_right h1]
theorem weights_any (s : ByteArray) (p c : Int) (h : Co p c) (w : World) (hm : ML w) : Calls Tryz.prog 43 #[.string s, .int .i64 p, .int .i64 c] w (Give (.string (strB (escL (wt s p c)))) w) := by
  obtain ⟨m, hm0⟩ : ∃ m : Nat, m = min s.size 48 := ⟨_, rfl⟩
  have em : min (s.size : Int) 48 = (m : Int) := by omega
  have hm1 : m ≤ s.size := by omega
  have hz : (s.extract 0 m).size ≤ 48 := by rw [ByteArray.size_extract]; omega
  have hl := cut48 s m hm0
  obtain ⟨a1, a2⟩ := ask_ok (s := s.extract 0 m) h (by omega)
  have hW := hid (fun w => Pg.Weights_any (s.extract 0 m) p c w)
  rw [a1, a2] at hW
  have hX := mapS_wt (p := p) (c := c) hl
  have hlen := wt_len s p c
  rw [← hX] at hlen ⊢
  rw [len_toList] at hlen
  generalize Pg.mapS (fun x => Pg.weightS x p c) (s.extract 0 m) = X at *
  have hR := hid (fun w hm => esc_rep X (by omega) w hm)
  generalize strB (escL X.toList) = Y at *
  replace hm := hid hm
  clear hX hl a1 a2 hz hm0 hlen
  go_enter Tryz.func43, Tryz.ntmps43
  go_wp2_with fail
  refine (hW.out _).mono ?_
  rintro e w1 ⟨rfl, hx1⟩
  go_wp2_with fail
  refine (hR.out _ (hm.out.ext hx1)).mono ?_
  rintro e w2 ⟨rfl, hx2⟩
  go_wp2
  go_ret
  exact ⟨rfl, hx1.trans hx2⟩
def askP (p c : Int) : Int := if decide (p < 0) || decide (2 < p) || decide (c < 0) || decide (1 < c) then 1 else 0
theorem askP_ok {p c : Int} (h : askP p c = 0) : Co p c := by
  unfold askP at h
  split at h
  · cases h
  · rename_i h1
    simp at h1
    unfold Co Pg.Pg
    omega
end Go.Proofs.YtjjikkhhlpikbaaGreatDoor.Ky
namespace Go.Proofs.YtjjikkhhlpikbaaGreatDoor.Ky
theorem u8_lt {a b : UInt8} : a < b ↔ a.toNat < b.toNat := UInt8.lt_iff_toNat_lt
theorem less_cmp : ∀ a b : List UInt8, Op.bytesLess a b = decide (Lib.compareBytes a b < 0)
  | [], [] => rfl
  | _ :: _, [] => rfl
  | [], _ :: _ => rfl
  | a :: x, b :: y => by
    unfold Op.bytesLess Lib.compareBytes
    rw [less_cmp x y]
    by_cases h : a < b
    · simp [h]
    · by_cases h2 : b < a
      · have hne : ¬ a = b := by intro e; subst e; exact absurd h2 h
        simp [h, h2, hne]
      · have he : a = b := UInt8.toNat_inj.1 (by rw [u8_lt] at h h2; omega)
        subst he
        simp [h]
theorem cmp_refl : ∀ a : List UInt8, Lib.compareBytes a a = 0
  | [] => rfl
  | a :: x => by unfold Lib.compareBytes; rw [if_neg (by rw [u8_lt]; omega), if_neg (by rw [u8_lt]; omega), cmp_refl x]
theorem cmp_same (a : UInt8) (x y : List UInt8) : Lib.compareBytes (a :: x) (a :: y) = Lib.compareBytes x y := by
  rw [Lib.compareBytes, if_neg (by rw [u8_lt]; omega), if_neg (by rw [u8_lt]; omega)]
theorem cmp_lt {a b : UInt8} (h : a.toNat < b.toNat) (x y : List UInt8) : Lib.compareBytes (a :: x) (b :: y) = -1 := by unfold Lib.compareBytes; rw [if_pos (u8_lt.2 h)]
theorem cmp_gt {a b : UInt8} (h : b.toNat < a.toNat) (x y : List UInt8) : Lib.compareBytes (a :: x) (b :: y) = 1 := by unfold Lib.compareBytes; rw [if_neg (by rw [u8_lt]; omega), if_pos (u8_lt.2 h)]
end Go.Proofs.YtjjikkhhlpikbaaGreatDoor.Ky
namespace Go.Proofs.YtjjikkhhlpikbaaGreatDoor.Ky
def keyL (k n : Int) (t : List UInt8) : List UInt8 := byo k.toNat :: (if k = 1 then highL n.toNat 1 else if k = 2 then highL (n + 1000000000000000).toNat 8 else if k = 3 then highL n.toNat 4 else if k = 4 then escL t ++ [0, 0] else [])
theorem keyL_len (k n : Int) (t : List UInt8) (h : t.length ≤ 48) : (keyL k n t).length ≤ 99 := by
  unfold keyL
  have := escL_len t
  rw [List.length_cons]
  split
  · rw [highL_len]; omega
  split
  · rw [highL_len]; omega
  split
  · rw [highL_len]; omega
  split
  · rw [List.length_append]; simp; omega
  · simp
end Go.Proofs.YtjjikkhhlpikbaaGreatDoor.Ky
namespace Go.Proofs.YtjjikkhhlpikbaaGreatDoor.Ky
open Go.RowKit
attribute [local go_sem] Pg.conv_new
def keyB (k n : Int) (s : ByteArray) (p c : Int) : ByteArray := strB (keyL k n (wt s p c))
theorem keyB_size (k n : Int) (s : ByteArray) (p c : Int) : (keyB k n s p c).size ≤ 99 := by unfold keyB; rw [strB_size]; exact keyL_len _ _ _ (wt_len _ _ _)
theorem strB_cons (b : UInt8) (l : List UInt8) : strB [b] ++ strB l = strB (b :: l) := by rw [strB_add]; rfl
theorem keyB_0 (n : Int) (s : ByteArray) (p c : Int) : keyB 0 n s p c = strB [byo 0] := rfl
theorem keyB_1 (n : Int) (s : ByteArray) (p c : Int) : keyB 1 n s p c = strB [byo 1] ++ strB (highL n.toNat 1) := by rw [strB_cons]; rfl
theorem keyB_2 (n : Int) (s : ByteArray) (p c : Int) : keyB 2 n s p c = strB [byo 2] ++ strB (highL (n + 1000000000000000).toNat 8) := by rw [strB_cons]; rfl
theorem keyB_3 (n : Int) (s : ByteArray) (p c : Int) : keyB 3 n s p c = strB [byo 3] ++ strB (highL n.toNat 4) := by rw [strB_cons]; rfl
theorem keyB_4 (n : Int) (s : ByteArray) (p c : Int) : keyB 4 n s p c = strB [byo 4] ++ (strB (escL (wt s p c)) ++ ⟨#[0, 0]⟩) := by
  rw [show (⟨#[0, 0]⟩ : ByteArray) = strB [0, 0] from rfl, strB_add, strB_cons]
  rfl
theorem high_size (n k : Nat) : (strB (highL n k)).size = k := by rw [strB_size, highL_len]
theorem esc_size (s : ByteArray) (p c : Int) : (strB (escL (wt s p c))).size ≤ 96 := by rw [strB_size]; have := escL_len (wt s p c); have := wt_len s p c; omega
theorem plain_any (k n : Int) (s : ByteArray) (p c : Int) (he : valE k n s = 0) (h : Co p c) (w : World) (hm : ML w) : Calls Tryz.prog 16 #[vV k n s, .int .i64 p, .int .i64 c] w (Give (.string (keyB k n s p c)) w) := by
  have hk := val_kinds he
  have hz := val_size he
  clear he
  unfold vV at *
  rcases hk with rfl | ⟨rfl, hn⟩ | ⟨rfl, hn⟩ | ⟨rfl, hn⟩ | rfl
  · have hf := hid (keyB_0 n s p c)
    generalize keyB 0 n s p c = K at *
    have hc1 : Hid (∀ w : World, (convert 84 9 (.slice (some ⟨w.heap.size, 0, none⟩) 1 1)).run Tryz.prog (w.alloc (.cells #[.int .u8 0] 5)) = .ok (.string (strB [byo 0])) (w.alloc (.cells #[.int .u8 0] 5))) := fun w => Pg.conv_one w 0 (by omega) (by omega)
    rw [← hf.out] at hc1
    go_enter Tryz.func16, Tryz.ntmps16
    go_upto_region 1 with fail
    generalize hw_ : w.alloc (.cells #[.int .i64 0, .int .i64 n, .string s] 25) = w1
    have hx1 : Ext (w.alloc (.cells #[.int .i64 0, .int .i64 n, .string s] 25)) w1 := by rw [hw_]; exact Ext.refl _
    clear hw_
    have b0 : w1.cell? ⟨w.heap.size, 0, none⟩ = some (.int .i64 0) := hx1.cell (by go_simp)
    have b1 : w1.cell? ⟨w.heap.size, 1, none⟩ = some (.int .i64 n) := hx1.cell (by go_simp)
    have b2 : w1.cell? ⟨w.heap.size, 2, none⟩ = some (.string s) := hx1.cell (by go_simp)
    have hE := hid (Ext.trans ((Ext.refl w).alloc_right _) hx1)
    have lt := World.block_lt_of_cell? w1 _ b0
    clear hx1
    have hcv := hc1.out w1
    have hEa := hid (hE.out.alloc_right (.cells #[.int .u8 0] 5))
    have eu : IntKind.u8.wrap 0 = 0 := Pg.u8_in 0 (by omega) (by omega)
    go_wp2
    go_ret
    exact ⟨rfl, hEa.out⟩
  · have h0 : 0 ≤ n ∧ n ≤ 1 := by omega
    have hf := hid (keyB_1 n s p c)
    generalize keyB 1 n s p c = K at *
    obtain ⟨m, hm9⟩ : ∃ m : Nat, m = n.toNat := ⟨_, rfl⟩
    have hh : Hid (∀ w, Calls Tryz.prog 42 #[.int .i64 m, .int .i64 1] w (Give (.string (strB (highL m 1))) w)) := fun w => high_any m 1 (by omega) (by omega) (by omega) w
    rw [← hm9] at hf
    obtain rfl : n = (m : Int) := by omega
    clear hm9 h0 hn
    have ad := str_add (strB [byo 1]) (strB (highL m 1)) (by rw [strB_size, high_size]; simp)
    replace hf : Hid (strB [byo 1] ++ strB (highL m 1) = K) := hf.out.symm
    rw [hf.out] at ad
    generalize strB (highL m 1) = Y at *
    have hc1 : Hid (∀ w : World, (convert 84 9 (.slice (some ⟨w.heap.size, 0, none⟩) 1 1)).run Tryz.prog (w.alloc (.cells #[.int .u8 1] 5)) = .ok (.string (strB [byo 1])) (w.alloc (.cells #[.int .u8 1] 5))) := fun w => Pg.conv_one w 1 (by omega) (by omega)
    generalize strB [byo 1] = Z at *
    go_enter Tryz.func16, Tryz.ntmps16
    go_upto_region 1 with fail
    generalize hw_ : w.alloc (.cells #[.int .i64 1, .int .i64 (m : Int), .string s] 25) = w1
    have hx1 : Ext (w.alloc (.cells #[.int .i64 1, .int .i64 (m : Int), .string s] 25)) w1 := by rw [hw_]; exact Ext.refl _
    clear hw_
    have b0 : w1.cell? ⟨w.heap.size, 0, none⟩ = some (.int .i64 1) := hx1.cell (by go_simp)
    have b1 : w1.cell? ⟨w.heap.size, 1, none⟩ = some (.int .i64 (m : Int)) := hx1.cell (by go_simp)
    have b2 : w1.cell? ⟨w.heap.size, 2, none⟩ = some (.string s) := hx1.cell (by go_simp)
    have hE := hid (Ext.trans ((Ext.refl w).alloc_right _) hx1)
    have lt := World.block_lt_of_cell? w1 _ b0
    clear hx1
    have hcv := hc1.out w1
    have hEa := hid (hE.out.alloc_right (.cells #[.int .u8 1] 5))
    have a0 := ((Ext.refl w1).alloc_right (.cells #[.int .u8 1] 5)).cell b0
    have a1 := ((Ext.refl w1).alloc_right (.cells #[.int .u8 1] 5)).cell b1
    have eu : IntKind.u8.wrap 1 = 1 := Pg.u8_in 1 (by omega) (by omega)
    go_upto_region 2 with fail
    generalize w1.alloc (.cells #[.int .u8 1] 5) = w2 at *
    have lt2 := World.block_lt_of_cell? w2 _ a0
    clear b0 b1 b2 lt hcv
    go_wp2_with fail
    refine (hh.out _).mono ?_
    rintro e w3 ⟨rfl, hx3⟩
    have hE3 := hid (hEa.out.trans hx3)
    go_wp2
    go_ret
    exact ⟨rfl, hE3.out⟩
  · have h0 := isNum_iff.1 hn
    have hf := hid (keyB_2 n s p c)
    generalize keyB 2 n s p c = K at *
    obtain ⟨m, hm9⟩ : ∃ m : Nat, m = (n + 1000000000000000).toNat := ⟨_, rfl⟩
    have hh : Hid (∀ w, Calls Tryz.prog 42 #[.int .i64 m, .int .i64 8] w (Give (.string (strB (highL m 8))) w)) := fun w => high_any m 8 (by omega) (by omega) (by omega) w
    rw [← hm9] at hf
    have em : IntKind.i64.wrap (n + 1000000000000000) = (m : Int) := by rw [IntWalk.i64_in _ (by omega)]; omega
    clear hm9 h0 hn
    have ad := str_add (strB [byo 2]) (strB (highL m 8)) (by rw [strB_size, high_size]; simp)
    replace hf : Hid (strB [byo 2] ++ strB (highL m 8) = K) := hf.out.symm
    rw [hf.out] at ad
    generalize strB (highL m 8) = Y at *
    have hc1 : Hid (∀ w : World, (convert 84 9 (.slice (some ⟨w.heap.size, 0, none⟩) 1 1)).run Tryz.prog (w.alloc (.cells #[.int .u8 2] 5)) = .ok (.string (strB [byo 2])) (w.alloc (.cells #[.int .u8 2] 5))) := fun w => Pg.conv_one w 2 (by omega) (by omega)
    generalize strB [byo 2] = Z at *
    go_enter Tryz.func16, Tryz.ntmps16
    go_upto_region 1 with fail
    generalize hw_ : w.alloc (.cells #[.int .i64 2, .int .i64 n, .string s] 25) = w1
    have hx1 : Ext (w.alloc (.cells #[.int .i64 2, .int .i64 n, .string s] 25)) w1 := by rw [hw_]; exact Ext.refl _
    clear hw_
    have b0 : w1.cell? ⟨w.heap.size, 0, none⟩ = some (.int .i64 2) := hx1.cell (by go_simp)
    have b1 : w1.cell? ⟨w.heap.size, 1, none⟩ = some (.int .i64 n) := hx1.cell (by go_simp)
    have b2 : w1.cell? ⟨w.heap.size, 2, none⟩ = some (.string s) := hx1.cell (by go_simp)
    have hE := hid (Ext.trans ((Ext.refl w).alloc_right _) hx1)
    have lt := World.block_lt_of_cell? w1 _ b0
    clear hx1
    have hcv := hc1.out w1
    have hEa := hid (hE.out.alloc_right (.cells #[.int .u8 2] 5))
    have a0 := ((Ext.refl w1).alloc_right (.cells #[.int .u8 2] 5)).cell b0
    have a1 := ((Ext.refl w1).alloc_right (.cells #[.int .u8 2] 5)).cell b1
    have eu : IntKind.u8.wrap 2 = 2 := Pg.u8_in 2 (by omega) (by omega)
    go_upto_region 2 with fail
    generalize w1.alloc (.cells #[.int .u8 2] 5) = w2 at *
    have lt2 := World.block_lt_of_cell? w2 _ a0
    clear b0 b1 b2 lt hcv
    go_wp2_with fail
    refine (hh.out _).mono ?_
    rintro e w3 ⟨rfl, hx3⟩
    have hE3 := hid (hEa.out.trans hx3)
    go_wp2
    go_ret
    exact ⟨rfl, hE3.out⟩
  · have h0 : 0 ≤ n ∧ n ≤ 3652059 := by unfold isDayB at hn; simpa using hn
    have hf := hid (keyB_3 n s p c)
    generalize keyB 3 n s p c = K at *
    obtain ⟨m, hm9⟩ : ∃ m : Nat, m = n.toNat := ⟨_, rfl⟩
    have hh : Hid (∀ w, Calls Tryz.prog 42 #[.int .i64 m, .int .i64 4] w (Give (.string (strB (highL m 4))) w)) := fun w => high_any m 4 (by omega) (by omega) (by omega) w
    rw [← hm9] at hf
    obtain rfl : n = (m : Int) := by omega
    clear hm9 h0 hn
    have ad := str_add (strB [byo 3]) (strB (highL m 4)) (by rw [strB_size, high_size]; simp)
    replace hf : Hid (strB [byo 3] ++ strB (highL m 4) = K) := hf.out.symm
    rw [hf.out] at ad
    generalize strB (highL m 4) = Y at *
    have hc1 : Hid (∀ w : World, (convert 84 9 (.slice (some ⟨w.heap.size, 0, none⟩) 1 1)).run Tryz.prog (w.alloc (.cells #[.int .u8 3] 5)) = .ok (.string (strB [byo 3])) (w.alloc (.cells #[.int .u8 3] 5))) := fun w => Pg.conv_one w 3 (by omega) (by omega)
    generalize strB [byo 3] = Z at *
    go_enter Tryz.func16, Tryz.ntmps16
    go_upto_region 1 with fail
    generalize hw_ : w.alloc (.cells #[.int .i64 3, .int .i64 (m : Int), .string s] 25) = w1
    have hx1 : Ext (w.alloc (.cells #[.int .i64 3, .int .i64 (m : Int), .string s] 25)) w1 := by rw [hw_]; exact Ext.refl _
    clear hw_
    have b0 : w1.cell? ⟨w.heap.size, 0, none⟩ = some (.int .i64 3) := hx1.cell (by go_simp)
    have b1 : w1.cell? ⟨w.heap.size, 1, none⟩ = some (.int .i64 (m : Int)) := hx1.cell (by go_simp)
    have b2 : w1.cell? ⟨w.heap.size, 2, none⟩ = some (.string s) := hx1.cell (by go_simp)
    have hE := hid (Ext.trans ((Ext.refl w).alloc_right _) hx1)
    have lt := World.block_lt_of_cell? w1 _ b0
    clear hx1
    have hcv := hc1.out w1
    have hEa := hid (hE.out.alloc_right (.cells #[.int .u8 3] 5))
    have a0 := ((Ext.refl w1).alloc_right (.cells #[.int .u8 3] 5)).cell b0
    have a1 := ((Ext.refl w1).alloc_right (.cells #[.int .u8 3] 5)).cell b1
    have eu : IntKind.u8.wrap 3 = 3 := Pg.u8_in 3 (by omega) (by omega)
    go_upto_region 2 with fail
    generalize w1.alloc (.cells #[.int .u8 3] 5) = w2 at *
    have lt2 := World.block_lt_of_cell? w2 _ a0
    clear b0 b1 b2 lt hcv
    go_wp2_with fail
    refine (hh.out _).mono ?_
    rintro e w3 ⟨rfl, hx3⟩
    have hE3 := hid (hEa.out.trans hx3)
    go_wp2
    go_ret
    exact ⟨rfl, hE3.out⟩
  · have hf := hid (keyB_4 n s p c)
    generalize keyB 4 n s p c = K at *
    have hh := hid (fun w hm => weights_any s p c h w hm)
    have hzz := esc_size s p c
    have ad1 := str_add (strB (escL (wt s p c))) ⟨#[0, 0]⟩ (by show _ + 2 ≤ _; omega)
    have ad := str_add (strB [byo 4]) (strB (escL (wt s p c)) ++ ⟨#[0, 0]⟩) (by rw [strB_size, ByteArray.size_append]; show 1 + (_ + 2) ≤ _; omega)
    rw [← hf.out] at ad
    generalize strB (escL (wt s p c)) = Y at *
    generalize Y ++ (⟨#[0, 0]⟩ : ByteArray) = Y2 at *
    have hc1 : Hid (∀ w : World, (convert 84 9 (.slice (some ⟨w.heap.size, 0, none⟩) 1 1)).run Tryz.prog (w.alloc (.cells #[.int .u8 4] 5)) = .ok (.string (strB [byo 4])) (w.alloc (.cells #[.int .u8 4] 5))) := fun w => Pg.conv_one w 4 (by omega) (by omega)
    generalize strB [byo 4] = Z at *
    clear hf hzz
    replace hm := hid hm
    go_enter Tryz.func16, Tryz.ntmps16
    go_upto_region 1 with fail
    generalize hw_ : w.alloc (.cells #[.int .i64 4, .int .i64 n, .string s] 25) = w1
    have hx1 : Ext (w.alloc (.cells #[.int .i64 4, .int .i64 n, .string s] 25)) w1 := by rw [hw_]; exact Ext.refl _
    clear hw_
    have b0 : w1.cell? ⟨w.heap.size, 0, none⟩ = some (.int .i64 4) := hx1.cell (by go_simp)
    have b1 : w1.cell? ⟨w.heap.size, 1, none⟩ = some (.int .i64 n) := hx1.cell (by go_simp)
    have b2 : w1.cell? ⟨w.heap.size, 2, none⟩ = some (.string s) := hx1.cell (by go_simp)
    have hE := hid (Ext.trans ((Ext.refl w).alloc_right _) hx1)
    have lt := World.block_lt_of_cell? w1 _ b0
    clear hx1
    have hcv := hc1.out w1
    have hEa := hid (hE.out.alloc_right (.cells #[.int .u8 4] 5))
    have a0 := ((Ext.refl w1).alloc_right (.cells #[.int .u8 4] 5)).cell b0
    have a2 := ((Ext.refl w1).alloc_right (.cells #[.int .u8 4] 5)).cell b2
    have eu : IntKind.u8.wrap 4 = 4 := Pg.u8_in 4 (by omega) (by omega)
    go_upto_region 2 with fail
    generalize w1.alloc (.cells #[.int .u8 4] 5) = w2 at *
    have lt2 := World.block_lt_of_cell? w2 _ a0
    clear b0 b1 b2 lt hcv
    go_wp2_with fail
    refine (hh.out _ (hm.out.ext hEa.out)).mono ?_
    rintro e w3 ⟨rfl, hx3⟩
    have hE3 := hid (hEa.out.trans hx3)
    go_wp2
    go_ret
    exact ⟨rfl, hE3.out⟩
end Go.Proofs.YtjjikkhhlpikbaaGreatDoor.Ky
namespace Go.Proofs.YtjjikkhhlpikbaaGreatDoor.Ky
open Go.RowKit
def askV (k n : Int) (s : ByteArray) (p c : Int) : Int := if valE k n s = 0 then askP p c else valE k n s
theorem askV_no {k n : Int} {s : ByteArray} {p c : Int} (h : valE k n s ≠ 0) : askV k n s p c = valE k n s := by unfold askV; rw [if_neg h]
theorem askV_yes {k n : Int} {s : ByteArray} {p c : Int} (h : valE k n s = 0) : askV k n s p c = askP p c := by unfold askV; rw [if_pos h]
theorem askV_ok {k n : Int} {s : ByteArray} {p c : Int} (h : askV k n s p c = 0) : valE k n s = 0 ∧ Co p c := by
  unfold askV at h
  split at h
  · exact ⟨by assumption, askP_ok h⟩
  · contradiction
def encS (k n : Int) (s : ByteArray) (p c : Int) (d : Bool) : ByteArray := if askV k n s p c = 0 then turnS d (keyB k n s p c) else ByteArray.empty
theorem enc_no {k n : Int} {s : ByteArray} {p c : Int} {d : Bool} (h : askV k n s p c ≠ 0) : encS k n s p c d = ByteArray.empty := by unfold encS; rw [if_neg h]
theorem enc_yes {k n : Int} {s : ByteArray} {p c : Int} {d : Bool} (h : askV k n s p c = 0) : encS k n s p c d = turnS d (keyB k n s p c) := by unfold encS; rw [if_pos h]
theorem asked_any (k n : Int) (s : ByteArray) (p c : Int) (w : World) : Calls Tryz.prog 14 #[vV k n s, .int .i64 p, .int .i64 c] w (Give (.int .i64 (askV k n s p c)) w) := by
  have hv := hid (fun w => Validate_any k n s w)
  by_cases he : valE k n s = 0
  rotate_left
  · have d0 : (valE k n s != 0) = true := by simpa using he
    rw [askV_no he]
    clear he
    generalize valE k n s = E at *
    unfold vV at *
    go_enter Tryz.func14, Tryz.ntmps14
    go_wp2_with fail
    refine (hv.out _).mono ?_
    rintro e w2 ⟨rfl, hx⟩
    go_wp2
    go_ret
    exact ⟨rfl, ((Ext.refl _).alloc_right _).trans hx⟩
  rw [askV_yes he]
  rw [he] at hv
  clear he
  unfold vV at *
  rcases Bool.eq_false_or_eq_true (decide (p < 0)) with d1 | d1 <;> rcases Bool.eq_false_or_eq_true (decide (2 < p)) with d2 | d2 <;> rcases Bool.eq_false_or_eq_true (decide (c < 0)) with d3 | d3 <;> rcases Bool.eq_false_or_eq_true (decide (1 < c)) with d4 | d4
  all_goals have Fin := hid (show askP p c = _ by unfold askP; rw [d1, d2, d3, d4])
  all_goals go_enter Tryz.func14, Tryz.ntmps14
  all_goals go_wp2_with fail
  all_goals refine (hv.out _).mono ?_
  all_goals rintro e w2 ⟨rfl, hx⟩
  all_goals go_wp2
  all_goals go_ret
  all_goals exact ⟨by rw [Fin.out]; rfl, ((Ext.refl _).alloc_right _).trans hx⟩
theorem Encode_any (k n : Int) (s : ByteArray) (p c : Int) (d : Bool) (w : World) (hm : ML w) : Calls Tryz.prog 6 #[vV k n s, .int .i64 p, .int .i64 c, .bool d] w (GiveSE (encS k n s p c d) (askV k n s p c) w) := by
  have ha := hid (fun w => asked_any k n s p c w)
  by_cases he : askV k n s p c = 0
  rotate_left
  · have d0 : (askV k n s p c != 0) = true := by simpa using he
    rw [enc_no he]
    clear he
    generalize askV k n s p c = E at *
    unfold vV at *
    go_enter Tryz.func6, Tryz.ntmps6
    go_wp2_with fail
    refine (ha.out _).mono ?_
    rintro e w2 ⟨rfl, hx⟩
    go_wp2
    go_ret2
    exact ⟨rfl, ((Ext.refl _).alloc_right _).trans hx⟩
  rw [enc_yes he]
  obtain ⟨hv, hco⟩ := askV_ok he
  rw [he] at ha ⊢
  have hP := hid (fun w hm => plain_any k n s p c hv hco w hm)
  replace hm := hid hm
  clear he hv hco
  cases d with
  | false =>
    rw [turnS_f]
    have hT := hid (fun w => turn1_any (keyB k n s p c) w)
    generalize keyB k n s p c = K at *
    have ht := hid (fun w => turner_any false w)
    have en := enterT1
    unfold vV at *
    go_enter Tryz.func6, Tryz.ntmps6
    go_upto_region 1 with fail
    generalize hw_ : w.alloc (.cells #[.int .i64 k, .int .i64 n, .string s] 25) = w1
    have hx1 : Ext (w.alloc (.cells #[.int .i64 k, .int .i64 n, .string s] 25)) w1 := by rw [hw_]; exact Ext.refl _
    clear hw_
    have b0 : w1.cell? ⟨w.heap.size, 0, none⟩ = some (.int .i64 k) := hx1.cell (by go_simp)
    have b1 : w1.cell? ⟨w.heap.size, 1, none⟩ = some (.int .i64 n) := hx1.cell (by go_simp)
    have b2 : w1.cell? ⟨w.heap.size, 2, none⟩ = some (.string s) := hx1.cell (by go_simp)
    have hE := hid (Ext.trans ((Ext.refl w).alloc_right _) hx1)
    have lt := World.block_lt_of_cell? w1 _ b0
    clear hx1
    go_wp2_with fail
    refine (ha.out _).mono ?_
    rintro e w2 ⟨rfl, hx2⟩
    replace b0 := hx2.cell b0
    replace b1 := hx2.cell b1
    replace b2 := hx2.cell b2
    replace hE := hid (hE.out.trans hx2)
    clear lt
    have lt := World.block_lt_of_cell? w2 _ b0
    clear hx2
    have HS : Hid (∀ w', Ext w2 w' → (w'.cell? ⟨w.heap.size, 0, none⟩ = some (.int .i64 k) ∧ w'.cell? ⟨w.heap.size, 1, none⟩ = some (.int .i64 n) ∧ w'.cell? ⟨w.heap.size, 2, none⟩ = some (.string s) ∧ w.heap.size < w'.heap.size ∧ Ext w2 w')) := fun w' hx => ⟨hx.cell b0, hx.cell b1, hx.cell b2, World.block_lt_of_cell? w' _ (hx.cell b0), hx⟩
    go_wp2_with fail
    have I := hid (HS.out w2.drew (Ext.refl w2).drew_right)
    clear b0 b1 b2 lt
    go_region_held3 (fun w' => w'.cell? ⟨w.heap.size, 0, none⟩ = some (.int .i64 k) ∧ w'.cell? ⟨w.heap.size, 1, none⟩ = some (.int .i64 n) ∧ w'.cell? ⟨w.heap.size, 2, none⟩ = some (.string s) ∧ w.heap.size < w'.heap.size ∧ Ext w2 w')
      ((first | exact I.out | (go_split_ands; exact HS.out _ (by assumption)) | (go_split_ands; exact HS.out _ (Ext.trans (by assumption) hx4)) ))
      ((first | (go_at_call 15; go_split_ands; refine (ht.out _).mono ?_; rintro e w3 ⟨rfl, rfl⟩) | (go_at_call 16; go_split_ands; refine (hP.out _ (hm.out.ext (Ext.trans hE.out (by assumption)))).mono ?_; rintro e w4 ⟨rfl, hx4⟩) | (go_at_call 40; go_split_ands; refine (hT.out _).mono ?_; rintro e w5 ⟨rfl, rfl⟩)))
    all_goals go_wp2
    all_goals go_ret2
    all_goals exact ⟨rfl, Ext.trans hE.out (Ext.trans (by assumption) hx4)⟩
  | true =>
    rw [turnS_t]
    have hT := hid (fun w => turn2_any (keyB k n s p c) (by have := keyB_size k n s p c; omega) w)
    generalize keyB k n s p c = K at *
    generalize strB (turnL K.toList) = TK at *
    have ht := hid (fun w => turner_any true w)
    have en := enterT2
    unfold vV at *
    go_enter Tryz.func6, Tryz.ntmps6
    go_upto_region 1 with fail
    generalize hw_ : w.alloc (.cells #[.int .i64 k, .int .i64 n, .string s] 25) = w1
    have hx1 : Ext (w.alloc (.cells #[.int .i64 k, .int .i64 n, .string s] 25)) w1 := by rw [hw_]; exact Ext.refl _
    clear hw_
    have b0 : w1.cell? ⟨w.heap.size, 0, none⟩ = some (.int .i64 k) := hx1.cell (by go_simp)
    have b1 : w1.cell? ⟨w.heap.size, 1, none⟩ = some (.int .i64 n) := hx1.cell (by go_simp)
    have b2 : w1.cell? ⟨w.heap.size, 2, none⟩ = some (.string s) := hx1.cell (by go_simp)
    have hE := hid (Ext.trans ((Ext.refl w).alloc_right _) hx1)
    have lt := World.block_lt_of_cell? w1 _ b0
    clear hx1
    go_wp2_with fail
    refine (ha.out _).mono ?_
    rintro e w2 ⟨rfl, hx2⟩
    replace b0 := hx2.cell b0
    replace b1 := hx2.cell b1
    replace b2 := hx2.cell b2
    replace hE := hid (hE.out.trans hx2)
    clear lt
    have lt := World.block_lt_of_cell? w2 _ b0
    clear hx2
    have HS : Hid (∀ w', Ext w2 w' → (w'.cell? ⟨w.heap.size, 0, none⟩ = some (.int .i64 k) ∧ w'.cell? ⟨w.heap.size, 1, none⟩ = some (.int .i64 n) ∧ w'.cell? ⟨w.heap.size, 2, none⟩ = some (.string s) ∧ w.heap.size < w'.heap.size ∧ Ext w2 w')) := fun w' hx => ⟨hx.cell b0, hx.cell b1, hx.cell b2, World.block_lt_of_cell? w' _ (hx.cell b0), hx⟩
    go_wp2_with fail
    have I := hid (HS.out w2.drew (Ext.refl w2).drew_right)
    clear b0 b1 b2 lt
    go_region_held3 (fun w' => w'.cell? ⟨w.heap.size, 0, none⟩ = some (.int .i64 k) ∧ w'.cell? ⟨w.heap.size, 1, none⟩ = some (.int .i64 n) ∧ w'.cell? ⟨w.heap.size, 2, none⟩ = some (.string s) ∧ w.heap.size < w'.heap.size ∧ Ext w2 w')
      ((first | exact I.out | (go_split_ands; exact HS.out _ (by assumption)) | (go_split_ands; exact HS.out _ (Ext.trans (by assumption) hx4)) | (go_split_ands; exact HS.out _ (Ext.trans (by assumption) hx5))))
      ((first | (go_at_call 15; go_split_ands; refine (ht.out _).mono ?_; rintro e w3 ⟨rfl, rfl⟩) | (go_at_call 16; go_split_ands; refine (hP.out _ (hm.out.ext (Ext.trans hE.out (by assumption)))).mono ?_; rintro e w4 ⟨rfl, hx4⟩) | (go_at_call 41; go_split_ands; refine (hT.out _).mono ?_; rintro e w5 ⟨rfl, hx5⟩)))
    all_goals go_wp2
    all_goals go_ret2
    all_goals exact ⟨rfl, Ext.trans hE.out (Ext.trans (by assumption) hx5)⟩
end Go.Proofs.YtjjikkhhlpikbaaGreatDoor.Ky
namespace Go.Proofs.YtjjikkhhlpikbaaGreatDoor.Ky
end Go.Proofs.YtjjikkhhlpikbaaGreatDoor.Ky
namespace Go.Proofs.YtjjikkhhlpikbaaGreatDoor.Ky
theorem cmp_app2 : ∀ (x y u v : List UInt8), x.length = y.length → Lib.compareBytes (x ++ u) (y ++ v) = if Lib.compareBytes x y = 0 then Lib.compareBytes u v else Lib.compareBytes x y
  | [], [], u, v, _ => by simp [Lib.compareBytes]
  | [], _ :: _, _, _, h => by simp at h
  | _ :: _, [], _, _, h => by simp at h
  | a :: x, b :: y, u, v, h => by
    have ih := cmp_app2 x y u v (by simpa using h)
    rw [List.cons_append, List.cons_append]
    by_cases h1 : a.toNat < b.toNat
    · rw [cmp_lt h1, cmp_lt h1]; rfl
    · by_cases h2 : b.toNat < a.toNat
      · rw [cmp_gt h2, cmp_gt h2]; rfl
      · obtain rfl : a = b := UInt8.toNat_inj.1 (by omega)
        rw [cmp_same, cmp_same, ih]
theorem cmp_one (a b : UInt8) : Lib.compareBytes [a] [b] = cmpI a.toNat b.toNat := by
  unfold cmpI
  by_cases h1 : a.toNat < b.toNat
  · rw [cmp_lt h1, if_pos (by omega)]
  · by_cases h2 : b.toNat < a.toNat
    · rw [cmp_gt h2, if_neg (by omega), if_pos (by omega)]
    · obtain rfl : a = b := UInt8.toNat_inj.1 (by omega)
      rw [cmp_refl, if_neg (by omega), if_neg (by omega)]
theorem cmp_high (k : Nat) : ∀ n m : Nat, n < 256 ^ k → m < 256 ^ k → Lib.compareBytes (highL n k) (highL m k) = cmpI n m := by
  induction k with
  | zero =>
    intro n m h1 h2
    simp at h1 h2
    subst h1
    subst h2
    rfl
  | succ k ih =>
    intro n m h1 h2
    rw [Nat.pow_succ] at h1 h2
    rw [highL, highL, cmp_app2 _ _ _ _ (by rw [highL_len, highL_len]), ih _ _ (by omega) (by omega), cmp_one, byo_val (by omega), byo_val (by omega)]
    unfold cmpI
    split <;> split <;> split <;> (try split) <;> (try split) <;> (try split) <;> omega
theorem cmp_turn : ∀ x y : List UInt8, x.length = y.length → Lib.compareBytes (turnL x) (turnL y) = - Lib.compareBytes x y
  | [], [], _ => rfl
  | [], _ :: _, h => by simp at h
  | _ :: _, [], h => by simp at h
  | a :: x, b :: y, h => by
    have ih := cmp_turn x y (by simpa using h)
    have ha := a.toNat_lt
    have hb := b.toNat_lt
    show Lib.compareBytes (byo (255 - a.toNat) :: turnL x) (byo (255 - b.toNat) :: turnL y) = _
    by_cases h1 : a.toNat < b.toNat
    · rw [cmp_lt h1, cmp_gt (by rw [byo_val (by omega), byo_val (by omega)]; omega)]; rfl
    · by_cases h2 : b.toNat < a.toNat
      · rw [cmp_gt h2, cmp_lt (by rw [byo_val (by omega), byo_val (by omega)]; omega)]
      · obtain rfl : a = b := UInt8.toNat_inj.1 (by omega)
        rw [cmp_same, cmp_same, ih]
theorem cmp_esc : ∀ s t : List UInt8, Lib.compareBytes (escL s ++ [0, 0]) (escL t ++ [0, 0]) = Lib.compareBytes s t ∧ Lib.compareBytes (turnL (escL s ++ [0, 0])) (turnL (escL t ++ [0, 0])) = - Lib.compareBytes s t
  | [], [] => ⟨rfl, rfl⟩
  | [], b :: t => by
    by_cases hb : b = 0
    · subst hb
      exact ⟨rfl, rfl⟩
    · have h1 : escL (b :: t) = b :: escL t := by rw [escL, if_neg hb]
      have h2 : 0 < b.toNat := by
        rcases Nat.eq_zero_or_pos b.toNat with h | h
        · exact absurd (UInt8.toNat_inj.1 h) hb
        · exact h
      have := b.toNat_lt
      rw [h1]
      constructor
      · exact cmp_lt (a := 0) h2 _ _
      · exact cmp_gt (a := byo 255) (b := byo (255 - b.toNat)) (by rw [byo_val (by omega), byo_val (by omega)]; omega) _ _
  | a :: s, [] => by
    by_cases hb : a = 0
    · subst hb
      exact ⟨rfl, rfl⟩
    · have h1 : escL (a :: s) = a :: escL s := by rw [escL, if_neg hb]
      have h2 : 0 < a.toNat := by
        rcases Nat.eq_zero_or_pos a.toNat with h | h
        · exact absurd (UInt8.toNat_inj.1 h) hb
        · exact h
      have := a.toNat_lt
      rw [h1]
      constructor
      · exact cmp_gt (b := 0) h2 _ _
      · exact cmp_lt (b := byo 255) (a := byo (255 - a.toNat)) (by rw [byo_val (by omega), byo_val (by omega)]; omega) _ _
  | a :: s, b :: t => by
    have ih := cmp_esc s t
    have ha := a.toNat_lt
    have hb := b.toNat_lt
    by_cases e : a = b
    · subst e
      rw [cmp_same]
      by_cases h0 : a = 0
      · subst h0
        exact ih
      · have h1 : ∀ l, escL (a :: l) = a :: escL l := by intro l; rw [escL, if_neg h0]
        rw [h1, h1]
        refine ⟨?_, ?_⟩
        · rw [List.cons_append, List.cons_append, cmp_same]
          exact ih.1
        · rw [List.cons_append, List.cons_append]
          show Lib.compareBytes (byo (255 - a.toNat) :: _) (byo (255 - a.toNat) :: _) = _
          rw [cmp_same]
          exact ih.2
    · have hne : a.toNat ≠ b.toNat := fun h => e (UInt8.toNat_inj.1 h)
      have hd : ∀ (x : UInt8) (l : List UInt8), ∃ r, escL (x :: l) ++ [0, 0] = x :: r := by
        intro x l
        unfold escL
        split
        · rename_i h; subst h; exact ⟨_, rfl⟩
        · exact ⟨_, rfl⟩
      obtain ⟨r, hr⟩ := hd a s
      obtain ⟨q, hq⟩ := hd b t
      rw [hr, hq]
      have ht : ∀ (x : UInt8) (l : List UInt8), turnL (x :: l) = byo (255 - x.toNat) :: turnL l := fun _ _ => rfl
      rw [ht, ht]
      rcases Nat.lt_or_ge a.toNat b.toNat with h | h
      · rw [cmp_lt h, cmp_lt h, cmp_gt (by rw [byo_val (by omega), byo_val (by omega)]; omega)]
        exact ⟨rfl, rfl⟩
      · have h : b.toNat < a.toNat := by omega
        rw [cmp_gt h, cmp_gt h, cmp_lt (by rw [byo_val (by omega), byo_val (by omega)]; omega)]
        exact ⟨rfl, rfl⟩
end Go.Proofs.YtjjikkhhlpikbaaGreatDoor.Ky
namespace Go.Proofs.YtjjikkhhlpikbaaGreatDoor.Ky
open Go.RowKit
theorem ext0 (s : ByteArray) (k : Nat) : s.extract 0 k = strB (s.toList.take k) := by rw [ext_str, List.drop_zero, Nat.sub_zero]
def fst48 (s : ByteArray) : ByteArray := if 48 < s.size then s.extract 0 48 else s
theorem fst_list (s : ByteArray) : (fst48 s).toList = s.toList.take 48 := by
  unfold fst48
  split
  · rw [ext0, strB_toList]
  · rw [List.take_of_length_le]
    rw [len_toList]
    omega
theorem wl_fst (s : ByteArray) (p c : Int) : Pg.wl (fst48 s).toList p c = wt s p c := by rw [fst_list]; rfl
theorem turn_cons (b : UInt8) (l : List UInt8) : turnL (b :: l) = byo (255 - b.toNat) :: turnL l := rfl
def kL (k n : Int) (s : ByteArray) (p c : Int) : List UInt8 := keyL k n (wt s p c)
theorem kL_cons (k n : Int) (s : ByteArray) (p c : Int) : ∃ r, kL k n s p c = byo k.toNat :: r := ⟨_, rfl⟩
theorem val_in {k n : Int} {s : ByteArray} (h : valE k n s = 0) : 0 ≤ k ∧ k ≤ 4 := by rcases val_kinds h with rfl | ⟨rfl, _⟩ | ⟨rfl, _⟩ | ⟨rfl, _⟩ | rfl <;> omega
theorem ord_nil {k n k' n' : Int} {s s' : ByteArray} {p c : Int} (h : valE k n s = 0) (h' : valE k' n' s' = 0) (h0 : k = 0 ∨ k' = 0) :
    Lib.compareBytes (kL k n s p c) (kL k' n' s' p c) = cmpI (min k 1) (min k' 1) ∧ Lib.compareBytes (turnL (kL k n s p c)) (turnL (kL k' n' s' p c)) = - cmpI (min k 1) (min k' 1) := by
  have hk := val_in h
  have hk' := val_in h'
  by_cases e : k = k'
  · have hk0 : k = 0 := by omega
    have hk1 : k' = 0 := by omega
    subst hk0
    subst hk1
    exact ⟨rfl, rfl⟩
  · obtain ⟨r, hr⟩ := kL_cons k n s p c
    obtain ⟨q, hq⟩ := kL_cons k' n' s' p c
    have b1 : (byo k.toNat).toNat = k.toNat := byo_val (by omega)
    have b2 : (byo k'.toNat).toNat = k'.toNat := byo_val (by omega)
    rw [hr, hq, turn_cons, turn_cons, b1, b2]
    unfold cmpI
    by_cases hlt : k < k'
    · rw [cmp_lt (by omega), cmp_gt (by rw [byo_val (by omega), byo_val (by omega)]; omega), if_pos (by omega)]
      exact ⟨rfl, rfl⟩
    · rw [cmp_gt (by omega), cmp_lt (by rw [byo_val (by omega), byo_val (by omega)]; omega), if_neg (by omega), if_pos (by omega)]
      exact ⟨rfl, rfl⟩
theorem ord_same {b : UInt8} {x y : List UInt8} {z : Int} (h : Lib.compareBytes x y = z) (h2 : Lib.compareBytes (turnL x) (turnL y) = - z) : Lib.compareBytes (b :: x) (b :: y) = z ∧ Lib.compareBytes (turnL (b :: x)) (turnL (b :: y)) = - z := by
  rw [turn_cons, turn_cons, cmp_same, cmp_same]
  exact ⟨h, h2⟩
theorem ord_high {a b k : Nat} (ha : a < 256 ^ k) (hb : b < 256 ^ k) : Lib.compareBytes (highL a k) (highL b k) = cmpI a b ∧ Lib.compareBytes (turnL (highL a k)) (turnL (highL b k)) = - cmpI a b := by
  have h := cmp_high k a b ha hb
  exact ⟨h, by rw [cmp_turn _ _ (by rw [highL_len, highL_len]), h]⟩
theorem cmpI_shift {a b x y : Int} (h : x - y = a - b) : cmpI x y = cmpI a b := by
  unfold cmpI
  split <;> split <;> (try split) <;> (try split) <;> omega
theorem ord_num {k n n' : Int} {s s' : ByteArray} {p c : Int} (h : valE k n s = 0) (h' : valE k n' s' = 0) (h0 : k ≠ 0) (h4 : k ≠ 4) :
    Lib.compareBytes (kL k n s p c) (kL k n' s' p c) = cmpI n n' ∧ Lib.compareBytes (turnL (kL k n s p c)) (turnL (kL k n' s' p c)) = - cmpI n n' := by
  rcases val_kinds h with rfl | ⟨rfl, hn⟩ | ⟨rfl, hn⟩ | ⟨rfl, hn⟩ | rfl
  · exact absurd rfl h0
  · rcases val_kinds h' with e | ⟨_, hn'⟩ | ⟨e, _⟩ | ⟨e, _⟩ | e
    · omega
    · have q := ord_high (a := n.toNat) (b := n'.toNat) (k := 1) (by show n.toNat < 256; omega) (by show n'.toNat < 256; omega)
      rw [cmpI_shift (a := n) (b := n') (by omega)] at q
      exact ord_same q.1 q.2
    · omega
    · omega
    · omega
  · have hb := isNum_iff.1 hn
    rcases val_kinds h' with e | ⟨e, _⟩ | ⟨_, hn'⟩ | ⟨e, _⟩ | e
    · omega
    · omega
    · have hb' := isNum_iff.1 hn'
      have q := ord_high (a := (n + 1000000000000000).toNat) (b := (n' + 1000000000000000).toNat) (k := 8) (by show (n + 1000000000000000).toNat < 256 ^ 8; omega) (by show (n' + 1000000000000000).toNat < 256 ^ 8; omega)
      rw [cmpI_shift (a := n) (b := n') (by omega)] at q
      exact ord_same q.1 q.2
    · omega
    · omega
  · have hb : 0 ≤ n ∧ n ≤ 3652059 := by unfold isDayB at hn; simpa using hn
    rcases val_kinds h' with e | ⟨e, _⟩ | ⟨e, _⟩ | ⟨_, hn'⟩ | e
    · omega
    · omega
    · omega
    · have hb' : 0 ≤ n' ∧ n' ≤ 3652059 := by unfold isDayB at hn'; simpa using hn'
      have q := ord_high (a := n.toNat) (b := n'.toNat) (k := 4) (by show n.toNat < 256 ^ 4; omega) (by show n'.toNat < 256 ^ 4; omega)
      rw [cmpI_shift (a := n) (b := n') (by omega)] at q
      exact ord_same q.1 q.2
    · omega
  · exact absurd rfl h4
theorem ord_text (n n' : Int) (s s' : ByteArray) (p c : Int) :
    Lib.compareBytes (kL 4 n s p c) (kL 4 n' s' p c) = Pg.ordS (fst48 s) (fst48 s') p c ∧ Lib.compareBytes (turnL (kL 4 n s p c)) (turnL (kL 4 n' s' p c)) = - Pg.ordS (fst48 s) (fst48 s') p c := by
  have q := cmp_esc (wt s p c) (wt s' p c)
  unfold Pg.ordS
  rw [wl_fst, wl_fst]
  exact ord_same q.1 q.2
theorem keyB_list (k n : Int) (s : ByteArray) (p c : Int) : (keyB k n s p c).toList = kL k n s p c := by unfold keyB; rw [strB_toList]; rfl
theorem ask_pc {p c : Int} {s t : ByteArray} (h : Co p c) (hs : s.size ≤ 48) (ht : t.size ≤ 48) : Pg.askC p c [s, t] = 0 := by
  have h1 : Pg.askE p [s, t] = 0 := by
    unfold Pg.askE
    rw [if_neg (by simp [Pg.longTo]; omega), if_neg]
    rcases h.1 with rfl | rfl | rfl <;> decide
  unfold Pg.askC
  rw [if_pos h1, if_neg]
  rcases h.2 with rfl | rfl <;> decide
end Go.Proofs.YtjjikkhhlpikbaaGreatDoor.Ky
namespace Go.Proofs.YtjjikkhhlpikbaaGreatDoor
abbrev muLink : Go.Conc.Locks.MuLink := { lock := 18, unlock := 19, ilock := 46, iunlock := 47, lockSlow := 77, unlockSlow := 80, disable := 73, enable := 75, acquire := 76, relMerge := 78, cas32 := 74, add32 := 79, tMutex := 55, tIMutex := 53, tPMutex := 96, tPIMutex := 125, tPI32 := 127, tUP := 129, tNoCopy := 50, tU32 := 51 }
theorem muLib : Go.Conc.Locks.MuLib Tryz.prog muLink :=
  ⟨Tryz.func18, Tryz.func19, Tryz.func46, Tryz.func47, Tryz.func73, Tryz.func75, Tryz.func76, Tryz.func78, Tryz.func74, Tryz.func79, Tryz.underlying53, Tryz.runUnderlying53, Tryz.sizeOf53, Tryz.isAgg53, Tryz.zeroValue53, Tryz.underlying55, Tryz.runUnderlying55, Tryz.sizeOf55, Tryz.isAgg55, Tryz.zeroValue55, Tryz.underlying96, Tryz.runUnderlying96, Tryz.sizeOf96, Tryz.isAgg96, Tryz.zeroValue96, Tryz.underlying125, Tryz.runUnderlying125, Tryz.sizeOf125, Tryz.isAgg125, Tryz.zeroValue125, Tryz.underlying127, Tryz.runUnderlying127, Tryz.sizeOf127, Tryz.isAgg127, Tryz.zeroValue127, Tryz.underlying129, Tryz.runUnderlying129, Tryz.sizeOf129, Tryz.isAgg129, Tryz.zeroValue129, Tryz.underlying50, Tryz.runUnderlying50, Tryz.sizeOf50, Tryz.isAgg50, Tryz.zeroValue50, Tryz.underlying21, Tryz.runUnderlying21, Tryz.sizeOf21, Tryz.isAgg21, Tryz.zeroValue21, (by kernel_rfl)⟩
open Go.RowKit Go.Shelf
theorem add_add4 (p : Addr) (i j : Nat) : (p.add i).add j = p.add (i + j) := by
  unfold Addr.add
  by_cases hi : i = 0
  · simp [hi]
  · by_cases hj : j = 0
    · simp [hi, hj]
    · simp [hi, hj]; omega
theorem cell_fk {w : World} {ad : Addr} {m j : Nat} {v : Value} (h : w.cell? (ad.add (m + j)) = some v) (hj : 0 < j) : w.cell? ⟨(ad.add m).block, (ad.add m).off + j, none⟩ = some v := by
  rw [← add_add4] at h
  generalize ad.add m = q at *
  unfold Addr.add at h
  rw [if_neg (by omega)] at h
  exact h
theorem set_get {w : World} {p : Addr} {v : Value} {u : Value} (h : w.cell? p = some u) : (w.setCell p v).cell? p = some v := World.cell?_setCell_same _ _ _ h
theorem set_keep {w : World} {p q : Addr} {v u : Value} (h : w.cell? q = some u) (hne : p ≠ q) : (w.setCell p v).cell? q = some u := by rw [World.cell?_setCell_other _ _ _ _ hne]; exact h
theorem off_ne {b i j : Nat} (h : i ≠ j) : (⟨b, i, none⟩ : Addr) ≠ ⟨b, j, none⟩ := fun e => h (by injection e)
section
variable {P : Program}
theorem run_copy_k (w : World) (dT sT ty elem : TypeId) (k g o dLen dCap : Nat) (a : Addr) (sLen sCap : Nat) (cur : List Value) (t : TypeId) (cs : List Value)
    (hu : P.underlying dT = some (.slice elem)) (hs : (P.info? elem).map (·.size) = some k)
    (hg : w.heap[g]? = some (.cells cur.toArray t (0, 0))) (hn : cs.length = Nat.min sLen dLen * k)
    (hsrc : ∀ j v, cs[j]? = some v → w.cell? (a.add j) = some v) (hfit : o + cs.length ≤ cur.length) (h1 : ∀ v ∈ cs, v.oneCell' = true) :
    (Builtin.copy_ #[dT, sT] ty #[.slice (some ⟨g, o, none⟩) dLen dCap, .slice (some a) sLen sCap]).run P w =
      .ok (goInt (Nat.min sLen dLen)) (w.setRow g (splice cur o cs).toArray) := by
  have hl := run_loadCells_list (P := P) w a cs hsrc
  have hst := run_storeCells_at P g o t cs 0 cur.toArray w hg (by simpa using hfit) h1
  cases hq : P.info? elem with
  | none => simp [hq] at hs
  | some i =>
    have hi : i.size = k := by simpa [hq] using hs
    simp [Builtin.copy_, run_underlying hu, Builtin.lenOf, Builtin.firstCells, sizeOf, typeInfo, hq, hi, ← hn, hl, hst, splice]
theorem grown_setRow0 (w : World) (g : Nat) (cs : Array Value) : w.grownBy (w.setRow g cs) (some g) :=
  ⟨rfl, rfl, rfl, by simp, fun k _ hk => setRow_other w g k cs (fun e => hk (by rw [e]))⟩
theorem ex_copy_k (w : World) (dT sT ty elem : TypeId) (k g o dLen dCap : Nat) (a : Addr) (sLen sCap : Nat) (cur : List Value) (t : TypeId) (cs : List Value)
    (hu : P.underlying dT = some (.slice elem)) (hs : (P.info? elem).map (·.size) = some k)
    (hg : Hid (w.heap[g]? = some (.cells cur.toArray t (0, 0)))) (m : Nat) (hm : Hid (Nat.min sLen dLen = m)) (hn : Hid (cs.length = m * k))
    (hsrc : ∀ j v, cs[j]? = some v → w.cell? (a.add j) = some v) (hfit : o + cs.length ≤ cur.length) (h1 : ∀ v ∈ cs, v.oneCell' = true) :
    ∃ w', (Builtin.copy_ #[dT, sT] ty #[.slice (some ⟨g, o, none⟩) dLen dCap, .slice (some a) sLen sCap]).run P w = .ok (.int .i64 m) w' ∧ Hid (w'.heap[g]? = some (.cells (splice cur o cs).toArray t (0, 0))) ∧ Hid (w.grownBy w' (some g)) := by
  have hm' := hm.out
  refine ⟨_, ?_, setRow_heap w g _ _ t _ hg.out, grown_setRow0 w g _⟩
  rw [run_copy_k w dT sT ty elem k g o dLen dCap a sLen sCap cur t cs hu hs hg.out (by rw [hm']; exact hn.out) hsrc hfit h1, hm']
  rfl
end
theorem row_cell {w : World} {g : Nat} {cur : List Value} {t : TypeId} (hg : w.heap[g]? = some (.cells cur.toArray t (0, 0))) (o j : Nat) {v : Value} (h : cur[o + j]? = some v) : w.cell? ((⟨g, o, none⟩ : Addr).add j) = some v := by
  have e : (⟨g, o, none⟩ : Addr).add j = ⟨g, o + j, none⟩ := by unfold Addr.add; split <;> simp_all
  rw [e, cell_of_row w g (o + j) cur.toArray t (0, 0) hg]
  simpa using h
section
variable {P : Program} {ops : Array Oper} {Q : Exit → Act → World → Prop} {md : Region.Mode} {S : World → Prop} {last : Nat}
def wpAnyJ (P : Program) (md : Region.Mode) (ops : Array Oper) (Q : Exit → Act → World → Prop) (S : World → Prop) (last : Nat) : Nat → Array Bool → Act → World → Prop
  | 0, listed, a, w => Region.ready md ops listed = [] ∧ Q .normal a w
  | fuel + 1, listed, a, w =>
    (Region.ready md ops listed = [] → Q .normal a w) ∧
    ∀ i ∈ Region.ready md ops listed, wpOp P ops Q i (fun a' w' => (i ≠ last → S w') ∧ wpAnyJ P md ops Q S last fuel (listed.setIfInBounds i true) a' w') a w
theorem wpAny_of_J : ∀ (fuel : Nat) (listed : Array Bool) (a : Act) (w : World), wpAnyJ P md ops Q S last fuel listed a w → wpAny P md ops Q fuel listed a w
  | 0, _, _, _, h => h
  | fuel + 1, _, _, _, h => ⟨h.1, fun i hi => wpOp_mono (fun a' w' h' => wpAny_of_J fuel _ a' w' h'.2) (h.2 i hi)⟩
def waits (md : Region.Mode) (ops : Array Oper) (last i : Nat) : Bool := match ops[last]? with | some o => o.after.any fun e => Region.binds md e && e.on == i | none => false
theorem waits_spec {i : Nat} {listed : Array Bool} (h : waits md ops last i = true) (hi : i ∈ Region.ready md ops listed) : last ∉ Region.ready md ops listed := by
  intro hl
  obtain ⟨_, ol, hol, hall⟩ := mem_ready.1 hl
  unfold waits at h
  rw [hol] at h
  obtain ⟨e, he, hb⟩ := Array.any_eq_true'.1 h
  simp only [Bool.and_eq_true, beq_iff_eq] at hb
  have h1 := hall e he hb.1
  have h0 := (mem_ready.1 hi).1
  rw [hb.2] at h1
  rcases Nat.lt_or_ge i listed.size with h' | h'
  · simp [h'] at h0 h1; rw [h0] at h1; cases h1
  · simp [Array.getElem?_eq_none h'] at h1
theorem wpAnyJ_first {i : Nat} {oi : Oper} {v : Value} (hi : ops[i]? = some oi) (hsel : ∀ (j : Nat) (o : Oper) cs b, ops[j]? = some o → o.op ≠ .select cs b)
    (hQ : ∀ c a w, Q (.panic c) (a.put oi.dst v) w → Q (.panic c) a w) (hw : waits md ops last i = true) :
    ∀ (fuel : Nat) (listed : Array Bool) (a : Act) (w : World),
      (∀ j oj, ops[j]? = some oj → j ≠ i → listed.getD j true = false → (∀ e ∈ oj.after, Region.binds md e = true → e.on ≠ i) → oi.apart ops oj = true) →
      i ∈ Region.ready md ops listed → YieldsIf P ops S oi v a → S w →
      wpAnyJ P md ops Q S last fuel (listed.setIfInBounds i true) (a.put oi.dst v) w → wpAnyJ P md ops Q S last (fuel + 1) listed a w := by
  intro fuel
  induction fuel with
  | zero =>
    intro listed a w _ hr hy hS H
    refine ⟨fun h => (by rw [h] at hr; cases hr), fun j hj => ?_⟩
    by_cases hji : j = i
    · subst hji; exact hy.wpOp hi hS ⟨fun _ => hS, H⟩
    · have := ready_mono hj hji
      rw [H.1] at this
      cases this
  | succ fuel ih =>
    intro listed a w hfree hr hy hS H
    refine ⟨fun h => (by rw [h] at hr; cases hr), fun j hj => ?_⟩
    by_cases hji : j = i
    · subst hji; exact hy.wpOp hi hS ⟨fun _ => hS, H⟩
    · have h1 := H.2 j (ready_mono hj hji)
      obtain ⟨hjun, oj, hoj, hall⟩ := mem_ready.1 hj
      have hjl : j ≠ last := fun e => waits_spec hw hr (e ▸ hj)
      have hnot : ∀ e ∈ oj.after, Region.binds md e = true → e.on ≠ i := fun e he hb heq => by
        have h1 := hall e he hb
        have h0 := (mem_ready.1 hr).1
        rw [heq] at h1
        rcases Nat.lt_or_ge i listed.size with h' | h'
        · simp [h'] at h0 h1; rw [h0] at h1; cases h1
        · simp [Array.getElem?_eq_none h'] at h1
      have h2 := wpOp_putIf hoj (hfree j oj hoj hji hjun hnot) (fun cs b => hsel i oi cs b hi) (fun cs b => hsel j oj cs b hoj) hQ hy h1
      have hfree' : ∀ k ok, ops[k]? = some ok → k ≠ i → (listed.setIfInBounds j true).getD k true = false →
          (∀ e ∈ ok.after, Region.binds md e = true → e.on ≠ i) → oi.apart ops ok = true := fun k ok hk hki hun hno => by
        refine hfree k ok hk hki ?_ hno
        by_cases hjk : j = k
        · subst hjk; exact hjun
        · rw [getD_set_ne true hjk] at hun; exact hun
      refine wpOp_mono (fun a' w' h3 => ⟨h3.2.1, ih (listed.setIfInBounds j true) a' w' hfree' (ready_mono hr (Ne.symm hji)) h3.1 (h3.2.1 hjl) ?_⟩) h2
      rw [Array.setIfInBounds_comm _ _ hji]
      exact h3.2.2
theorem J_take (i : Nat) {oi : Oper} {v : Value} {fuel : Nat} {listed : Array Bool} {a : Act} {w : World} (hi : ops[i]? = some oi)
    (hs : Region.noSelect ops = true) (hf : Region.free md ops listed i = true) (hr : (Region.ready md ops listed).contains i = true) (hw : waits md ops last i = true)
    (hQ : ∀ c a w, Q (.panic c) (a.put oi.dst v) w → Q (.panic c) a w) (hy : YieldsIf P ops S oi v a) (hS : S w)
    (h : wpAnyJ P md ops Q S last fuel (listed.setIfInBounds i true) (a.put oi.dst v) w) : wpAnyJ P md ops Q S last (fuel + 1) listed a w :=
  wpAnyJ_first hi (Region.noSelect_spec hs) hQ hw fuel listed a w (Region.free_spec hi hf) (by simpa using hr) hy hS h
theorem JT (i : Nat) {oi : Oper} {v : Value} {fuel : Nat} {listed : Array Bool} {a : Act} {w : World} (hS : S w) (hy : ∀ w, S w → (execOp a.eval oi).run P w = .ok (.value v) w)
    (h : wpAnyJ P md ops Q S last fuel (listed.setIfInBounds i true) (a.put oi.dst v) w) (hi : ops[i]? = some oi := by exact rfl) (hs : Region.noSelect ops = true := by kernel_rfl) (hf : Region.free md ops listed i = true := by kernel_rfl) (hr : (Region.ready md ops listed).contains i = true := by kernel_rfl)
    (hw : waits md ops last i = true := by kernel_rfl) (hQ : ∀ c a w, Q (.panic c) (a.put oi.dst v) w → Q (.panic c) a w := by exact fun _ _ _ h => h) (hg : Region.wanted oi (yielded ops a.tmps) = true := by exact rfl) : wpAnyJ P md ops Q S last (fuel + 1) listed a w := J_take i hi hs hf hr hw hQ (Or.inl ⟨hg, hy⟩) hS h
theorem J_one (i : Nat) {o : Oper} {fuel : Nat} {listed : Array Bool} {a : Act} {w : World} (hi : ops[i]? = some o) (hr : Region.ready md ops listed = [i])
    (h : ∀ K, (∀ a' w', (i ≠ last → S w') ∧ wpAnyJ P md ops Q S last fuel (listed.setIfInBounds i true) a' w' → K a' w') → if Region.wanted o (yielded ops a.tmps) = true then Oper.wp P o a w K Q else K (a.put o.dst undef) w) : wpAnyJ P md ops Q S last (fuel + 1) listed a w := by
  refine ⟨fun h0 => absurd (hr ▸ h0) (by simp), fun j hj => ?_⟩
  rw [hr, List.mem_singleton] at hj
  subst hj
  have h1 := h _ (fun _ _ h => h)
  unfold wpOp
  simp only [hi]
  split
  · rename_i hw; rw [if_pos hw] at h1; exact .inl h1
  · rename_i hw; rw [if_neg hw] at h1; exact h1
theorem J_done {fuel : Nat} {listed : Array Bool} {a : Act} {w : World} (hr : Region.ready md ops listed = []) (h : Q .normal a w) : wpAnyJ P md ops Q S last fuel listed a w := by
  cases fuel with
  | zero => exact ⟨hr, h⟩
  | succ n => exact ⟨fun _ => h, by rw [hr]; simp⟩
end
def OnlyOn (Q : Exit → Act → World → Prop) : Exit → Act → World → Prop
  | .panic _, _, _ => False
  | .outgrown, _, _ => False
  | e, a, w => Q e a w
theorem OnlyOn.imp {Q : Exit → Act → World → Prop} : ∀ (e : Exit) (a : Act) (w : World), OnlyOn Q e a w → Q e a w := fun e a w h => by
  cases e <;> first | exact h | exact (h : False).elim
theorem OnlyOn.normal {Q : Exit → Act → World → Prop} {a : Act} {w : World} (h : Q .normal a w) : OnlyOn Q .normal a w := h
theorem region_J {P : Program} {id : Nat} {ops : Array Oper} {Q : Exit → Act → World → Prop} (S : World → Prop) (last : Nat) {a : Act} {w : World} (hm : P.follows .mixedOrders = true)
    (h : wpAnyJ P .any ops (OnlyOn Q) S last ops.size (Array.replicate ops.size false) a w.drew) : (Code.region id ops true).wp P Q a w :=
  Code.wp_mono OnlyOn.imp (wp_region_any hm (wpAny_of_J _ _ _ _ h))
section
variable {P : Program} {ops : Array Oper} {Q : Exit → Act → World → Prop} {md : Region.Mode} {S : World → Prop} {last : Nat}
theorem wpAnyJ_firstO {i : Nat} {oi : Oper} {v : Value} (hi : ops[i]? = some oi) (hsel : ∀ (j : Nat) (o : Oper) cs b, ops[j]? = some o → o.op ≠ .select cs b)
    (hQ : ∀ c a w, Q (.panic c) (a.put oi.dst v) w → Q (.panic c) a w) (hw : ops.size ≤ last) :
    ∀ (fuel : Nat) (listed : Array Bool) (a : Act) (w : World),
      (∀ j oj, ops[j]? = some oj → j ≠ i → listed.getD j true = false → (∀ e ∈ oj.after, Region.binds md e = true → e.on ≠ i) → oi.apart ops oj = true) →
      i ∈ Region.ready md ops listed → YieldsIf P ops S oi v a → S w →
      wpAnyJ P md ops Q S last fuel (listed.setIfInBounds i true) (a.put oi.dst v) w → wpAnyJ P md ops Q S last (fuel + 1) listed a w := by
  intro fuel
  induction fuel with
  | zero =>
    intro listed a w _ hr hy hS H
    refine ⟨fun h => (by rw [h] at hr; cases hr), fun j hj => ?_⟩
    by_cases hji : j = i
    · subst hji; exact hy.wpOp hi hS ⟨fun _ => hS, H⟩
    · have := ready_mono hj hji
      rw [H.1] at this
      cases this
  | succ fuel ih =>
    intro listed a w hfree hr hy hS H
    refine ⟨fun h => (by rw [h] at hr; cases hr), fun j hj => ?_⟩
    by_cases hji : j = i
    · subst hji; exact hy.wpOp hi hS ⟨fun _ => hS, H⟩
    · have h1 := H.2 j (ready_mono hj hji)
      obtain ⟨hjun, oj, hoj, hall⟩ := mem_ready.1 hj
      have hjl : j ≠ last := fun e => by
        have := (Array.getElem?_eq_some_iff.1 hoj).1
        omega
      have hnot : ∀ e ∈ oj.after, Region.binds md e = true → e.on ≠ i := fun e he hb heq => by
        have h1 := hall e he hb
        have h0 := (mem_ready.1 hr).1
        rw [heq] at h1
        rcases Nat.lt_or_ge i listed.size with h' | h'
        · simp [h'] at h0 h1; rw [h0] at h1; cases h1
        · simp [Array.getElem?_eq_none h'] at h1
      have h2 := wpOp_putIf hoj (hfree j oj hoj hji hjun hnot) (fun cs b => hsel i oi cs b hi) (fun cs b => hsel j oj cs b hoj) hQ hy h1
      have hfree' : ∀ k ok, ops[k]? = some ok → k ≠ i → (listed.setIfInBounds j true).getD k true = false →
          (∀ e ∈ ok.after, Region.binds md e = true → e.on ≠ i) → oi.apart ops ok = true := fun k ok hk hki hun hno => by
        refine hfree k ok hk hki ?_ hno
        by_cases hjk : j = k
        · subst hjk; exact hjun
        · rw [getD_set_ne true hjk] at hun; exact hun
      refine wpOp_mono (fun a' w' h3 => ⟨h3.2.1, ih (listed.setIfInBounds j true) a' w' hfree' (ready_mono hr (Ne.symm hji)) h3.1 (h3.2.1 hjl) ?_⟩) h2
      rw [Array.setIfInBounds_comm _ _ hji]
      exact h3.2.2
theorem J_takeO (i : Nat) {oi : Oper} {v : Value} {fuel : Nat} {listed : Array Bool} {a : Act} {w : World} (hi : ops[i]? = some oi)
    (hs : Region.noSelect ops = true) (hf : Region.free md ops listed i = true) (hr : (Region.ready md ops listed).contains i = true) (hw : decide (ops.size ≤ last) = true)
    (hQ : ∀ c a w, Q (.panic c) (a.put oi.dst v) w → Q (.panic c) a w) (hy : YieldsIf P ops S oi v a) (hS : S w)
    (h : wpAnyJ P md ops Q S last fuel (listed.setIfInBounds i true) (a.put oi.dst v) w) : wpAnyJ P md ops Q S last (fuel + 1) listed a w :=
  wpAnyJ_firstO hi (Region.noSelect_spec hs) hQ (of_decide_eq_true hw) fuel listed a w (Region.free_spec hi hf) (by simpa using hr) hy hS h
theorem JO (i : Nat) {oi : Oper} {v : Value} {fuel : Nat} {listed : Array Bool} {a : Act} {w : World} (hS : S w) (hy : ∀ w, S w → (execOp a.eval oi).run P w = .ok (.value v) w)
    (h : wpAnyJ P md ops Q S last fuel (listed.setIfInBounds i true) (a.put oi.dst v) w) (hi : ops[i]? = some oi := by exact rfl) (hs : Region.noSelect ops = true := by kernel_rfl) (hf : Region.free md ops listed i = true := by kernel_rfl) (hr : (Region.ready md ops listed).contains i = true := by kernel_rfl)
    (hw : decide (ops.size ≤ last) = true := by kernel_rfl) (hQ : ∀ c a w, Q (.panic c) (a.put oi.dst v) w → Q (.panic c) a w := by exact fun _ _ _ h => h) (hg : Region.wanted oi (yielded ops a.tmps) = true := by exact rfl) : wpAnyJ P md ops Q S last (fuel + 1) listed a w := J_takeO i hi hs hf hr hw hQ (Or.inl ⟨hg, hy⟩) hS h
end
section
variable {P : Program} {ops : Array Oper} {Q : Exit → Act → World → Prop} {md : Region.Mode} {S : World → Prop} {last : Nat}
theorem J_two (i j : Nat) {o o' : Oper} {fuel : Nat} {listed : Array Bool} {a : Act} {w : World} (hi : ops[i]? = some o) (hj : ops[j]? = some o') (hr : Region.ready md ops listed = [i, j])
    (h : ∀ K, (∀ a' w', (i ≠ last → S w') ∧ wpAnyJ P md ops Q S last fuel (listed.setIfInBounds i true) a' w' → K a' w') → if Region.wanted o (yielded ops a.tmps) = true then Oper.wp P o a w K Q else K (a.put o.dst undef) w)
    (h' : ∀ K, (∀ a' w', (j ≠ last → S w') ∧ wpAnyJ P md ops Q S last fuel (listed.setIfInBounds j true) a' w' → K a' w') → if Region.wanted o' (yielded ops a.tmps) = true then Oper.wp P o' a w K Q else K (a.put o'.dst undef) w) : wpAnyJ P md ops Q S last (fuel + 1) listed a w := by
  refine ⟨fun h0 => absurd (hr ▸ h0) (by simp), fun k hk => ?_⟩
  rw [hr, List.mem_cons, List.mem_singleton] at hk
  rcases hk with rfl | rfl
  · have h1 := h _ (fun _ _ h => h)
    unfold wpOp
    simp only [hi]
    split
    · rename_i hw; rw [if_pos hw] at h1; exact .inl h1
    · rename_i hw; rw [if_neg hw] at h1; exact h1
  · have h1 := h' _ (fun _ _ h => h)
    unfold wpOp
    simp only [hj]
    split
    · rename_i hw; rw [if_pos hw] at h1; exact .inl h1
    · rename_i hw; rw [if_neg hw] at h1; exact h1
end
theorem step_run {P : Program} {ops : Array Oper} {o : Oper} {a : Act} {w w' : World} {K : Act → World → Prop} {Q : Exit → Act → World → Prop} {E : Prop} (hgd : o.guard = none) (v : Value)
    (hr : ((execOp a.eval o).run P w) = .ok (.value v) w') (h : K (a.put o.dst v) w') : if Region.wanted o (yielded ops a.tmps) = true then Oper.wp P o a w K Q else E := by
  have hw : Region.wanted o (yielded ops a.tmps) = true := by simp [Region.wanted, hgd]
  rw [if_pos hw]
  unfold Oper.wp
  rw [hr]
  exact h
theorem ex_append {P : Program} {o : Oper} {a : Act} {w w' : World} (s x : Operand) (t tn : TypeId) (ho : o.op = .call { callee := .builtin .append, args := #[s, x], argTypes := #[t, tn] }) (vs vx : Value) (hs : a.eval s = vs) (hx : a.eval x = vx)
    (v' : Value) (hr : (Builtin.append_ #[t, tn] o.type #[vs, vx]).run P w = .ok v' w') : (execOp a.eval o).run P w = .ok (.value v') w' := by
  unfold execOp
  simp only [ho, resolve, invoke, builtin, Sem.run_bind, Sem.run_pure, Result.andThen_ok, List.map_toArray, List.map_cons, List.map_nil, hs, hx, hr]
theorem zero_cells_1 (z : Array Value) : (Builtin.zeroCells z 1).toList = z.toList := by
  apply List.ext_getElem
  · simp [Builtin.zeroCells]
  · intro i h1 h2
    simp at h2
    simp [Builtin.zeroCells, Nat.mod_eq_of_lt h2, h2]
theorem ex_clear_1 {P : Program} (w : World) (t ty elem : TypeId) (g o c : Nat) (cur : List Value) (T : TypeId) (z : Value) (zs : List Value) (hu : P.underlying t = some (.slice elem)) (hz : ∀ w, (zeroValue elem).run P w = .ok z w) (hzs : z.cells.toList = zs)
    (hg : Hid (w.heap[g]? = some (.cells cur.toArray T (0, 0)))) (hfit : o + zs.length ≤ cur.length) (h1 : ∀ v ∈ zs, v.oneCell' = true) :
    ∃ w', (Builtin.clear_ #[t] ty #[.slice (some ⟨g, o, none⟩) 1 c]).run P w = .ok (.tuple #[]) w' ∧ Hid (w'.heap[g]? = some (.cells (splice cur o zs).toArray T (0, 0))) ∧ Hid (w.grownBy w' (some g)) := by
  refine ⟨w.setRow g (splice cur o zs).toArray, ?_, setRow_heap w g _ _ T _ hg.out, grown_setRow0 w g _⟩
  have hst := run_storeCells_at P g o T zs 0 cur.toArray w hg.out (by simpa using hfit) h1
  simp [Builtin.clear_, run_underlying hu, hz, zero_cells_1, hzs, hst, splice]
theorem ex_append_row {P : Program} (w : World) (t ty e : TypeId) (k : Nat) (hu : P.underlying t = some (.slice e)) (hs : (P.info? e).map (·.size) = some k) (g n cap : Nat) (cur : List Value) (hg : Hid (w.heap[g]? = some (.cells cur.toArray e (0, 0))))
    (a : Addr) (m c : Nat) (news : List Value) (hl : news.length = m * k) (hnews : ∀ j u, news[j]? = some u → w.cell? (a.add j) = some u) (h1 : ∀ u ∈ news, u.oneCell' = true) (hroom : n + m ≤ cap) (hfit : n * k + news.length ≤ cur.length) :
    ∃ w', (Builtin.append_ #[t, t] ty #[.slice (some ⟨g, 0, none⟩) n cap, .slice (some a) m c]).run P w = .ok (.slice (some ⟨g, 0, none⟩) (n + m) cap) w' ∧ Hid (w'.heap[g]? = some (.cells (splice cur (n * k) news).toArray e (0, 0))) ∧ Hid (w.grownBy w' (some g)) := by
  cases hq : P.info? e with
  | none => simp [hq] at hs
  | some i =>
    have hi : i.size = k := by simpa [hq] using hs
    subst hi
    refine ⟨w.setRow g (splice cur (n * i.size) news).toArray, ?_, setRow_heap w g _ _ e _ hg.out, grown_setRow0 w g _⟩
    rw [run_append_room w t ty e i hu hq g n cap cur.toArray hg.out a m c news hl hnews h1 hroom (by simpa using hfit)]
    simp [splice, List.append_assoc]
theorem run_append_nilsrc {P : Program} (w : World) (base : Nat) (t ty e : TypeId) (i : TypeInfo) (size : Nat) (ht : P.underlying t = some (.slice e)) (hi : P.info? e = some i)
    (v : Value) (n : Nat) (xs : List Value) (hown : w.ownsRow base e size v n xs) (c : Nat) : (Builtin.append_ #[t, t] ty #[v, .slice none 0 c]).run P w = .ok v w := by
  rcases hown.2 with ⟨rfl, rfl⟩ | ⟨g, cap, cur, rfl, _, _, hnc, _⟩
  · simp [Builtin.append_, run_underlying ht, sizeOf, typeInfo, hi, Builtin.lenOf, Builtin.firstCells]
  · simp [Builtin.append_, run_underlying ht, sizeOf, typeInfo, hi, Builtin.lenOf, Builtin.firstCells, hnc, storeCells]
theorem wpList_appendAny {P : Program} (w : World) {ops : Array Oper} {rest : List Oper} {o : Oper} {a : Act} {Q : Exit → Act → World → Prop} (hgd : o.guard = none) (s x : Operand) (t : TypeId)
    (ho : o.op = .call { callee := .builtin .append, args := #[s, x], argTypes := #[t, t] })
    (base : Nat) (e : TypeId) (i : TypeInfo) (z : Value) (size bytes : Nat) (ht : P.underlying t = some (.slice e)) (hi : P.info? e = some i) (hz : i.zero = some z)
    (hsize : i.size = size) (hby : i.bytes = bytes) (hzs : z.cells.size = size) (hsz : 0 < size)
    (v : Value) (n : Nat) (xs : List Value) (hs : a.eval s = v) (hown : w.ownsRow base e size v n xs)
    (A : Option Addr) (m c : Nat) (es : List Value) (hx : a.eval x = .slice A m c) (hr : Rd w size A m c es) (h1 : ∀ u ∈ es, u.oneCell' = true)
    (h63 : n + m ≤ maxLen) (hbytes : (n + m) * bytes ≤ 140737488355328) (hbase : base ≤ w.heap.size)
    (h : ∀ v' w', w'.ownsRow base e size v' (n + m) (xs ++ es) → w.grownBy w' v.ownBlock → wpList P ops Q rest (a.put o.dst v') w') : wpList P ops Q (o :: rest) a w := by
  rcases A with _ | ad
  · have hm : m = 0 := by
      rcases Nat.eq_zero_or_pos m with h0 | h0
      · exact h0
      · obtain ⟨ad, h, _⟩ := hr.2.2.2 h0
        cases h
    subst hm
    have hn : es = [] := List.eq_nil_of_length_eq_zero (by simpa using hr.1)
    subst hn
    refine wpList_plain hgd fun K hK => ?_
    have hrun := run_append_nilsrc (P := P) w base t o.type e i size ht hi v n xs hown c
    unfold Oper.wp
    simp [execOp, ho, resolve, invoke, builtin, hs, hx, hrun, Result.andThen]
    exact hK _ _ (h v w (by simpa using hown) (World.grownBy.refl w _))
  · refine wpList_append_own w hgd s x t ho base e i z size bytes ht hi hz hsize hby hzs hsz v n xs hs hown ad m c es hx hr.1 ?_ h1 h63 hbytes hbase fun v' w' h2 h3 _ => h v' w' h2 h3
    intro j u hu
    rcases Nat.eq_zero_or_pos m with h0 | h0
    · subst h0
      have hn : es = [] := List.eq_nil_of_length_eq_zero (by simpa using hr.1)
      subst hn
      simp at hu
    · obtain ⟨ad', e', hc⟩ := hr.2.2.2 h0
      injection e' with e'
      subst e'
      exact hc j u hu
theorem own_rd {w : World} {v : Value} {b n k : Nat} {t : TypeId} {xs : List Value} (h : w.ownsRow b t k v n xs) : ∃ A c, v = .slice A n c ∧ Rd w k A n c xs := by
  rcases h.2 with ⟨hv, h0⟩ | ⟨g', cap, cur, hv, _⟩
  · refine ⟨none, 0, by rw [hv, h0], ?_⟩
    have : v = .slice none n 0 := by rw [hv, h0]
    rw [this] at h
    exact Rd.of_own h
  · refine ⟨_, _, hv, ?_⟩
    rw [hv] at h
    exact Rd.of_own h
theorem own_none {w : World} {b n c k : Nat} {t : TypeId} {xs : List Value} (h : w.ownsRow b t k (.slice none n c) n xs) : n = 0 ∧ c = 0 ∧ xs = [] := by
  rcases h.2 with ⟨hv, h0⟩ | ⟨g', cap, cur, hv, _⟩
  · injection hv with _ e1 e2
    refine ⟨h0, e2, ?_⟩
    have := h.1
    rw [h0, Nat.zero_mul] at this
    exact List.eq_nil_of_length_eq_zero this
  · injection hv with e1
    cases e1
section
variable {g : Nat} {w w' : World}
theorem own_set {e : TypeId} {b n sz : Nat} {v : Value} {xs : List Value} (h : w.ownsRow b e sz v n xs) (hne : v.ownBlock ≠ some g) (i : Nat) (u : Value) : (w.setCell ⟨g, i, none⟩ u).ownsRow b e sz v n xs :=
  h.kept (row := some g) ⟨rfl, rfl, rfl, by simp [World.setCell], fun k _ hk => Below.heap_setCell _ _ _ _ (fun e => hk (by simp [e]))⟩ (Or.inr hne)
end
theorem own_baseK {w : World} {b b' n k : Nat} {e : TypeId} {v : Value} {xs : List Value} (h : w.ownsRow b e k v n xs) (hb : b' ≤ b) : w.ownsRow b' e k v n xs := by
  refine ⟨h.1, ?_⟩
  rcases h.2 with h2 | ⟨g, cap, cur, e1, e2, e3, e4⟩
  · exact .inl h2
  · exact .inr ⟨g, cap, cur, e1, by omega, e3, e4⟩
theorem own_freshB {w : World} {b n k : Nat} {e : TypeId} {v : Value} {xs : List Value} (h : w.ownsRow b e k v n xs) : ∀ g, v.ownBlock = some g → b ≤ g := fun g hg => (h.lt g hg).1
theorem own_setK {w : World} {B g n c o sz : Nat} {t : TypeId} {u : Value} {xs : List Value} (h : w.ownsRow B t sz (.slice (some ⟨g, 0, none⟩) n c) n xs) : (w.setCell ⟨g, o, none⟩ u).ownsRow B t sz (.slice (some ⟨g, 0, none⟩) n c) n (xs.set o u) := by
  have hl := h.1
  rcases h.2 with ⟨hv, _⟩ | ⟨g', cap, cur, hv, hB, hg, hn, hc, hs, ht⟩
  · cases hv
  · injection hv with e1 _ e3
    injection e1 with e1
    injection e1 with e1
    subst e1 e3
    refine ⟨by rw [List.length_set]; exact hl, .inr ⟨g, c, cur.setIfInBounds o u, rfl, hB, ?_, hn, hc, by simpa using hs, ?_⟩⟩
    · simp [World.setCell, Array.getElem?_modify, hg]
    · rw [Array.toList_setIfInBounds, List.take_set, ht]
theorem own_sliceK {w : World} {b n sz : Nat} {e : TypeId} {v : Value} {xs : List Value} (h : w.ownsRow b e sz v n xs) (hn : 0 < n) : ∃ (g c : Nat), v = .slice (some ⟨g, 0, none⟩) n c ∧ b ≤ g ∧ g < w.heap.size ∧ n ≤ c ∧ c ≤ 9223372036854775807 ∧ ∀ o, w.frozen? ⟨g, o, none⟩ = false := by
  rcases h.2 with ⟨_, h0⟩ | ⟨g, cap, cur, rfl, hB, hg, h1, h2, _⟩
  · omega
  · exact ⟨g, cap, rfl, hB, (Array.getElem?_eq_some_iff.1 hg).1, h1, h2, fun o => Lib.frozen_of_heap hg o⟩
end Go.Proofs.YtjjikkhhlpikbaaGreatDoor
namespace Go.Proofs.YtjjikkhhlpikbaaGreatDoor.Pg
open Go.RowKit
theorem cmpStr_any (a b : ByteArray) (w : World) :
    Calls Tryz.prog 90 #[.string a, .string b] w fun e w' => e = .returned (.int .i64 (Lib.compareBytes a.data.toList b.data.toList)) ∧ w = w' := by
  go_enter Tryz.func90, Tryz.ntmps90
  go_wp2
  rw [run_callFunc_extern Tryz.func122 (by kernel_rfl) (by kernel_rfl) (by kernel_rfl) (e := Extern.BytealgCompare.compare) (by kernel_rfl), Lib.run_compareString]
  simp only [Result.andThen]
  rw [Oper.upon_value]
  go_wp2
  go_ret
  exact ⟨rfl, rfl⟩
theorem Compare_any (a b : ByteArray) (w : World) :
    Calls Tryz.prog 55 #[.string a, .string b] w fun e w' => e = .returned (.int .i64 (Lib.compareBytes a.data.toList b.data.toList)) ∧ w = w' := by
  go_enter Tryz.func55, Tryz.ntmps55
  go_wp2_with (go_at_call 90; refine (cmpStr_any _ _ _).mono ?_; rintro e w' ⟨rfl, rfl⟩)
  go_ret
  exact ⟨rfl, rfl⟩
theorem Order_any (s t : ByteArray) (p c : Int) (w : World) : Calls Tryz.prog 25 #[.string s, .string t, .int .i64 p, .int .i64 c] w (GiveNN (okI p c [s, t] (ordS s t p c)) (askC p c [s, t]) w) := by
  by_cases h : askC p c [s, t] = 0
  · have e1 : (askC p c [s, t] != 0) = false := by simp [h]
    have Fin : Hid (okI p c [s, t] (ordS s t p c) = ordS s t p c) := by unfold Hid okI; rw [if_pos h]
    have Fin2 := hid h
    have ho := ask_ok2 h
    have hv : Hid (Lib.compareBytes (mapS (fun x => weightS x p c) s).data.toList (mapS (fun x => weightS x p c) t).data.toList = ordS s t p c) := rfl
    clear h
    go_enter Tryz.func25, Tryz.ntmps25
    go_wp2_with fail
    refine (askedColl_any p c _ _ _ [s, t] _ (RdS.new2 w s t _)).mono ?_
    rintro e w1 ⟨rfl, rfl⟩
    have hx1 := hid ((Ext.refl w).alloc_right (.cells #[.string s, .string t] 9))
    go_wp2_with fail
    refine (weights_any s p c ho.2.2 (by omega) _).mono ?_
    rintro e w2 ⟨rfl, hx2⟩
    have hx2 := hid (Ext.trans hx1.out hx2)
    go_wp2_with fail
    refine (weights_any t p c ho.2.2 (by omega) _).mono ?_
    rintro e w3 ⟨rfl, hx3⟩
    have hx3 := hid (Ext.trans hx2.out hx3)
    go_wp2_with fail
    refine (Compare_any _ _ _).mono ?_
    rintro e w4 ⟨rfl, rfl⟩
    rw [hv.out]
    go_wp2
    go_ret2
    exact ⟨by rw [Fin.out, Fin2.out]; rfl, hx3.out⟩
  · have e1 : (askC p c [s, t] != 0) = true := by simp [h]
    have Fin : Hid (okI p c [s, t] (ordS s t p c) = 0) := by unfold Hid okI; rw [if_neg h]
    clear h
    go_enter Tryz.func25, Tryz.ntmps25
    go_wp2_with fail
    refine (askedColl_any p c _ _ _ [s, t] _ (RdS.new2 w s t _)).mono ?_
    rintro e w1 ⟨rfl, rfl⟩
    go_wp2
    go_ret2
    exact ⟨by rw [Fin.out]; rfl, (Ext.refl w).alloc_right _⟩
end Go.Proofs.YtjjikkhhlpikbaaGreatDoor.Pg
namespace Go.Proofs.YtjjikkhhlpikbaaGreatDoor.Ky
open Go.RowKit
theorem both_any (k n : Int) (s : ByteArray) (k' n' : Int) (s' : ByteArray) (w : World) : Calls Tryz.prog 57 #[vV k n s, vV k' n' s'] w (Give (.int .i64 (bothE k n s k' n' s')) w) := by
  unfold vV
  have hx0 := hid (((Ext.refl w).alloc_right (.cells #[.int .i64 k, .int .i64 n, .string s] 25)).alloc_right (.cells #[.int .i64 k', .int .i64 n', .string s'] 25))
  by_cases h : valE k n s = 0
  · have e1 : (valE k n s != 0) = false := by simp [h]
    have Fin : Hid (bothE k n s k' n' s' = valE k' n' s') := by unfold Hid bothE; rw [if_neg (by simpa using h)]
    clear h
    go_enter Tryz.func57, Tryz.ntmps57
    go_wp2_with fail
    refine (Validate_any k n s _).mono ?_
    rintro e w1 ⟨rfl, hx1⟩
    have hE := hid (hx0.out.trans hx1)
    have c0 : w1.cell? ⟨w.heap.size + 1, 0, none⟩ = some (.int .i64 k') := hx1.cell (by go_simp)
    have c1 : w1.cell? ⟨w.heap.size + 1, 1, none⟩ = some (.int .i64 n') := hx1.cell (by go_simp)
    have c2 : w1.cell? ⟨w.heap.size + 1, 2, none⟩ = some (.string s') := hx1.cell (by go_simp)
    clear hx1
    go_wp2_with fail
    refine (Validate_any k' n' s' _).mono ?_
    rintro e w2 ⟨rfl, hx2⟩
    have hE2 := hid (hE.out.trans hx2)
    clear hx2 c0 c1 c2
    go_wp2
    go_ret
    exact ⟨ret_int Fin.out.symm, hE2.out⟩
  · have e1 : (valE k n s != 0) = true := by simp [h]
    have Fin : Hid (bothE k n s k' n' s' = valE k n s) := by unfold Hid bothE; rw [if_pos h]
    clear h
    go_enter Tryz.func57, Tryz.ntmps57
    go_wp2_with fail
    refine (Validate_any k n s _).mono ?_
    rintro e w1 ⟨rfl, hx1⟩
    have hE := hid (hx0.out.trans hx1)
    clear hx1
    go_wp2
    go_ret
    exact ⟨ret_int Fin.out.symm, hE.out⟩
theorem isNaN_any (a : Int) (w : World) : Calls Tryz.prog 92 #[.int .i64 a] w fun e w' => e = .returned (.bool false) ∧ w = w' := by
  have h : (a != a) = false := by simp
  go_enter Tryz.func92, Tryz.ntmps92
  go_wp2
  go_ret
  exact ⟨rfl, rfl⟩
theorem cmpCompare_any (a b : Int) (w : World) : Calls Tryz.prog 58 #[.int .i64 a, .int .i64 b] w fun e w' => e = .returned (.int .i64 (cmpI a b)) ∧ w = w' := by
  by_cases h1 : a < b
  · have d1 : decide (a < b) = true := by simpa using h1
    have Fin : Hid (cmpI a b = -1) := by unfold Hid cmpI; rw [if_pos h1]
    clear h1
    go_enter Tryz.func58, Tryz.ntmps58
    go_wp2_with fail
    refine (isNaN_any _ _).mono ?_
    rintro e w' ⟨rfl, rfl⟩
    go_wp2_with fail
    refine (isNaN_any _ _).mono ?_
    rintro e w' ⟨rfl, rfl⟩
    go_wp2
    go_ret
    exact ⟨ret_int Fin.out.symm, rfl⟩
  · have d1 : decide (a < b) = false := by simpa using h1
    by_cases h2 : b < a
    · have d2 : decide (b < a) = true := by simpa using h2
      have Fin : Hid (cmpI a b = 1) := by unfold Hid cmpI; rw [if_neg h1, if_pos h2]
      clear h1 h2
      go_enter Tryz.func58, Tryz.ntmps58
      go_wp2_with fail
      refine (isNaN_any _ _).mono ?_
      rintro e w' ⟨rfl, rfl⟩
      go_wp2_with fail
      refine (isNaN_any _ _).mono ?_
      rintro e w' ⟨rfl, rfl⟩
      go_wp2
      go_ret
      exact ⟨ret_int Fin.out.symm, rfl⟩
    · have d2 : decide (b < a) = false := by simpa using h2
      have Fin : Hid (cmpI a b = 0) := by unfold Hid cmpI; rw [if_neg h1, if_neg h2]
      clear h1 h2
      go_enter Tryz.func58, Tryz.ntmps58
      go_wp2_with fail
      refine (isNaN_any _ _).mono ?_
      rintro e w' ⟨rfl, rfl⟩
      go_wp2_with fail
      refine (isNaN_any _ _).mono ?_
      rintro e w' ⟨rfl, rfl⟩
      go_wp2
      go_ret
      exact ⟨ret_int Fin.out.symm, rfl⟩
theorem cmpStr_any (a b : ByteArray) (w : World) :
    Calls Tryz.prog 90 #[.string a, .string b] w fun e w' => e = .returned (.int .i64 (Lib.compareBytes a.toList b.toList)) ∧ w = w' := by
  rw [ByteArray.toList_eq, ByteArray.toList_eq]
  go_enter Tryz.func90, Tryz.ntmps90
  go_wp2
  rw [run_callFunc_extern Tryz.func122 (by kernel_rfl) (by kernel_rfl) (by kernel_rfl) (e := Extern.BytealgCompare.compare) (by kernel_rfl), Lib.run_compareString]
  simp only [Result.andThen]
  rw [Oper.upon_value]
  go_wp2
  go_ret
  exact ⟨rfl, rfl⟩
theorem sCompare_any (a b : ByteArray) (w : World) :
    Calls Tryz.prog 55 #[.string a, .string b] w fun e w' => e = .returned (.int .i64 (Lib.compareBytes a.toList b.toList)) ∧ w = w' := by
  go_enter Tryz.func55, Tryz.ntmps55
  go_wp2_with (go_at_call 90; refine (cmpStr_any _ _ _).mono ?_; rintro e w' ⟨rfl, rfl⟩)
  go_ret
  exact ⟨rfl, rfl⟩
theorem Compare_any (k n : Int) (s : ByteArray) (k' n' : Int) (s' : ByteArray) (w : World) : Calls Tryz.prog 26 #[vV k n s, vV k' n' s'] w (Give2 (cmpO k n s k' n' s') (cmpE k n s k' n' s') w) := by
  unfold vV
  by_cases hb : bothE k n s k' n' s' = 0
  · have e1 : (bothE k n s k' n' s' != 0) = false := by simp [hb]
    have hz := both_size hb
    by_cases hk : k = k'
    · subst hk
      have d1 : (k != k) = false := by simp
      by_cases k0 : k = 0
      · subst k0
        have Fin : Hid (cmpO 0 n s 0 n' s' = 0 ∧ cmpE 0 n s 0 n' s' = 6) := by unfold Hid cmpO cmpE; simp [hb]
        clear hb
        go_enter Tryz.func26, Tryz.ntmps26
        go_wp2_with fail
        refine (both_any 0 n s 0 n' s' _).mono ?_
        rintro e w1 ⟨rfl, hx1⟩
        have c0_0_0 : w1.cell? ⟨w.heap.size, 0, none⟩ = some (.int .i64 0) := hx1.cell (by go_simp)
        have c0_0_1 : w1.cell? ⟨w.heap.size, 1, none⟩ = some (.int .i64 n) := hx1.cell (by go_simp)
        have c0_0_2 : w1.cell? ⟨w.heap.size, 2, none⟩ = some (.string s) := hx1.cell (by go_simp)
        have c0_1_0 : w1.cell? ⟨w.heap.size + 1, 0, none⟩ = some (.int .i64 0) := hx1.cell (by go_simp)
        have c0_1_1 : w1.cell? ⟨w.heap.size + 1, 1, none⟩ = some (.int .i64 n') := hx1.cell (by go_simp)
        have c0_1_2 : w1.cell? ⟨w.heap.size + 1, 2, none⟩ = some (.string s') := hx1.cell (by go_simp)
        have hE := hid (Ext.trans (((Ext.refl w).alloc_right _).alloc_right _) hx1)
        have lt_1 : w.heap.size < w1.heap.size := World.block_lt_of_cell? w1 _ c0_0_0
        have lt_2 : w.heap.size + 1 < w1.heap.size := World.block_lt_of_cell? w1 _ c0_1_0
        clear hx1
        go_wp2
        go_ret2
        exact ⟨by rw [Fin.out.1, Fin.out.2]; rfl, hE.out⟩
      · have d0 : (k == 0) = false := by simpa using k0
        by_cases k4 : k = 4
        · subst k4
          have Fin : Hid (cmpO 4 n s 4 n' s' = Lib.compareBytes s.toList s'.toList ∧ cmpE 4 n s 4 n' s' = 0) := by unfold Hid cmpO cmpE; simp [hb]
          clear hb
          go_enter Tryz.func26, Tryz.ntmps26
          go_wp2_with fail
          refine (both_any 4 n s 4 n' s' _).mono ?_
          rintro e w1 ⟨rfl, hx1⟩
          have c0_0_0 : w1.cell? ⟨w.heap.size, 0, none⟩ = some (.int .i64 4) := hx1.cell (by go_simp)
          have c0_0_1 : w1.cell? ⟨w.heap.size, 1, none⟩ = some (.int .i64 n) := hx1.cell (by go_simp)
          have c0_0_2 : w1.cell? ⟨w.heap.size, 2, none⟩ = some (.string s) := hx1.cell (by go_simp)
          have c0_1_0 : w1.cell? ⟨w.heap.size + 1, 0, none⟩ = some (.int .i64 4) := hx1.cell (by go_simp)
          have c0_1_1 : w1.cell? ⟨w.heap.size + 1, 1, none⟩ = some (.int .i64 n') := hx1.cell (by go_simp)
          have c0_1_2 : w1.cell? ⟨w.heap.size + 1, 2, none⟩ = some (.string s') := hx1.cell (by go_simp)
          have hE := hid (Ext.trans (((Ext.refl w).alloc_right _).alloc_right _) hx1)
          have lt_1 : w.heap.size < w1.heap.size := World.block_lt_of_cell? w1 _ c0_0_0
          have lt_2 : w.heap.size + 1 < w1.heap.size := World.block_lt_of_cell? w1 _ c0_1_0
          clear hx1
          go_wp2_with fail
          refine (sCompare_any _ _ _).mono ?_
          rintro e w' ⟨rfl, rfl⟩
          go_wp2
          go_ret2
          exact ⟨by rw [Fin.out.1, Fin.out.2]; rfl, hE.out⟩
        · have d4 : (k == 4) = false := by simpa using k4
          have Fin : Hid (cmpO k n s k n' s' = cmpI n n' ∧ cmpE k n s k n' s' = 0) := by unfold Hid cmpO cmpE; simp [hb, k0, k4]
          clear hb k0 k4
          go_enter Tryz.func26, Tryz.ntmps26
          go_wp2_with fail
          refine (both_any k n s k n' s' _).mono ?_
          rintro e w1 ⟨rfl, hx1⟩
          have c0_0_0 : w1.cell? ⟨w.heap.size, 0, none⟩ = some (.int .i64 k) := hx1.cell (by go_simp)
          have c0_0_1 : w1.cell? ⟨w.heap.size, 1, none⟩ = some (.int .i64 n) := hx1.cell (by go_simp)
          have c0_0_2 : w1.cell? ⟨w.heap.size, 2, none⟩ = some (.string s) := hx1.cell (by go_simp)
          have c0_1_0 : w1.cell? ⟨w.heap.size + 1, 0, none⟩ = some (.int .i64 k) := hx1.cell (by go_simp)
          have c0_1_1 : w1.cell? ⟨w.heap.size + 1, 1, none⟩ = some (.int .i64 n') := hx1.cell (by go_simp)
          have c0_1_2 : w1.cell? ⟨w.heap.size + 1, 2, none⟩ = some (.string s') := hx1.cell (by go_simp)
          have hE := hid (Ext.trans (((Ext.refl w).alloc_right _).alloc_right _) hx1)
          have lt_1 : w.heap.size < w1.heap.size := World.block_lt_of_cell? w1 _ c0_0_0
          have lt_2 : w.heap.size + 1 < w1.heap.size := World.block_lt_of_cell? w1 _ c0_1_0
          clear hx1
          go_wp2_with fail
          refine (cmpCompare_any _ _ _).mono ?_
          rintro e w' ⟨rfl, rfl⟩
          go_wp2
          go_ret2
          exact ⟨by rw [Fin.out.1, Fin.out.2]; rfl, hE.out⟩
    · have d1 : (k != k') = true := by simpa using hk
      have Fin : Hid (cmpO k n s k' n' s' = 0 ∧ cmpE k n s k' n' s' = 6) := by unfold Hid cmpO cmpE; simp [hb, hk]
      clear hb hk
      go_enter Tryz.func26, Tryz.ntmps26
      go_wp2_with fail
      refine (both_any k n s k' n' s' _).mono ?_
      rintro e w1 ⟨rfl, hx1⟩
      have c0_0_0 : w1.cell? ⟨w.heap.size, 0, none⟩ = some (.int .i64 k) := hx1.cell (by go_simp)
      have c0_0_1 : w1.cell? ⟨w.heap.size, 1, none⟩ = some (.int .i64 n) := hx1.cell (by go_simp)
      have c0_0_2 : w1.cell? ⟨w.heap.size, 2, none⟩ = some (.string s) := hx1.cell (by go_simp)
      have c0_1_0 : w1.cell? ⟨w.heap.size + 1, 0, none⟩ = some (.int .i64 k') := hx1.cell (by go_simp)
      have c0_1_1 : w1.cell? ⟨w.heap.size + 1, 1, none⟩ = some (.int .i64 n') := hx1.cell (by go_simp)
      have c0_1_2 : w1.cell? ⟨w.heap.size + 1, 2, none⟩ = some (.string s') := hx1.cell (by go_simp)
      have hE := hid (Ext.trans (((Ext.refl w).alloc_right _).alloc_right _) hx1)
      have lt_1 : w.heap.size < w1.heap.size := World.block_lt_of_cell? w1 _ c0_0_0
      have lt_2 : w.heap.size + 1 < w1.heap.size := World.block_lt_of_cell? w1 _ c0_1_0
      clear hx1
      go_wp2
      go_ret2
      exact ⟨by rw [Fin.out.1, Fin.out.2]; rfl, hE.out⟩
  · have e1 : (bothE k n s k' n' s' != 0) = true := by simp [hb]
    have Fin : Hid (cmpO k n s k' n' s' = 0 ∧ cmpE k n s k' n' s' = bothE k n s k' n' s') := by unfold Hid cmpO cmpE; simp [hb]
    clear hb
    go_enter Tryz.func26, Tryz.ntmps26
    go_wp2_with fail
    refine (both_any k n s k' n' s' _).mono ?_
    rintro e w1 ⟨rfl, hx1⟩
    have c0_0_0 : w1.cell? ⟨w.heap.size, 0, none⟩ = some (.int .i64 k) := hx1.cell (by go_simp)
    have c0_0_1 : w1.cell? ⟨w.heap.size, 1, none⟩ = some (.int .i64 n) := hx1.cell (by go_simp)
    have c0_0_2 : w1.cell? ⟨w.heap.size, 2, none⟩ = some (.string s) := hx1.cell (by go_simp)
    have c0_1_0 : w1.cell? ⟨w.heap.size + 1, 0, none⟩ = some (.int .i64 k') := hx1.cell (by go_simp)
    have c0_1_1 : w1.cell? ⟨w.heap.size + 1, 1, none⟩ = some (.int .i64 n') := hx1.cell (by go_simp)
    have c0_1_2 : w1.cell? ⟨w.heap.size + 1, 2, none⟩ = some (.string s') := hx1.cell (by go_simp)
    have hE := hid (Ext.trans (((Ext.refl w).alloc_right _).alloc_right _) hx1)
    have lt_1 : w.heap.size < w1.heap.size := World.block_lt_of_cell? w1 _ c0_0_0
    have lt_2 : w.heap.size + 1 < w1.heap.size := World.block_lt_of_cell? w1 _ c0_1_0
    clear hx1
    go_wp2
    go_ret2
    exact ⟨by rw [Fin.out.1, Fin.out.2]; rfl, hE.out⟩
end Go.Proofs.YtjjikkhhlpikbaaGreatDoor.Ky
namespace Go.Proofs.YtjjikkhhlpikbaaGreatDoor.Ky
open Go.RowKit Go.Shelf
def befN (k n : Int) (s : ByteArray) (k' n' : Int) (s' : ByteArray) (p c : Int) : Int := if k = k' then (if k = 4 then Pg.okI p c [s, s'] (Pg.ordS s s' p c) else if k = 0 then 0 else cmpO k n s k' n' s') else cmpI k k'
def befB (N r r' : Int) : Bool := decide (N < 0) || (N == 0 && decide (r < r'))
theorem cmpI_self (a : Int) : cmpI a a = 0 := by unfold cmpI; rw [if_neg (by omega), if_neg (by omega)]
theorem cmpI_ne {a b : Int} (h : a ≠ b) : cmpI a b ≠ 0 := by
  unfold cmpI
  split
  · omega
  · rw [if_pos (by omega)]; omega
theorem before_any (k n : Int) (s key : ByteArray) (r k' n' : Int) (s' key' : ByteArray) (r' p c : Int) (w : World) : Calls Tryz.prog 10 #[.agg #[.int .i64 k, .int .i64 n, .string s, .string key, .int .i64 r], .agg #[.int .i64 k', .int .i64 n', .string s', .string key', .int .i64 r'], .int .i64 p, .int .i64 c] w (Give (.bool (befB (befN k n s k' n' s' p c) r r')) w) := by
  have hx1 := (Ext.refl w).alloc_right (.cells #[.int .i64 k, .int .i64 n, .string s, .string key, .int .i64 r] 36)
  have ha1 := heap_alloc_new w (.cells #[.int .i64 k, .int .i64 n, .string s, .string key, .int .i64 r] 36)
  have hx2 := (Ext.refl (w.alloc (.cells #[.int .i64 k, .int .i64 n, .string s, .string key, .int .i64 r] 36))).alloc_right (.cells #[.int .i64 k', .int .i64 n', .string s', .string key', .int .i64 r'] 36)
  have ha2 := heap_alloc_new (w.alloc (.cells #[.int .i64 k, .int .i64 n, .string s, .string key, .int .i64 r] 36)) (.cells #[.int .i64 k', .int .i64 n', .string s', .string key', .int .i64 r'] 36)
  replace ha1 := (hx2.block (Array.getElem?_eq_some_iff.1 ha1).1).trans ha1
  rw [World.size_alloc] at ha2
  replace hx1 := hid (hx1.trans hx2)
  clear hx2
  go_enter Tryz.func10, Tryz.ntmps10
  go_upto_region 1 with fail
  try simp only [World.size_alloc]
  obtain ⟨b0, hb0⟩ : ∃ b0, b0 = w.heap.size := ⟨_, rfl⟩
  obtain ⟨b1, hb1⟩ : ∃ b1, b1 = b0 + 1 := ⟨_, rfl⟩
  rw [← hb0] at ha1 ha2
  rw [← hb1] at ha2
  simp only [← hb0]
  simp only [← hb1]
  clear hb0 hb1
  generalize (w.alloc (.cells #[.int .i64 k, .int .i64 n, .string s, .string key, .int .i64 r] 36)).alloc (.cells #[.int .i64 k', .int .i64 n', .string s', .string key', .int .i64 r'] 36) = w1 at *
  have hc : Hid (∀ w', Ext w1 w' → w'.cell? ⟨b0, 0, none⟩ = some (.int .i64 k) ∧ w'.cell? ⟨b0, 1, none⟩ = some (.int .i64 n) ∧ w'.cell? ⟨b0, 2, none⟩ = some (.string s) ∧ w'.cell? ⟨b0, 4, none⟩ = some (.int .i64 r) ∧ w'.cell? ⟨b1, 0, none⟩ = some (.int .i64 k') ∧ w'.cell? ⟨b1, 1, none⟩ = some (.int .i64 n') ∧ w'.cell? ⟨b1, 2, none⟩ = some (.string s') ∧ w'.cell? ⟨b1, 4, none⟩ = some (.int .i64 r') ∧ b0 < w'.heap.size ∧ b1 < w'.heap.size) := fun w' hx =>
    ⟨hx.cell (by rw [Lib.cell_of_heap ha1]; rfl), hx.cell (by rw [Lib.cell_of_heap ha1]; rfl), hx.cell (by rw [Lib.cell_of_heap ha1]; rfl), hx.cell (by rw [Lib.cell_of_heap ha1]; rfl), hx.cell (by rw [Lib.cell_of_heap ha2]; rfl), hx.cell (by rw [Lib.cell_of_heap ha2]; rfl), hx.cell (by rw [Lib.cell_of_heap ha2]; rfl), hx.cell (by rw [Lib.cell_of_heap ha2]; rfl), Nat.lt_of_lt_of_le (Array.getElem?_eq_some_iff.1 ha1).1 hx.size, Nat.lt_of_lt_of_le (Array.getElem?_eq_some_iff.1 ha2).1 hx.size⟩
  clear ha1 ha2
  obtain ⟨x0, x1, x2, x4, y0, y1, y2, y4, l0, l1⟩ := hc.out w1 (Ext.refl _)
  go_wp2_with fail
  refine (rCmpI_any k k' w1).mono ?_
  rintro e w2 ⟨rfl, rfl⟩
  by_cases hk : k = k'
  · subst hk
    rw [cmpI_self]
    by_cases h4 : k = 4
    · subst h4
      have hN : Hid (befN 4 n s 4 n' s' p c = Pg.okI p c [s, s'] (Pg.ordS s s' p c)) := by unfold Hid befN; rw [if_pos rfl, if_pos rfl]
      go_wp2_with fail
      refine (Pg.Order_any s s' p c w1).mono ?_
      rintro e w3 ⟨rfl, hx3⟩
      clear x0 x1 x2 x4 y0 y1 y2 y4 l0 l1
      obtain ⟨x0, x1, x2, x4, y0, y1, y2, y4, l0, l1⟩ := hc.out w3 hx3
      generalize Pg.okI p c [s, s'] (Pg.ordS s s' p c) = N at *
      replace hx1 := hid (hx1.out.trans hx3)
      clear hx3 hc
      by_cases q1 : N < 0
      · have hB : Hid (befB N r r' = true) := by unfold Hid befB; rw [decide_eq_true q1]; rfl
        go_wp2
        go_ret
        exact ⟨by rw [hN.out, hB.out]; rfl, hx1.out⟩
      · by_cases q2 : N = 0
        · subst q2
          have hB : Hid (befB 0 r r' = decide (r < r')) := by unfold Hid befB; simp
          go_wp2
          go_ret
          exact ⟨by rw [hN.out, hB.out]; rfl, hx1.out⟩
        · have q2' : (N == 0) = false := by rw [beq_eq_false_iff_ne]; exact q2
          have hB : Hid (befB N r r' = false) := by unfold Hid befB; rw [decide_eq_false q1, q2']; rfl
          go_wp2
          go_ret
          exact ⟨by rw [hN.out, hB.out]; first | rfl | (show Ending.returned (.bool (decide (N < 0))) = _; rw [decide_eq_false (by omega)]), hx1.out⟩
    · have h4' : (k == 4) = false := by rw [beq_eq_false_iff_ne]; exact h4
      by_cases h0 : k = 0
      · subst h0
        obtain ⟨N, hN0⟩ : ∃ N : Int, N = 0 := ⟨0, rfl⟩
        have hN : Hid (befN 0 n s 0 n' s' p c = N) := by unfold Hid befN; rw [if_pos rfl, if_neg (by decide), if_pos rfl, hN0]
        subst hN0
        clear hc
        have hB : Hid (befB 0 r r' = decide (r < r')) := by unfold Hid befB; simp
        go_wp2
        go_ret
        exact ⟨by rw [hN.out, hB.out]; rfl, hx1.out⟩
      · have h0' : (k == 0) = false := by rw [beq_eq_false_iff_ne]; exact h0
        have hN : Hid (befN k n s k n' s' p c = cmpO k n s k n' s') := by unfold Hid befN; rw [if_pos rfl, if_neg h4, if_neg h0]
        go_wp2_with fail
        refine (Compare_any k n s k n' s' w1).mono ?_
        rintro e w3 ⟨rfl, hx3⟩
        clear x0 x1 x2 x4 y0 y1 y2 y4 l0 l1
        obtain ⟨x0, x1, x2, x4, y0, y1, y2, y4, l0, l1⟩ := hc.out w3 hx3
        generalize cmpO k n s k n' s' = N at *
        replace hx1 := hid (hx1.out.trans hx3)
        clear hx3 hc
        by_cases q1 : N < 0
        · have hB : Hid (befB N r r' = true) := by unfold Hid befB; rw [decide_eq_true q1]; rfl
          go_wp2
          go_ret
          exact ⟨by rw [hN.out, hB.out]; rfl, hx1.out⟩
        · by_cases q2 : N = 0
          · subst q2
            have hB : Hid (befB 0 r r' = decide (r < r')) := by unfold Hid befB; simp
            go_wp2
            go_ret
            exact ⟨by rw [hN.out, hB.out]; rfl, hx1.out⟩
          · have q2' : (N == 0) = false := by rw [beq_eq_false_iff_ne]; exact q2
            have hB : Hid (befB N r r' = false) := by unfold Hid befB; rw [decide_eq_false q1, q2']; rfl
            go_wp2
            go_ret
            exact ⟨by rw [hN.out, hB.out]; first | rfl | (show Ending.returned (.bool (decide (N < 0))) = _; rw [decide_eq_false (by omega)]), hx1.out⟩
  · have hN : Hid (befN k n s k' n' s' p c = cmpI k k') := by unfold Hid befN; rw [if_neg hk]
    have hne := cmpI_ne hk
    have hne' : (cmpI k k' == 0) = false := by rw [beq_eq_false_iff_ne]; exact hne
    generalize cmpI k k' = N at *
    clear hc
    by_cases q1 : N < 0
    · have hB : Hid (befB N r r' = true) := by unfold Hid befB; rw [decide_eq_true q1]; rfl
      go_wp2
      go_ret
      exact ⟨by rw [hN.out, hB.out]; rfl, hx1.out⟩
    · by_cases q2 : N = 0
      · exact absurd q2 hne
      · have q2' : (N == 0) = false := by rw [beq_eq_false_iff_ne]; exact q2
        have hB : Hid (befB N r r' = false) := by unfold Hid befB; rw [decide_eq_false q1, q2']; rfl
        go_wp2
        go_ret
        exact ⟨by rw [hN.out, hB.out]; first | rfl | (show Ending.returned (.bool (decide (N < 0))) = _; rw [decide_eq_false (by omega)]), hx1.out⟩
end Go.Proofs.YtjjikkhhlpikbaaGreatDoor.Ky
