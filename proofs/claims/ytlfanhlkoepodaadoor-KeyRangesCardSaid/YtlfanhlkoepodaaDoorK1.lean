/-
  Bytes turned for an order, and numbers with their highest byte first: the program and the reference.
-/
import Derived.Test.YtlfanhlkoepodaaDoorKP
import Derived.Test.YtlfanhlkoepodaaDoorKVb
import Derived.Test.YtlfanhlkoepodaaDoorKPg
import Derived.Laws.MakeOwn
namespace Go.Proofs.YtlfanhlkoepodaaDoor
open Go.RowKit
set_option linter.unusedVariables false
set_option linter.unusedSimpArgs false
attribute [local go_sem] Pg.conv_new
theorem bOf_byo (n : Nat) : Pg.bOf (n : Int) = byo n := rfl
theorem turn_map (s : ByteArray) : Pg.mapS (fun x => 255 - x) s = strB (turnL s.toList) := by
  unfold Pg.mapS turnL Pg.strB strB
  congr 2
  apply List.map_congr_left
  intro b _
  show Pg.bOf (255 - (b.toNat : Int)) = byo (255 - b.toNat)
  have := b.toNat_lt
  rw [← bOf_byo, show ((255 - b.toNat : Nat) : Int) = 255 - (b.toNat : Int) by omega]
theorem turn1_any (s : ByteArray) (w : World) : Calls Tryd.prog 80 #[.string s] w fun e w' => e = .returned (.string s) ∧ w = w' := by
  go_enter Tryd.func80, Tryd.ntmps80
  go_wp2
  go_ret
  exact ⟨rfl, rfl⟩
theorem enterT1 (args : Array Value) (w : World) : (callFunc 80 args).run Tryd.prog w = .ok (.enter 80 args) w := by kernel_rfl
theorem enterT2 (args : Array Value) (w : World) : (callFunc 81 args).run Tryd.prog w = .ok (.enter 81 args) w := by kernel_rfl
set_option maxRecDepth 100000 in
set_option maxHeartbeats 4000000 in
theorem turn2_any (s : ByteArray) (hsz : s.size ≤ 1000000) (w : World) : Calls Tryd.prog 81 #[.string s] w (Give (.string (strB (turnL s.toList))) w) := by
  have hcap := Pg.capB_in w s hsz
  have hB := hid (Pg.newB_bk w s)
  have hE := hid (Pg.newB_ext w s)
  have hlen : Hid (s.toList.length = s.size) := hB.out.1
  have hg : w.heap.size < (Pg.newB w s).heap.size := by simp [Pg.newB]
  have hfin := hid (Pg.mpTo_all (fun x => 255 - x) s.toList)
  go_enter Tryd.func81, Tryd.ntmps81
  go_wp2_with fail
  go_loopw [9] (fun i wr => ∃ k : Nat, k ≤ s.size ∧ i = .int .i64 k ∧ Hid (Pg.Bk wr w.heap.size s.size (Pg.mpTo (fun x => 255 - x) s.toList k)) ∧ Hid (Ext w wr)) (fun i _ => s.size - (intOf i).toNat)
  case atStart => exact ⟨0, by omega, rfl, hB, hE⟩
  case round =>
    obtain ⟨k, hk, rfl, hb, hx⟩ := hrel
    by_cases hlt : k < s.size
    · have hlt' : k < s.toList.length := by rw [hlen.out]; exact hlt
      have hc := (hb.out.2 k hlt).1
      have hfree := (hb.out.2 k hlt).2
      rw [Pg.mpTo_at _ _ k hlt'] at hc
      have hr := Pg.bth_in s.toList k
      have hst := hid (Pg.mpTo_succ (fun x => 255 - x) s.toList k hlt')
      have hb2 := hid (hb.out.set hlt (255 - Pg.bth s.toList k) (by omega) (by omega))
      have hx2 := hid (hx.out.set (p := ⟨w.heap.size, k, none⟩) (Nat.le_refl _) (.int .u8 (255 - Pg.bth s.toList k)))
      have ew := Pg.u8_in (255 - Pg.bth s.toList k) (by omega) (by omega)
      clear hlt'
      generalize Pg.bth s.toList k = x at *
      go_wp2_with fail
      go_roundw
      case rel => exact ⟨k + 1, by omega, by go_num, by rw [← hst.out]; exact hb2, hx2⟩
      case measure => simp [intOf]; omega
    · obtain rfl : k = s.size := by omega
      have hrd := hb.out.rd hcap.1 hcap.2
      have hcv := Pg.conv_RdB hrd
      rw [← hlen.out, hfin.out] at hcv
      rw [hlen.out] at hcv
      have hmap : Pg.strB (s.toList.map fun b => Pg.bOf (255 - (b.toNat : Int))) = strB (turnL s.toList) := turn_map s
      rw [hmap] at hcv
      clear hmap hrd
      go_wp2
      go_ret
      exact ⟨rfl, hx.out⟩
def turnS (d : Bool) (s : ByteArray) : ByteArray := if d then strB (turnL s.toList) else s
theorem turnS_t (s : ByteArray) : turnS true s = strB (turnL s.toList) := rfl
theorem turnS_f (s : ByteArray) : turnS false s = s := rfl
theorem turnS_list (d : Bool) (s : ByteArray) : (turnS d s).toList = turnD d s.toList := by cases d <;> simp [turnS, turnD, strB_toList]
set_option maxRecDepth 100000 in
set_option maxHeartbeats 4000000 in
theorem rturned_any (s : ByteArray) (d : Bool) (hsz : s.size ≤ 1000000) (w : World) : Calls Tryd.prog 68 #[.string s, .bool d] w (Give (.string (turnS d s)) w) := by
  cases d with
  | false =>
    rw [turnS_f]
    go_enter Tryd.func68, Tryd.ntmps68
    go_wp2
    go_ret
    exact ⟨rfl, Ext.refl _⟩
  | true =>
    rw [turnS_t]
    have hcap := Pg.capB_in w s hsz
    have hB := hid (Pg.newB_bk w s)
    have hE := hid (Pg.newB_ext w s)
    have hlen : Hid (s.toList.length = s.size) := hB.out.1
    have hg : w.heap.size < (Pg.newB w s).heap.size := by simp [Pg.newB]
    have hfin := hid (Pg.mpTo_all (fun x => 255 - x) s.toList)
    go_enter Tryd.func68, Tryd.ntmps68
    go_wp2_with fail
    go_loopw [6] (fun i wr => ∃ k : Nat, k ≤ s.size ∧ i = .int .i64 k ∧ Hid (Pg.Bk wr w.heap.size s.size (Pg.mpTo (fun x => 255 - x) s.toList k)) ∧ Hid (Ext w wr)) (fun i _ => s.size - (intOf i).toNat)
    case atStart => exact ⟨0, by omega, rfl, hB, hE⟩
    case round =>
      obtain ⟨k, hk, rfl, hb, hx⟩ := hrel
      by_cases hlt : k < s.size
      · have hlt' : k < s.toList.length := by rw [hlen.out]; exact hlt
        have hc := (hb.out.2 k hlt).1
        have hfree := (hb.out.2 k hlt).2
        rw [Pg.mpTo_at _ _ k hlt'] at hc
        have hr := Pg.bth_in s.toList k
        have hst := hid (Pg.mpTo_succ (fun x => 255 - x) s.toList k hlt')
        have hb2 := hid (hb.out.set hlt (255 - Pg.bth s.toList k) (by omega) (by omega))
        have hx2 := hid (hx.out.set (p := ⟨w.heap.size, k, none⟩) (Nat.le_refl _) (.int .u8 (255 - Pg.bth s.toList k)))
        have ew := Pg.u8_in (255 - Pg.bth s.toList k) (by omega) (by omega)
        clear hlt'
        generalize Pg.bth s.toList k = x at *
        go_wp2_with fail
        go_roundw
        case rel => exact ⟨k + 1, by omega, by go_num, by rw [← hst.out]; exact hb2, hx2⟩
        case measure => simp [intOf]; omega
      · obtain rfl : k = s.size := by omega
        have hrd := hb.out.rd hcap.1 hcap.2
        have hcv := Pg.conv_RdB hrd
        rw [← hlen.out, hfin.out] at hcv
        rw [hlen.out] at hcv
        have hmap : Pg.strB (s.toList.map fun b => Pg.bOf (255 - (b.toNat : Int))) = strB (turnL s.toList) := turn_map s
        rw [hmap] at hcv
        clear hmap hrd
        go_wp2
        go_ret
        exact ⟨rfl, hx.out⟩
theorem turner_any (d : Bool) (w : World) : Calls Tryd.prog 56 #[.bool d] w fun e w' => e = .returned (.func (.func (if d then 81 else 80)) #[] #[]) ∧ w = w' := by
  cases d with
  | false =>
    go_enter Tryd.func56, Tryd.ntmps56
    go_wp2
    go_ret
    exact ⟨rfl, rfl⟩
  | true =>
    go_enter Tryd.func56, Tryd.ntmps56
    go_wp2
    go_ret
    exact ⟨rfl, rfl⟩
/-- So many bytes of zero, and the last ones of a number. -/
def hiTo (n k j : Nat) : List UInt8 := List.replicate (k - j) 0 ++ highL n j
theorem hiTo_len {n k j : Nat} (h : j ≤ k) : (hiTo n k j).length = k := by unfold hiTo; rw [List.length_append, List.length_replicate, highL_len]; omega
theorem high_cons : ∀ (j n : Nat), highL n (j + 1) = byo (n / 256 ^ j % 256) :: highL n j
  | 0, n => by simp [highL]
  | j + 1, n => by
    rw [highL, high_cons j (n / 256), Nat.div_div_eq_div_mul, Nat.mul_comm 256, ← Nat.pow_succ]
    rfl
theorem hiTo_succ {n k j : Nat} (h : j < k) : (hiTo n k j).set (k - 1 - j) (byo (n / 256 ^ j % 256)) = hiTo n k (j + 1) := by
  unfold hiTo
  have e : k - j = (k - (j + 1)) + 1 := by omega
  rw [high_cons, e, List.replicate_succ', List.append_assoc]
  rw [show k - 1 - j = (List.replicate (k - (j + 1)) (0 : UInt8)).length by rw [List.length_replicate]; omega]
  rw [List.set_append_right _ _ (Nat.le_refl _), Nat.sub_self]
  rfl
theorem hiTo_all (n k : Nat) : hiTo n k k = highL n k := by unfold hiTo; rw [Nat.sub_self]; rfl
def newH (w : World) (k : Nat) : World := w.alloc (.cells (madeCells #[.int .u8 0] (k * 1)) 5)
theorem newH_ext (w : World) (k : Nat) : Ext w (newH w k) := (Ext.refl w).alloc_right _
theorem newH_bk (w : World) (k : Nat) : Pg.Bk (newH w k) w.heap.size k (List.replicate k 0) := by
  have hb : (newH w k).heap[w.heap.size]? = some (.cells (madeCells #[.int .u8 0] (k * 1)) 5) := heap_alloc_new w _
  refine ⟨List.length_replicate, fun j hj => ⟨?_, ?_⟩⟩
  · rw [cell_of_row _ w.heap.size j _ 5 _ hb]
    have hz : Pg.bth (List.replicate k 0) j = 0 := by
      unfold Pg.bth
      simp [List.getD, List.getElem?_replicate, hj]
    rw [hz]
    unfold madeCells
    have : j < (Array.range (k * 1)).size := by simp; exact hj
    rw [Array.getElem?_map, Array.getElem?_eq_getElem this]
    simp [Nat.mod_one]
  · unfold World.frozen?
    rw [hb]
    simp
set_option maxRecDepth 100000 in
set_option maxHeartbeats 4000000 in
theorem high_any (n k : Nat) (hn : n < 9223372036854775807) (h1 : 1 ≤ k) (hk : k ≤ 8) (w : World) : Calls Tryd.prog 82 #[.int .i64 n, .int .i64 k] w (Give (.string (strB (highL n k))) w) := by
  have info5 : (Tryd.prog.info? 5).map (fun i => (i.zero, i.size, i.bytes)) = some (some (.int .u8 0), 1, 1) := by kernel_rfl
  obtain ⟨i0, hi, hz0, hz1, hz2⟩ := info_parts info5
  have mk : ∀ wx, (Instr.makeSlice 49 (.int .i64 (k : Int)) (.int .i64 (k : Int))).run Tryd.prog wx = .ok (.slice (some ⟨wx.heap.size, 0, none⟩) k k) (newH wx k) := by
    intro wx
    have h := run_makeSlice (P := Tryd.prog) wx 49 5 i0 (.int .u8 0) Tryd.underlying49 hi hz0 .i64 .i64 (k : Int) (k : Int) (by omega) (by omega) (by rw [hz1]; omega) (by rw [hz2]; omega) (by omega)
    rw [hz1] at h
    simp only [Int.toNat_natCast] at h
    exact h
  clear info5 hi hz0 hz1 hz2
  have hE := hid (newH_ext w k)
  have hg : w.heap.size < (newH w k).heap.size := by simp [newH]
  have hB0 : Hid (Pg.Bk (newH w k) w.heap.size k (hiTo n k 0)) := by
    unfold Hid hiTo
    have := newH_bk w k
    rwa [Nat.sub_zero, show highL n 0 = [] from rfl, List.append_nil]
  have ek : IntKind.i64.wrap ((k : Int) - 1) = (k : Int) - 1 := IntWalk.i64_in _ (by omega)
  go_enter Tryd.func82, Tryd.ntmps82
  go_wp2_with fail
  go_loopw [0, 6] (fun m i wr => ∃ (j : Nat) (x : Int), j ≤ k ∧ i = .int .i64 x ∧ Hid (x = (k : Int) - 1 - (j : Int)) ∧ m = .int .i64 ((n / 256 ^ j : Nat) : Int) ∧ Hid (Pg.Bk wr w.heap.size k (hiTo n k j)) ∧ Hid (Ext w wr)) (fun _ i _ => (intOf i + 1).toNat)
  case atStart => exact ⟨0, (k : Int) - 1, by omega, rfl, by unfold Hid; omega, by simp, hB0, hE⟩
  case round =>
    obtain ⟨j, x, hj, rfl, hxj, rfl, hb, hx⟩ := hrel
    by_cases hlt : j < k
    · obtain ⟨p, hp⟩ : ∃ p : Nat, p = k - 1 - j := ⟨_, rfl⟩
      obtain rfl : x = (p : Int) := by have := hxj.out; omega
      have hpk : p < k := by omega
      have hc := (hb.out.2 p hpk).1
      have hfree := (hb.out.2 p hpk).2
      have hst := hiTo_succ (n := n) hlt
      have hd := hid (show n / 256 ^ (j + 1) = n / 256 ^ j / 256 by rw [Nat.div_div_eq_div_mul, Nat.pow_succ])
      have hle : n / 256 ^ j ≤ n := Nat.div_le_self _ _
      have hp1 := hid hp
      rw [← hp] at hst
      have hst := hid hst
      clear hp
      generalize n / 256 ^ j = m at *
      have ew : IntKind.u8.wrap (m : Int) = ((m % 256 : Nat) : Int) := by simp [IntKind.wrap, IntKind.bits, IntKind.signed]
      have hb2 := hid (hb.out.set hpk ((m % 256 : Nat) : Int) (by omega) (by omega))
      have hx2 := hid (hx.out.set (p := ⟨w.heap.size, p, none⟩) (Nat.le_refl _) (.int .u8 ((m % 256 : Nat) : Int)))
      have d0 : decide ((0 : Int) ≤ (p : Int)) = true := by simp
      have e1 : IntKind.i64.wrap ((p : Int) - 1) = (p : Int) - 1 := IntWalk.i64_in _ (by omega)
      have e2 : True := trivial
      generalize hr : ((m % 256 : Nat) : Int) = r at *
      go_wp2_with fail
      go_roundw
      case rel => exact ⟨j + 1, (p : Int) - 1, by omega, rfl, by unfold Hid; have := hp1.out; omega, by rw [hd.out]; rfl, by rw [← hst.out, ← bOf_byo, hr]; exact hb2, hx2⟩
      case measure => simp [intOf]
    · obtain rfl : j = k := by omega
      obtain rfl : x = -1 := by have := hxj.out; omega
      have hrd := hb.out.rd (Nat.le_refl _) (by unfold maxLen; omega)
      have hcv := Pg.conv_RdB hrd
      rw [hiTo_all] at hcv
      have hs : Pg.strB (highL n j) = strB (highL n j) := rfl
      rw [hs] at hcv
      clear hrd hs
      go_wp2
      go_ret
      exact ⟨rfl, hx.out⟩
set_option maxRecDepth 100000 in
set_option maxHeartbeats 4000000 in
theorem rhigh_any (n k : Nat) (hn : n < 9223372036854775807) (h1 : 1 ≤ k) (hk : k ≤ 8) (w : World) : Calls Tryd.prog 77 #[.int .i64 n, .int .i64 k] w (Give (.string (strB (highL n k))) w) := by
  have info5 : (Tryd.prog.info? 5).map (fun i => (i.zero, i.size, i.bytes)) = some (some (.int .u8 0), 1, 1) := by kernel_rfl
  obtain ⟨i0, hi, hz0, hz1, hz2⟩ := info_parts info5
  have mk : ∀ wx, (Instr.makeSlice 49 (.int .i64 (k : Int)) (.int .i64 (k : Int))).run Tryd.prog wx = .ok (.slice (some ⟨wx.heap.size, 0, none⟩) k k) (newH wx k) := by
    intro wx
    have h := run_makeSlice (P := Tryd.prog) wx 49 5 i0 (.int .u8 0) Tryd.underlying49 hi hz0 .i64 .i64 (k : Int) (k : Int) (by omega) (by omega) (by rw [hz1]; omega) (by rw [hz2]; omega) (by omega)
    rw [hz1] at h
    simp only [Int.toNat_natCast] at h
    exact h
  clear info5 hi hz0 hz1 hz2
  have hE := hid (newH_ext w k)
  have hg : w.heap.size < (newH w k).heap.size := by simp [newH]
  have hB0 : Hid (Pg.Bk (newH w k) w.heap.size k (hiTo n k 0)) := by
    unfold Hid hiTo
    have := newH_bk w k
    rwa [Nat.sub_zero, show highL n 0 = [] from rfl, List.append_nil]
  have ek : IntKind.i64.wrap ((k : Int) - 1) = (k : Int) - 1 := IntWalk.i64_in _ (by omega)
  go_enter Tryd.func77, Tryd.ntmps77
  go_wp2_with fail
  go_loopw [0, 6] (fun m i wr => ∃ (j : Nat) (x : Int), j ≤ k ∧ i = .int .i64 x ∧ Hid (x = (k : Int) - 1 - (j : Int)) ∧ m = .int .i64 ((n / 256 ^ j : Nat) : Int) ∧ Hid (Pg.Bk wr w.heap.size k (hiTo n k j)) ∧ Hid (Ext w wr)) (fun _ i _ => (intOf i + 1).toNat)
  case atStart => exact ⟨0, (k : Int) - 1, by omega, rfl, by unfold Hid; omega, by simp, hB0, hE⟩
  case round =>
    obtain ⟨j, x, hj, rfl, hxj, rfl, hb, hx⟩ := hrel
    by_cases hlt : j < k
    · obtain ⟨p, hp⟩ : ∃ p : Nat, p = k - 1 - j := ⟨_, rfl⟩
      obtain rfl : x = (p : Int) := by have := hxj.out; omega
      have hpk : p < k := by omega
      have hc := (hb.out.2 p hpk).1
      have hfree := (hb.out.2 p hpk).2
      have hst := hiTo_succ (n := n) hlt
      have hd := hid (show n / 256 ^ (j + 1) = n / 256 ^ j / 256 by rw [Nat.div_div_eq_div_mul, Nat.pow_succ])
      have hle : n / 256 ^ j ≤ n := Nat.div_le_self _ _
      have hp1 := hid hp
      rw [← hp] at hst
      have hst := hid hst
      clear hp
      generalize n / 256 ^ j = m at *
      have ew : IntKind.u8.wrap (m : Int) = ((m % 256 : Nat) : Int) := by simp [IntKind.wrap, IntKind.bits, IntKind.signed]
      have hb2 := hid (hb.out.set hpk ((m % 256 : Nat) : Int) (by omega) (by omega))
      have hx2 := hid (hx.out.set (p := ⟨w.heap.size, p, none⟩) (Nat.le_refl _) (.int .u8 ((m % 256 : Nat) : Int)))
      have d0 : decide ((0 : Int) ≤ (p : Int)) = true := by simp
      have e1 : IntKind.i64.wrap ((p : Int) - 1) = (p : Int) - 1 := IntWalk.i64_in _ (by omega)
      have e2 : IntKind.i64.wrap ((m : Int) % 256) = (m : Int) % 256 := IntWalk.i64_in _ (by omega)
      have e3 : IntKind.i64.wrap ((m : Int) / 256) = (m : Int) / 256 := IntWalk.i64_in _ (by omega)
      have e4 : IntKind.u8.wrap ((m : Int) % 256) = ((m % 256 : Nat) : Int) := by simp [IntKind.wrap, IntKind.bits, IntKind.signed]
      generalize hr : ((m % 256 : Nat) : Int) = r at *
      go_wp2_with fail
      go_roundw
      case rel => exact ⟨j + 1, (p : Int) - 1, by omega, rfl, by unfold Hid; have := hp1.out; omega, by rw [hd.out]; rfl, by rw [← hst.out, ← bOf_byo, hr]; exact hb2, hx2⟩
      case measure => simp [intOf]
    · obtain rfl : j = k := by omega
      obtain rfl : x = -1 := by have := hxj.out; omega
      have hrd := hb.out.rd (Nat.le_refl _) (by unfold maxLen; omega)
      have hcv := Pg.conv_RdB hrd
      rw [hiTo_all] at hcv
      have hs : Pg.strB (highL n j) = strB (highL n j) := rfl
      rw [hs] at hcv
      clear hrd hs
      go_wp2
      go_ret
      exact ⟨rfl, hx.out⟩
end Go.Proofs.YtlfanhlkoepodaaDoor
