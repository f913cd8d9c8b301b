/-
  The reference's digit of a sound.
-/
import Derived.Test.YtlhnabkfacmmnaaPg9
namespace Go.Proofs.Ytlhnabkfacmmnaa
open Go.RowKit
set_option linter.unusedVariables false
set_option linter.unusedSimpArgs false
def dl : List ByteArray := [{ data := #[] }, { data := #[66, 70, 80, 86] }, { data := #[67, 71, 74, 75, 81, 83, 88, 90] }, { data := #[68, 84] }, { data := #[76] }, { data := #[77, 78] }, { data := #[82] }]
def noIn (x : Int) (s : ByteArray) (j : Nat) : Bool := (s.data.toList.take j).all fun b => decide ((b.toNat : Int) ≠ x)
def noTo (x : Int) (k : Nat) : Bool := (dl.take k).all fun s => noIn x s s.size
theorem noIn_succ (x : Int) (s : ByteArray) (j : Nat) (hj : j < s.size) (h : noIn x s j = true) (hx : ((s[j].toNat : Int) == x) = false) : noIn x s (j + 1) = true := by
  have hj' : j < s.data.toList.length := hj
  unfold noIn at *
  rw [List.take_succ_eq_append_getElem hj', List.all_append, h]
  have hx0 : (s[j].toNat : Int) ≠ x := by simpa using hx
  have hx' : ((s.data.toList[j]'hj').toNat : Int) ≠ x := hx0
  simp only [List.all_cons, List.all_nil, Bool.and_true, Bool.true_and, decide_eq_true_eq]
  exact hx'
theorem noTo_succ (x : Int) (k : Nat) (hk : k < 7) (h : noTo x k = true) (h2 : noIn x (sth dl k) (sth dl k).size = true) : noTo x (k + 1) = true := by
  have hk' : k < dl.length := hk
  unfold noTo at *
  rw [List.take_succ_eq_append_getElem hk', List.all_append, h]
  have e : sth dl k = dl[k] := by simp [sth, List.getD, hk']
  rw [e] at h2
  simp [h2]
theorem hit_all : ∀ k : Fin 7, ∀ j : Fin (sth dl k.val).size, digS (((sth dl k.val)[j.val]'j.isLt).toNat : Int) = (k.val : Int) := by decide +kernel
theorem none_all : ∀ x : Fin 256, noTo (x.val : Int) 7 = true → digS (x.val : Int) = if (x.val : Int) == 72 || (x.val : Int) == 87 then -1 else 0 := by decide +kernel
set_option maxRecDepth 100000 in
set_option maxHeartbeats 2000000 in
theorem digit_any (x : Int) (w : World) (h0 : 0 ≤ x) (h255 : x ≤ 255) : Calls Try.prog 36 #[.int .u8 x] w fun e w' => e = .returned (.int .i64 (digS x)) ∧ Ext w w' := by
  have hr : Hid (RdS (w.alloc (.cells (strs dl).toArray 9)) (some ⟨w.heap.size, 0, none⟩) 7 7 dl) := Rd.new_ w (strs dl) 9 7 rfl (by decide)
  go_enter Try.func36, Try.ntmps36
  go_wp2_with fail
  have hx : Hid (Ext w (w.alloc (.cells (strs dl).toArray 9))) := (Ext.refl w).alloc_right _
  change Hid (RdS (w.alloc (.cells #[Value.string { data := #[] }, Value.string { data := #[66, 70, 80, 86] }, Value.string { data := #[67, 71, 74, 75, 81, 83, 88, 90] }, Value.string { data := #[68, 84] }, Value.string { data := #[76] }, Value.string { data := #[77, 78] }, Value.string { data := #[82] }] 9)) _ _ _ _) at hr
  change Hid (Ext w (w.alloc (.cells #[Value.string { data := #[] }, Value.string { data := #[66, 70, 80, 86] }, Value.string { data := #[67, 71, 74, 75, 81, 83, 88, 90] }, Value.string { data := #[68, 84] }, Value.string { data := #[76] }, Value.string { data := #[77, 78] }, Value.string { data := #[82] }] 9))) at hx
  generalize hw1 : w.alloc (.cells #[Value.string { data := #[] }, Value.string { data := #[66, 70, 80, 86] }, Value.string { data := #[67, 71, 74, 75, 81, 83, 88, 90] }, Value.string { data := #[68, 84] }, Value.string { data := #[76] }, Value.string { data := #[77, 78] }, Value.string { data := #[82] }] 9) = w1 at *
  clear hw1
  go_loopw [8] (fun i wr => (∃ k : Nat, k ≤ 7 ∧ i = .int .i64 k ∧ Hid (noTo x k = true)) ∧ wr = w1) (fun i _ => 7 - (intOf i).toNat)
  case atStart => exact ⟨⟨0, by omega, rfl, (rfl : noTo x 0 = true)⟩, rfl⟩
  case round =>
    obtain ⟨⟨k, hk, rfl, hno⟩, rfl⟩ := hrel
    by_cases hlt : k < 7
    · obtain ⟨ad, had, hc⟩ := hr.out.at_ hlt
      cases had
      rw [show (⟨w.heap.size, 0, none⟩ : Addr).add k = ⟨w.heap.size, k, none⟩ by unfold Addr.add; split <;> simp_all] at hc
      go_wp2_with fail
      go_loopw [5] (fun i wq => (∃ j : Nat, j ≤ (sth dl k).size ∧ i = .int .i64 j ∧ Hid (noIn x (sth dl k) j = true)) ∧ wq = wr) (fun i _ => (sth dl k).size - (intOf i).toNat)
      case atStart => exact ⟨⟨0, by omega, rfl, (rfl : noIn x (sth dl k) 0 = true)⟩, rfl⟩
      case round =>
        obtain ⟨⟨j, hj, rfl, hni⟩, rfl⟩ := hrel
        by_cases hlj : j < (sth dl k).size
        · rcases Bool.eq_false_or_eq_true (((sth dl k)[j].toNat : Int) == x) with hq | hq
          · have Fin : Hid ((k : Int) = digS x) := by
              unfold Hid
              have := hit_all ⟨k, hlt⟩ ⟨j, hlj⟩
              have e : ((sth dl k)[j].toNat : Int) = x := by simpa using hq
              rw [← e]
              exact this.symm
            go_wp2
            go_ret
            exact ⟨ret_int Fin.out, hx.out⟩
          · have hn2 := hid (noIn_succ x _ j hlj hni.out hq)
            have hsz : (sth dl k).size ≤ 8 := by
              have : ∀ k : Fin 7, (sth dl k.val).size ≤ 8 := by decide +kernel
              exact this ⟨k, hlt⟩
            have ew : wrap64 ((j : Int) + 1) = (j : Int) + 1 := by unfold wrap64; omega
            go_wp2
            go_roundw
            case rel => exact ⟨⟨j + 1, by omega, by go_num, hn2⟩, by trivial⟩
            case measure => simp [intOf]; omega
        · obtain rfl : j = (sth dl k).size := by omega
          have hn2 := hid (noTo_succ x k hlt hno.out hni.out)
          go_wp2
          go_roundw
          case rel => exact ⟨⟨k + 1, by omega, by go_num, hn2⟩, by trivial⟩
          case measure => simp [intOf]; omega
    · obtain rfl : k = 7 := by omega
      obtain ⟨X, rfl⟩ := Int.eq_ofNat_of_zero_le h0
      have hfin := hid (none_all ⟨X, by omega⟩ hno.out)
      rcases Bool.eq_false_or_eq_true ((X : Int) == 72) with q1 | q1 <;> rcases Bool.eq_false_or_eq_true ((X : Int) == 87) with q2 | q2
      all_goals
        go_wp2
        go_ret
        exact ⟨ret_int (by have := hfin.out; rw [this]; simp_all), hx.out⟩
end Go.Proofs.Ytlhnabkfacmmnaa
