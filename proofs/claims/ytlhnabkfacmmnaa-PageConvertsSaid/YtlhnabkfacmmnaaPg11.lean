/-
  The reference's code of sounds.
-/
import Derived.Test.YtlhnabkfacmmnaaPg10
import Derived.Laws.Concat
namespace Go.Proofs.Ytlhnabkfacmmnaa
open Go.RowKit
set_option linter.unusedVariables false
set_option linter.unusedSimpArgs false
theorem strB_size (l : List UInt8) : (strB l).size = l.length := by simp [strB, ByteArray.size]
theorem strB_add (a b : List UInt8) : strB a ++ strB b = strB (a ++ b) := by
  apply ByteArray.ext
  simp [strB]
theorem conv_one (w : World) (x : Int) (h0 : 0 ≤ x) (h1 : x ≤ 255) : (convert 44 9 (.slice (some ⟨w.heap.size, 0, none⟩) 1 1)).run Try.prog (w.alloc (.cells #[.int .u8 x] 5)) = .ok (.string (strB [bOf x])) (w.alloc (.cells #[.int .u8 x] 5)) := by
  have h : RdB (w.alloc (.cells #[.int .u8 x] 5)) (some ⟨w.heap.size, 0, none⟩) 1 1 [bOf x] := by
    have := Rd.new_ w [.int .u8 x] 5 1 rfl (by decide)
    rw [byt_of x h0 h1] at this ⊢
    exact this
  exact conv_RdB h
def sizeOf' : Value → Nat | .string s => s.size | _ => 0
theorem ask0 (s : ByteArray) : askE 0 [s] = if 2048 < s.size then 3 else 0 := by
  unfold askE
  have : longTo [s] 1 = decide (2048 < s.size) := by simp [longTo]
  rw [show [s].length = 1 from rfl, this]
  by_cases h : 2048 < s.size <;> simp [h, pgB]
set_option maxRecDepth 100000 in
set_option maxHeartbeats 4000000 in
theorem rSound_any (s : ByteArray) (w : World) : Calls Try.prog 13 #[.string s] w (GiveSN (okA 0 s (soundB s)) (askE 0 [s]) w) := by
  by_cases h : 2048 < s.size
  · have e1 : decide ((2048 : Int) < (s.size : Int)) = true := by simp; omega
    have hq : askE 0 [s] = 3 := by rw [ask0, if_pos h]
    have Fin : Hid (okA 0 s (soundB s) = ByteArray.empty) := by unfold Hid okA; rw [if_neg (by rw [hq]; decide)]
    have Fin2 := hid hq
    clear h hq
    go_enter Try.func13, Try.ntmps13
    go_wp2
    go_ret2
    exact ⟨by rw [Fin.out, Fin2.out]; rfl, Ext.refl _⟩
  · have e1 : decide ((2048 : Int) < (s.size : Int)) = false := by simp; omega
    have hq : askE 0 [s] = 0 := by rw [ask0, if_neg h]
    have Fin : Hid (okA 0 s (soundB s) = soundB s) := by unfold Hid okA; rw [if_pos hq]
    have Fin2 := hid hq
    have hp0 : Pg 0 := Or.inl rfl
    clear hq
    go_enter Try.func13, Try.ntmps13
    go_wp2_with fail
    go_loopw [4, 5, 6] (fun v la i wr => ∃ k : Nat, k ≤ s.size ∧ i = .int .i64 k ∧ (sTo s.toList k).1.length ≤ 4 ∧ v = .string (strB (sTo s.toList k).1) ∧ la = .int .i64 (sTo s.toList k).2 ∧ Hid (Ext w wr)) (fun _ _ i _ => s.size - (intOf i).toNat)
    case atStart => exact ⟨0, by omega, rfl, by simp [sTo], rfl, rfl, Ext.refl _⟩
    case round =>
      obtain ⟨k, hk, rfl, hn4, rfl, rfl, hx⟩ := hrel
      by_cases hlt : k < s.size
      · skip
        have hxe : (s[k].toNat : Int) = bth s.toList k := by
          have hk' : k < s.data.size := hlt
          simp only [bth, List.getD, ByteArray.toList_eq, Array.getElem?_toList]
          rw [show s.data[k]? = some s.data[k] by simp [hk']]
          rfl
        have hr := bth_in s.toList k
        have hst := sTo_succ s.toList k
        rw [← hxe] at hr hst
        clear hxe
        generalize hlast : (sTo s.toList k).2 = last at *
        generalize hcode : (sTo s.toList k).1 = code at *
        clear hlast hcode
        have hu := upS_rng (p := 0) hr.1 hr.2
        have hd := digS_in (upS_ (s[k].toNat : Int) 0)
        have hsz := hid (strB_size code)
        rcases Bool.eq_false_or_eq_true (isLetS (s[k].toNat : Int) 0) with hl | hl
        · rcases Nat.eq_zero_or_pos code.length with hz | hn0
          · have hst2 : Hid (sTo s.toList (k + 1) = ([bOf (upS_ (s[k].toNat : Int) 0)], if digS (upS_ (s[k].toNat : Int) 0) < 0 then 0 else digS (upS_ (s[k].toNat : Int) 0))) := by unfold Hid; rw [hst, sStep, if_neg (by rw [hl]; simp), if_pos hz]
            have hnil : code = [] := List.eq_nil_of_length_eq_zero hz
            subst hnil
            clear hst
            have hsz0 : (strB ([] : List UInt8)) = { data := #[] } := rfl
            rw [hsz0]
            clear hsz
            go_wp2_with fail
            refine (rIsLetter_any _ _ hp0 _ hr.1 hr.2).mono ?_
            rintro e w' ⟨rfl, rfl⟩
            go_wp2_with fail
            refine (rupper_any _ _ hp0 _ hr.1 hr.2).mono ?_
            rintro e w' ⟨rfl, rfl⟩
            go_wp2_with fail
            refine (digit_any _ _ hu.1 hu.2).mono ?_
            rintro e w2 ⟨rfl, hx2⟩
            have hE2 := hid (hx.out.trans hx2)
            clear hx2
            have hcv := conv_one w2 _ hu.1 hu.2
            have hE3 := hid (hE2.out.alloc_right (.cells #[.int .u8 (upS_ (s[k].toNat : Int) 0)] 5))
            go_wp2_with fail
            go_roundw
            case rel => exact ⟨k + 1, by omega, by go_num, by rw [hst2.out]; simp, by rw [hst2.out], by rw [hst2.out], hE3⟩
            case measure => simp [intOf]; omega
          · have d0 : (strB code).toList.isEmpty = false := by rw [strB_toList]; cases code with
              | nil => simp at hn0
              | cons a b => rfl
            by_cases hd0 : digS (upS_ (s[k].toNat : Int) 0) < 0
            · have d1 : decide (digS (upS_ (s[k].toNat : Int) 0) < 0) = true := by simpa using hd0
              go_wp2_with fail
              refine (rIsLetter_any _ _ hp0 _ hr.1 hr.2).mono ?_
              rintro e w' ⟨rfl, rfl⟩
              go_wp2_with fail
              refine (rupper_any _ _ hp0 _ hr.1 hr.2).mono ?_
              rintro e w' ⟨rfl, rfl⟩
              go_wp2_with fail
              refine (digit_any _ _ hu.1 hu.2).mono ?_
              rintro e w2 ⟨rfl, hx2⟩
              have hE2 := hid (hx.out.trans hx2)
              clear hx2
              have hst2 : Hid (sTo s.toList (k + 1) = (code, last)) := by unfold Hid; rw [hst, sStep, if_neg (by rw [hl]; simp), if_neg (by omega), if_pos hd0]
              clear hst
              go_wp2
              go_roundw
              case rel => exact ⟨k + 1, by omega, by go_num, by rw [hst2.out]; exact hn4, by rw [hst2.out], by rw [hst2.out], hE2⟩
              case measure => simp [intOf]; omega
            · have d1 : decide (digS (upS_ (s[k].toNat : Int) 0) < 0) = false := by simpa using hd0
              by_cases hd1 : 0 < digS (upS_ (s[k].toNat : Int) 0) ∧ digS (upS_ (s[k].toNat : Int) 0) ≠ last ∧ code.length < 4
              · have d2 : decide (0 < digS (upS_ (s[k].toNat : Int) 0)) = true := by simpa using hd1.1
                have d3 : (digS (upS_ (s[k].toNat : Int) 0) != last) = true := by simpa using hd1.2.1
                have d4 : decide (((strB code).size : Int) < 4) = true := by rw [hsz.out]; simp; omega
                have hst2 : Hid (sTo s.toList (k + 1) = (code ++ [bOf (48 + digS (upS_ (s[k].toNat : Int) 0))], digS (upS_ (s[k].toNat : Int) 0))) := by unfold Hid; rw [hst, sStep, if_neg (by rw [hl]; simp), if_neg (by omega), if_neg hd0, if_pos hd1]
                have ew := u8_in (48 + digS (upS_ (s[k].toNat : Int) 0)) (by omega) (by omega)
                have ew1 := IntWalk.i64_in (48 + digS (upS_ (s[k].toNat : Int) 0)) (by omega)
                have hn3 : code.length ≤ 3 := by omega
                have hadd := strB_add code [bOf (48 + digS (upS_ (s[k].toNat : Int) 0))]
                have hsum : ¬ ((strB code).size + (strB [bOf (48 + digS (upS_ (s[k].toNat : Int) 0))]).size > 9223372036854775807) := by rw [hsz.out, strB_size]; simp; omega
                clear hst hd0 hd1
                go_wp2_with fail
                refine (rIsLetter_any _ _ hp0 _ hr.1 hr.2).mono ?_
                rintro e w' ⟨rfl, rfl⟩
                go_wp2_with fail
                refine (rupper_any _ _ hp0 _ hr.1 hr.2).mono ?_
                rintro e w' ⟨rfl, rfl⟩
                go_wp2_with fail
                refine (digit_any _ _ hu.1 hu.2).mono ?_
                rintro e w2 ⟨rfl, hx2⟩
                have hE2 := hid (hx.out.trans hx2)
                clear hx2
                have hcv := conv_one w2 (48 + digS (upS_ (s[k].toNat : Int) 0)) (by omega) (by omega)
                have hE3 := hid (hE2.out.alloc_right (.cells #[.int .u8 (48 + digS (upS_ (s[k].toNat : Int) 0))] 5))
                go_wp2_with fail
                go_roundw
                case rel => exact ⟨k + 1, by omega, by go_num, by rw [hst2.out]; simp; omega, by rw [hst2.out], by rw [hst2.out], hE3⟩
                case measure => simp [intOf]; omega
              · have hst2 : Hid (sTo s.toList (k + 1) = (code, digS (upS_ (s[k].toNat : Int) 0))) := by unfold Hid; rw [hst, sStep, if_neg (by rw [hl]; simp), if_neg (by omega), if_neg hd0, if_neg hd1]
                have hq : (decide (0 < digS (upS_ (s[k].toNat : Int) 0)) && ((digS (upS_ (s[k].toNat : Int) 0) != last) && decide (((strB code).size : Int) < 4))) = false := by
                  rw [Bool.eq_false_iff]
                  intro hh
                  rw [hsz.out] at hh
                  simp only [Bool.and_eq_true, decide_eq_true_eq, bne_iff_ne] at hh
                  exact hd1 ⟨hh.1, hh.2.1, by omega⟩
                clear hst hd0 hd1
                rcases Bool.eq_false_or_eq_true (decide (0 < digS (upS_ (s[k].toNat : Int) 0))) with d2 | d2 <;> rcases Bool.eq_false_or_eq_true (digS (upS_ (s[k].toNat : Int) 0) != last) with d3 | d3 <;> rcases Bool.eq_false_or_eq_true (decide (((strB code).size : Int) < 4)) with d4 | d4 <;> (first | (exfalso; rw [d2, d3, d4] at hq; cases hq; done) | skip)
                all_goals clear hq
                all_goals go_wp2_with fail
                all_goals refine (rIsLetter_any _ _ hp0 _ hr.1 hr.2).mono ?_
                all_goals rintro e w' ⟨rfl, rfl⟩
                all_goals go_wp2_with fail
                all_goals refine (rupper_any _ _ hp0 _ hr.1 hr.2).mono ?_
                all_goals rintro e w' ⟨rfl, rfl⟩
                all_goals go_wp2_with fail
                all_goals refine (digit_any _ _ hu.1 hu.2).mono ?_
                all_goals rintro e w2 ⟨rfl, hx2⟩
                all_goals have hE2 := hid (hx.out.trans hx2)
                all_goals clear hx2
                all_goals go_wp2
                all_goals go_roundw
                all_goals first | exact ⟨k + 1, by omega, by go_num, by rw [hst2.out]; exact hn4, by rw [hst2.out], by rw [hst2.out], hE2⟩ | (simp [intOf]; omega)
        · have hst2 : Hid (sTo s.toList (k + 1) = (code, last)) := by unfold Hid; rw [hst, sStep, if_pos hl]
          clear hst
          go_wp2_with fail
          refine (rIsLetter_any _ _ hp0 _ hr.1 hr.2).mono ?_
          rintro e w' ⟨rfl, rfl⟩
          go_wp2
          go_roundw
          case rel => exact ⟨k + 1, by omega, by go_num, by rw [hst2.out]; exact hn4, by rw [hst2.out], by rw [hst2.out], hx⟩
          case measure => simp [intOf]; omega
      · obtain rfl : k = s.size := by omega
        have Hsb : Hid (soundB s = strB (padS (sTo s.toList s.size).1)) := rfl
        generalize hcode : (sTo s.toList s.size).1 = code at *
        clear hcode
        go_wp2_with fail
        go_loopw [4] (fun v wq => (∃ c : List UInt8, c.length ≤ 4 ∧ Hid (padS c = padS code) ∧ v = .string (strB c)) ∧ wq = wr) (fun v _ => 4 - sizeOf' v)
        case atStart => exact ⟨⟨code, hn4, rfl, rfl⟩, rfl⟩
        case round =>
          obtain ⟨⟨c, hc4, hpad, rfl⟩, rfl⟩ := hrel
          have hsz := hid (strB_size c)
          rcases Nat.eq_zero_or_pos c.length with hz | hmp
          · have hc2 : Hid (padS c = c) := pad_done c (by omega)
            have hnil : c = [] := List.eq_nil_of_length_eq_zero hz
            subst hnil
            have hout : Hid (ByteArray.mk #[] = soundB s) := by unfold Hid; rw [Hsb.out, ← hpad.out, hc2.out]; rfl
            have hsz0 : (strB ([] : List UInt8)) = { data := #[] } := rfl
            rw [hsz0]
            go_wp2
            go_ret2
            exact ⟨by rw [Fin.out, Fin2.out, ← hout.out]; rfl, hx.out⟩
          · have d0 : (strB c).toList.isEmpty = false := by rw [strB_toList]; cases c with
              | nil => simp at hmp
              | cons a b => rfl
            by_cases hm : c.length < 4
            · have t1 : decide (((strB c).size : Int) < 4) = true := by rw [hsz.out]; simp; omega
              have hp2 : Hid (padS (c ++ [bOf 48]) = padS code) := by unfold Hid; rw [pad_more c hmp hm]; exact hpad.out
              have hadd := strB_add c [bOf 48]
              have hsum : ¬ ((strB c).size + (strB [bOf 48]).size > 9223372036854775807) := by rw [hsz.out, strB_size]; simp; omega
              have hlit : ({ data := #[48] } : ByteArray) = strB [bOf 48] := rfl
              have hm3 : c.length ≤ 3 := by omega
              clear hm
              go_wp2_with fail
              go_roundw
              case rel => exact ⟨⟨c ++ [bOf 48], by simp; omega, hp2, by rw [← hadd]⟩, by trivial⟩
              case measure => have h1 := hsz.out; have h2 := strB_size (c ++ [bOf 48]); simp [sizeOf', h1]; rw [h2]; simp; omega
            · have t1 : decide (((strB c).size : Int) < 4) = false := by rw [hsz.out]; simp; omega
              have hc2 : Hid (padS c = c) := pad_done c (by omega)
              have hout : Hid (strB c = soundB s) := by unfold Hid; rw [Hsb.out, ← hpad.out, hc2.out]
              clear hm
              go_wp2
              go_ret2
              exact ⟨by rw [Fin.out, Fin2.out, ← hout.out]; rfl, hx.out⟩
end Go.Proofs.Ytlhnabkfacmmnaa
