/-
  The code of a text's sounds.
-/
import Derived.Test.YtlhnabkfacmmnaaPg5
import Derived.OwnWalk
namespace Go.Proofs.Ytlhnabkfacmmnaa
open Go.RowKit
set_option linter.unusedVariables false
set_option linter.unusedSimpArgs false
attribute [local go_sem] conv_new

theorem u8_in (x : Int) (h0 : 0 ≤ x) (h1 : x ≤ 255) : IntKind.u8.wrap x = x := by simp [IntKind.wrap, IntKind.bits, IntKind.signed]; omega
theorem byt_of (x : Int) (h0 : 0 ≤ x) (h1 : x ≤ 255) : Value.int .u8 x = byt (bOf x) := by unfold byt; rw [bOf_val x h0 h1]
theorem bytesC_snoc (l : List UInt8) (x : Int) (h0 : 0 ≤ x) (h1 : x ≤ 255) : bytesC (l ++ [bOf x]) = bytesC l ++ [.int .u8 x] := by rw [byt_of x h0 h1]; simp [bytesC]
theorem digS_in (x : Int) : -1 ≤ digS x ∧ digS x ≤ 6 := by
  unfold digS
  repeat' split
  all_goals omega
/-- One byte more: the code so far, its last digit. -/
def sStep (c : List UInt8) (last x : Int) : List UInt8 × Int :=
  if isLetS x 0 = false then (c, last) else
  if c.length = 0 then ([bOf (upS_ x 0)], if digS (upS_ x 0) < 0 then 0 else digS (upS_ x 0)) else
  if digS (upS_ x 0) < 0 then (c, last) else
  (if 0 < digS (upS_ x 0) ∧ digS (upS_ x 0) ≠ last ∧ c.length < 4 then c ++ [bOf (48 + digS (upS_ x 0))] else c, digS (upS_ x 0))
def sTo (l : List UInt8) : Nat → List UInt8 × Int
  | 0 => ([], 0)
  | k + 1 => sStep (sTo l k).1 (sTo l k).2 (bth l k)
theorem sTo_succ (l : List UInt8) (k : Nat) : sTo l (k + 1) = sStep (sTo l k).1 (sTo l k).2 (bth l k) := rfl
def padS (c : List UInt8) : List UInt8 := if c.length = 0 then c else c ++ List.replicate (4 - c.length) (bOf 48)
def soundB (s : ByteArray) : ByteArray := strB (padS (sTo s.toList s.size).1)
theorem pad_more (c : List UInt8) (h0 : 0 < c.length) (h4 : c.length < 4) : padS (c ++ [bOf 48]) = padS c := by
  unfold padS
  rw [if_neg (by simp), if_neg (by omega), List.append_assoc]
  congr 1
  rw [show 4 - c.length = (4 - (c ++ [bOf 48]).length) + 1 by simp; omega, List.replicate_succ]
  rfl
theorem pad_done (c : List UInt8) (h : ¬ (0 < c.length ∧ c.length < 4)) : padS c = c := by
  unfold padS
  split
  · rfl
  · rw [show 4 - c.length = 0 by omega]; simp

set_option maxRecDepth 100000 in
set_option maxHeartbeats 4000000 in
theorem Sound_any (s : ByteArray) (w : World) : Calls Try.prog 12 #[.string s] w (GiveSN (okA 0 s (soundB s)) (askE 0 [s]) w) := by
  by_cases h : askE 0 [s] = 0
  · have e1 : (askE 0 [s] != 0) = false := by simp [h]
    have Fin : Hid (okA 0 s (soundB s) = soundB s) := by unfold Hid okA; rw [if_pos h]
    have Fin2 := hid h
    have ho := ask_ok h
    have hsz : s.size ≤ 2048 := ho.1
    have hlen : Hid (s.toList.length = s.size) := by unfold Hid; rw [ByteArray.toList_eq]; rfl
    have info5 : (Try.prog.info? 5).map (fun i => (i.zero, i.size, i.bytes)) = some (some (.int .u8 0), 1, 1) := by kernel_rfl
    obtain ⟨i0, hi, hz0, hz1, hz2⟩ := info_parts info5
    clear info5 ho h
    have hp0 : Pg 0 := Or.inl rfl
    go_enter Try.func12, Try.ntmps12
    go_wp2_with fail
    refine (asked_any 0 _ _ _ [s] _ (RdS.new1 w s _)).mono ?_
    rintro e w1 ⟨rfl, rfl⟩
    have hx1 := hid ((Ext.refl w).alloc_right (.cells #[.string s] 9))
    have hs1 := hx1.out.size
    generalize hw1 : w.alloc (.cells #[.string s] 9) = w1 at *
    clear hw1
    have hcap := capB_in w1 s (by omega)
    have hB := hid (newB_bk w1 s)
    have hE := hid (newB_ext w1 s)
    have hg : w1.heap.size < (newB w1 s).heap.size := by simp [newB]
    generalize hw2 : newB w1 s = w2 at *
    go_wp2_with fail
    clear hw2
    have hE2 := hid hE.out
    go_loopw [5, 6, 20] (fun v la i wr => ∃ k n : Nat, k ≤ s.size ∧ i = .int .i64 k ∧ n ≤ 4 ∧ la = .int .i64 (sTo s.toList k).2 ∧ wr.ownsRow w2.heap.size 5 1 v n (bytesC (sTo s.toList k).1) ∧ Below w2.heap.size w2 wr) (fun _ _ i _ => s.size - (intOf i).toNat)
    case atStart => exact ⟨0, 0, by omega, rfl, by omega, rfl, World.ownsRow_nil _ _ _ _, Below.refl _ _⟩
    case round =>
      obtain ⟨k, n, hk, rfl, hn4, rfl, hown, hb⟩ := hrel
      have hbs := hb.size
      have hcl : (sTo s.toList k).1.length = n := by have := hown.1; simpa [bytesC] using this
      have hst := sTo_succ s.toList k
      by_cases hlt : k < s.size
      · have hc := ((hB.out.ext (w' := wr) hb).2 k hlt).1
        have hr := bth_in s.toList k
        generalize bth s.toList k = x at *
        generalize hlast : (sTo s.toList k).2 = last at *
        generalize hcode : (sTo s.toList k).1 = code at *
        have hu := upS_rng (p := 0) hr.1 hr.2
        have hd := digS_in (upS_ x 0)
        rcases Bool.eq_false_or_eq_true (isLetS x 0) with hl | hl
        · have hs2 : sTo s.toList (k + 1) = sStep code last x := hst
          obtain ⟨A0, c0, rfl, -⟩ := own_form hown
          clear hst hlast hcode
          rcases Nat.eq_zero_or_pos n with rfl | hn0
          · have hst2 : Hid (sTo s.toList (k + 1) = ([bOf (upS_ x 0)], if digS (upS_ x 0) < 0 then 0 else digS (upS_ x 0))) := by unfold Hid; rw [hs2, sStep, if_neg (by rw [hl]; simp), if_pos hcl]
            have hnil : code = [] := List.eq_nil_of_length_eq_zero hcl
            subst hnil
            have hb1 := hid (bytesC_snoc [] (upS_ x 0) hu.1 hu.2)
            clear hs2
            go_wp2_with fail
            refine (isLet_any _ _ hp0 _ hr.1 hr.2).mono ?_
            rintro e w' ⟨rfl, rfl⟩
            go_wp2_with fail
            refine (upper_any _ _ hp0 _ hr.1 hr.2).mono ?_
            rintro e w' ⟨rfl, rfl⟩
            go_wp2_with fail
            refine (digitOf_any _ _).mono ?_
            rintro e w' ⟨rfl, rfl⟩
            go_wp2_with (at_builtin; refine wpList_push _ rfl _ _ 44 rfl w2.heap.size 5 i0 _ 1 1 Try.underlying44 hi hz0 hz1 hz2 rfl (by decide) _ _ _ rfl hown [.int .u8 (upS_ x 0)] rfl rfl (by simp [Value.oneCell']) (by unfold maxLen; omega) (by omega) hbs ?_)
            intro g cap wp ownp grp _
            rw [← hb1.out] at ownp
            have bel := below_push hb hown grp hbs
            clear grp hown hb
            go_wp2_with fail
            go_roundw
            case rel => exact ⟨k + 1, 1, by omega, by go_num, by omega, by rw [hst2.out], by rw [hst2.out]; exact ownp, bel⟩
            case measure => simp [intOf]; omega
          · have d0 : ((n : Int) == 0) = false := by simp; omega
            by_cases hd0 : digS (upS_ x 0) < 0
            · have d1 : decide (digS (upS_ x 0) < 0) = true := by simpa using hd0
              have hst2 : Hid (sTo s.toList (k + 1) = (code, last)) := by unfold Hid; rw [hs2, sStep, if_neg (by rw [hl]; simp), if_neg (by omega), if_pos hd0]
              clear hs2 hd0
              go_wp2_with fail
              refine (isLet_any _ _ hp0 _ hr.1 hr.2).mono ?_
              rintro e w' ⟨rfl, rfl⟩
              go_wp2_with fail
              refine (upper_any _ _ hp0 _ hr.1 hr.2).mono ?_
              rintro e w' ⟨rfl, rfl⟩
              go_wp2_with fail
              refine (digitOf_any _ _).mono ?_
              rintro e w' ⟨rfl, rfl⟩
              go_wp2
              go_roundw
              case rel => exact ⟨k + 1, n, by omega, by go_num, hn4, by rw [hst2.out], by rw [hst2.out]; exact hown, hb⟩
              case measure => simp [intOf]; omega
            · have d1 : decide (digS (upS_ x 0) < 0) = false := by simpa using hd0
              by_cases hd1 : 0 < digS (upS_ x 0) ∧ digS (upS_ x 0) ≠ last ∧ n < 4
              · have d2 : decide (0 < digS (upS_ x 0)) = true := by simpa using hd1.1
                have d3 : (digS (upS_ x 0) != last) = true := by simpa using hd1.2.1
                have d4 : decide ((n : Int) < 4) = true := by simp; omega
                have hst2 : Hid (sTo s.toList (k + 1) = (code ++ [bOf (48 + digS (upS_ x 0))], digS (upS_ x 0))) := by unfold Hid; rw [hs2, sStep, if_neg (by rw [hl]; simp), if_neg (by omega), if_neg hd0, if_pos ⟨hd1.1, hd1.2.1, by omega⟩]
                have hb1 := hid (bytesC_snoc code (48 + digS (upS_ x 0)) (by omega) (by omega))
                have ew := u8_in (48 + digS (upS_ x 0)) (by omega) (by omega)
                have ew1 := IntWalk.i64_in (48 + digS (upS_ x 0)) (by omega)
                have hn3 : n ≤ 3 := by omega
                clear hs2 hd0 hd1
                go_wp2_with fail
                refine (isLet_any _ _ hp0 _ hr.1 hr.2).mono ?_
                rintro e w' ⟨rfl, rfl⟩
                go_wp2_with fail
                refine (upper_any _ _ hp0 _ hr.1 hr.2).mono ?_
                rintro e w' ⟨rfl, rfl⟩
                go_wp2_with fail
                refine (digitOf_any _ _).mono ?_
                rintro e w' ⟨rfl, rfl⟩
                go_wp2_with (at_builtin; refine wpList_push _ rfl _ _ 44 rfl w2.heap.size 5 i0 _ 1 1 Try.underlying44 hi hz0 hz1 hz2 rfl (by decide) _ _ _ rfl hown [.int .u8 (48 + digS (upS_ x 0))] rfl rfl (by simp [Value.oneCell']) (by unfold maxLen; omega) (by omega) hbs ?_)
                intro g cap wp ownp grp _
                rw [← hb1.out] at ownp
                have bel := below_push hb hown grp hbs
                clear grp hown hb
                go_wp2_with fail
                go_roundw
                case rel => exact ⟨k + 1, n + 1, by omega, by go_num, by omega, by rw [hst2.out], by rw [hst2.out]; exact ownp, bel⟩
                case measure => simp [intOf]; omega
              · have hst2 : Hid (sTo s.toList (k + 1) = (code, digS (upS_ x 0))) := by unfold Hid; rw [hs2, sStep, if_neg (by rw [hl]; simp), if_neg (by omega), if_neg hd0, if_neg (by rw [hcl]; exact hd1)]
                have hq : (decide (0 < digS (upS_ x 0)) && ((digS (upS_ x 0) != last) && decide ((n : Int) < 4))) = false := by
                  rw [Bool.eq_false_iff]
                  intro hh
                  simp only [Bool.and_eq_true, decide_eq_true_eq, bne_iff_ne] at hh
                  exact hd1 ⟨hh.1, hh.2.1, by omega⟩
                clear hs2 hd0 hd1
                rcases Bool.eq_false_or_eq_true (decide (0 < digS (upS_ x 0))) with d2 | d2 <;> rcases Bool.eq_false_or_eq_true (digS (upS_ x 0) != last) with d3 | d3 <;> rcases Bool.eq_false_or_eq_true (decide ((n : Int) < 4)) with d4 | d4 <;> (first | (exfalso; rw [d2, d3, d4] at hq; cases hq; done) | skip)
                all_goals clear hq
                all_goals go_wp2_with fail
                all_goals refine (isLet_any _ _ hp0 _ hr.1 hr.2).mono ?_
                all_goals rintro e w' ⟨rfl, rfl⟩
                all_goals go_wp2_with fail
                all_goals refine (upper_any _ _ hp0 _ hr.1 hr.2).mono ?_
                all_goals rintro e w' ⟨rfl, rfl⟩
                all_goals go_wp2_with fail
                all_goals refine (digitOf_any _ _).mono ?_
                all_goals rintro e w' ⟨rfl, rfl⟩
                all_goals go_wp2
                all_goals go_roundw
                all_goals first | exact ⟨k + 1, n, by omega, by go_num, hn4, by rw [hst2.out], by rw [hst2.out]; exact hown, hb⟩ | (simp [intOf]; omega)
        · have hst2 : Hid (sTo s.toList (k + 1) = (code, last)) := by unfold Hid; rw [hst, sStep, if_pos hl]
          clear hst hlast hcode
          go_wp2_with fail
          refine (isLet_any _ _ hp0 _ hr.1 hr.2).mono ?_
          rintro e w' ⟨rfl, rfl⟩
          go_wp2
          go_roundw
          case rel => exact ⟨k + 1, n, by omega, by go_num, hn4, by rw [hst2.out], by rw [hst2.out]; exact hown, hb⟩
          case measure => simp [intOf]; omega
      · obtain rfl : k = s.size := by omega
        have Hsb : Hid (soundB s = strB (padS (sTo s.toList s.size).1)) := rfl
        clear hst hB hE hg hcap
        generalize hcode : (sTo s.toList s.size).1 = code at *
        clear hcode
        go_wp2_with fail
        go_loopw [5] (fun v wq => ∃ (m : Nat) (c : List UInt8), m ≤ 4 ∧ Hid (padS c = padS code) ∧ Hid (c.length = m) ∧ wq.ownsRow w2.heap.size 5 1 v m (bytesC c) ∧ Below w2.heap.size w2 wq) (fun v _ => 4 - lenOf v)
        case atStart => exact ⟨n, code, hn4, rfl, hcl, hown, hb⟩
        case round =>
          obtain ⟨m, c, hm4, hpad, hcm, hownc, hbc⟩ := hrel
          have hbsc := hbc.size
          obtain ⟨A0, c0, rfl, hm0⟩ := own_form hownc
          rcases Nat.eq_zero_or_pos m with rfl | hmp
          · have hc2 : Hid (padS c = c) := pad_done c (by have := hcm.out; omega)
            have hcv := conv_RdB (l := c) (Rd.of_own hownc)
            have hout : Hid (strB c = soundB s) := by unfold Hid; rw [Hsb.out, ← hpad.out, hc2.out]
            rw [hout.out] at hcv
            go_wp2
            go_ret2
            exact ⟨by rw [Fin.out, Fin2.out]; rfl, (hx1.out.trans hE2.out).trans hbc⟩
          · have t0 : decide ((0 : Int) < (m : Int)) = true := by simp; omega
            by_cases hm : m < 4
            · have t1 : decide ((m : Int) < 4) = true := by simp; omega
              have hp2 : Hid (padS (c ++ [bOf 48]) = padS code) := by unfold Hid; rw [pad_more c (by have := hcm.out; omega) (by have := hcm.out; omega)]; exact hpad.out
              have hb1 := hid (bytesC_snoc c 48 (by omega) (by omega))
              have hc3 : Hid ((c ++ [bOf 48]).length = m + 1) := by unfold Hid; rw [List.length_append, hcm.out]; rfl
              go_wp2_with (at_builtin; refine wpList_push _ rfl _ _ 44 rfl w2.heap.size 5 i0 _ 1 1 Try.underlying44 hi hz0 hz1 hz2 rfl (by decide) _ _ _ rfl hownc [.int .u8 48] rfl rfl (by simp [Value.oneCell']) (by unfold maxLen; omega) (by omega) hbsc ?_)
              intro g cap wp ownp grp _
              rw [← hb1.out] at ownp
              have bel := below_push hbc hownc grp hbsc
              clear grp hownc hbc
              go_wp2_with fail
              go_roundw
              case rel => exact ⟨m + 1, _, by omega, hp2, hc3, ownp, bel⟩
              case measure => simp [lenOf]; omega
            · have t1 : decide ((m : Int) < 4) = false := by simp; omega
              have hc2 : Hid (padS c = c) := pad_done c (by have := hcm.out; omega)
              have hcv := conv_RdB (l := c) (Rd.of_own hownc)
              have hout : Hid (strB c = soundB s) := by unfold Hid; rw [Hsb.out, ← hpad.out, hc2.out]
              rw [hout.out] at hcv
              go_wp2
              go_ret2
              exact ⟨by rw [Fin.out, Fin2.out]; rfl, (hx1.out.trans hE2.out).trans hbc⟩
  · have e1 : (askE 0 [s] != 0) = true := by simp [h]
    have Fin : Hid (okA 0 s (soundB s) = ByteArray.empty) := by unfold Hid okA; rw [if_neg h]
    clear h
    go_enter Try.func12, Try.ntmps12
    go_wp2_with fail
    refine (asked_any 0 _ _ _ [s] _ (RdS.new1 w s _)).mono ?_
    rintro e w1 ⟨rfl, rfl⟩
    go_wp2
    go_ret2
    exact ⟨by rw [Fin.out]; rfl, (Ext.refl w).alloc_right _⟩
end Go.Proofs.Ytlhnabkfacmmnaa
