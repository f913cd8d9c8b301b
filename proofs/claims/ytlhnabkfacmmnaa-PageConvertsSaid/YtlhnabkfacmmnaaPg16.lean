/-
  How many letters and digits a text has: the program and the reference.
-/
import Derived.Test.YtlhnabkfacmmnaaPg13
namespace Go.Proofs.Ytlhnabkfacmmnaa
open Go.RowKit
set_option linter.unusedVariables false
set_option linter.unusedSimpArgs false
attribute [local go_sem] conv_new
theorem results_tmp4 {fn : Func} {t u v x : Tmp} (h : fn.results = #[.tmp t, .tmp u, .tmp v, .tmp x]) (tmps : Array Value) (P : Program) (w : World) :
    (results fn tmps).run P w = .ok (.tuple #[tmps.getD t undef, tmps.getD u undef, tmps.getD v undef, tmps.getD x undef]) w := by
  simp [results, h]
def cntL (l : List UInt8) (p : Int) : Nat → Int
  | 0 => 0
  | k + 1 => if isLetS (bth l k) p then cntL l p k + 1 else cntL l p k
def cntD (l : List UInt8) (p : Int) : Nat → Int
  | 0 => 0
  | k + 1 => if isLetS (bth l k) p then cntD l p k else if withinB (bth l k) 48 57 then cntD l p k + 1 else cntD l p k
theorem cnt_rng (l : List UInt8) (p : Int) : ∀ k : Nat, 0 ≤ cntL l p k ∧ 0 ≤ cntD l p k ∧ cntL l p k + cntD l p k ≤ k
  | 0 => by simp [cntL, cntD]
  | k + 1 => by
    have h := cnt_rng l p k
    unfold cntL cntD
    repeat' split
    all_goals omega
def ifOk (p : Int) (s : ByteArray) (x : Int) : Int := if askE p [s] = 0 then x else 0
def Give4 (a b c d : Int) (w : World) (e : Ending) (w' : World) : Prop := e = .returned (.tuple #[.int .i64 a, .int .i64 b, .int .i64 c, .int .i64 d]) ∧ Ext w w'
def lettersS (s : ByteArray) (p : Int) : Int := cntL s.toList p s.size
def digitsS (s : ByteArray) (p : Int) : Int := cntD s.toList p s.size
set_option maxRecDepth 100000 in
set_option maxHeartbeats 2000000 in
theorem Count_any (s : ByteArray) (p : Int) (w : World) : Calls Try.prog 26 #[.string s, .int .i64 p] w (Give4 (ifOk p s (lettersS s p)) (ifOk p s (digitsS s p)) (ifOk p s ((s.size : Int) - lettersS s p - digitsS s p)) (askE p [s]) w) := by
  by_cases h : askE p [s] = 0
  · have e1 : (askE p [s] != 0) = false := by simp [h]
    have Fin : Hid (∀ x, ifOk p s x = x) := by intro x; unfold ifOk; rw [if_pos h]
    have Fin2 := hid h
    have ho := ask_ok h
    have hp := hid ho.2
    have hsz : s.size ≤ 1000000 := by omega
    clear ho h
    go_enter Try.func26, Try.ntmps26
    go_wp2_with fail
    refine (asked_any p _ _ _ [s] _ (RdS.new1 w s _)).mono ?_
    rintro e w1 ⟨rfl, rfl⟩
    have hx1 := hid ((Ext.refl w).alloc_right (.cells #[.string s] 9))
    generalize hw1 : w.alloc (.cells #[.string s] 9) = w1 at *
    clear hw1
    have hcap := capB_in w1 s hsz
    have hB := hid (newB_bk w1 s)
    have hE := hid (newB_ext w1 s)
    have hg : w1.heap.size < (newB w1 s).heap.size := by simp [newB]
    generalize hw2 : newB w1 s = w2 at *
    go_wp2_with fail
    clear hw2
    go_loopw [9, 10, 23] (fun a b i wr => (∃ k : Nat, k ≤ s.size ∧ i = .int .i64 k ∧ a = .int .i64 (cntL s.toList p k) ∧ b = .int .i64 (cntD s.toList p k)) ∧ wr = w2) (fun _ _ i _ => s.size - (intOf i).toNat)
    case atStart => exact ⟨⟨0, by omega, rfl, rfl, rfl⟩, rfl⟩
    case round =>
      obtain ⟨⟨k, hk, rfl, rfl, rfl⟩, rfl⟩ := hrel
      have hn := cnt_rng s.toList p k
      by_cases hlt : k < s.size
      · have hc := (hB.out.2 k hlt).1
        have hr := bth_in s.toList k
        have h1 : Hid (cntL s.toList p (k + 1) = if isLetS (bth s.toList k) p then cntL s.toList p k + 1 else cntL s.toList p k) := rfl
        have h2 : Hid (cntD s.toList p (k + 1) = if isLetS (bth s.toList k) p then cntD s.toList p k else if withinB (bth s.toList k) 48 57 then cntD s.toList p k + 1 else cntD s.toList p k) := rfl
        generalize bth s.toList k = x at *
        generalize cntL s.toList p k = A at *
        generalize cntD s.toList p k = B at *
        rcases Bool.eq_false_or_eq_true (isLetS x p) with hl | hl
        · have h1 : Hid (cntL s.toList p (k + 1) = A + 1) := by unfold Hid; rw [h1.out, hl]; rfl
          have h2 : Hid (cntD s.toList p (k + 1) = B) := by unfold Hid; rw [h2.out, hl]; rfl
          go_wp2_with fail
          refine (isLet_any _ _ hp.out _ hr.1 hr.2).mono ?_
          rintro e w' ⟨rfl, rfl⟩
          go_wp2
          go_roundw
          case rel => exact ⟨⟨k + 1, by omega, by go_num, by rw [h1.out], by rw [h2.out]⟩, by trivial⟩
          case measure => simp [intOf]; omega
        · have h1 : Hid (cntL s.toList p (k + 1) = A) := by unfold Hid; rw [h1.out, hl]; rfl
          have h2 : Hid (cntD s.toList p (k + 1) = if withinB x 48 57 then B + 1 else B) := by unfold Hid; rw [h2.out, hl]; rfl
          rcases Bool.eq_false_or_eq_true (withinB x 48 57) with hd | hd
          · have h2 : Hid (cntD s.toList p (k + 1) = B + 1) := by unfold Hid; rw [h2.out, hd]; rfl
            go_wp2_with fail
            refine (isLet_any _ _ hp.out _ hr.1 hr.2).mono ?_
            rintro e w' ⟨rfl, rfl⟩
            go_wp2_with fail
            refine (within_any _ _ _ _).mono ?_
            rintro e w' ⟨rfl, rfl⟩
            go_wp2
            go_roundw
            case rel => exact ⟨⟨k + 1, by omega, by go_num, by rw [h1.out], by rw [h2.out]⟩, by trivial⟩
            case measure => simp [intOf]; omega
          · have h2 : Hid (cntD s.toList p (k + 1) = B) := by unfold Hid; rw [h2.out, hd]; rfl
            go_wp2_with fail
            refine (isLet_any _ _ hp.out _ hr.1 hr.2).mono ?_
            rintro e w' ⟨rfl, rfl⟩
            go_wp2_with fail
            refine (within_any _ _ _ _).mono ?_
            rintro e w' ⟨rfl, rfl⟩
            go_wp2
            go_roundw
            case rel => exact ⟨⟨k + 1, by omega, by go_num, by rw [h1.out], by rw [h2.out]⟩, by trivial⟩
            case measure => simp [intOf]; omega
      · obtain rfl : k = s.size := by omega
        go_wp2
        (try simp only [Exit.inBlock, Exit.then])
        refine bodyPost_ret (results_tmp4 rfl _ _ _) rfl ?_
        exact ⟨by rw [Fin.out, Fin.out, Fin.out, Fin2.out]; rfl, hx1.out.trans hE.out⟩
  · have e1 : (askE p [s] != 0) = true := by simp [h]
    have Fin : Hid (∀ x, ifOk p s x = 0) := by intro x; unfold ifOk; rw [if_neg h]
    clear h
    go_enter Try.func26, Try.ntmps26
    go_wp2_with fail
    refine (asked_any p _ _ _ [s] _ (RdS.new1 w s _)).mono ?_
    rintro e w1 ⟨rfl, rfl⟩
    go_wp2
    (try simp only [Exit.inBlock, Exit.then])
    refine bodyPost_ret (results_tmp4 rfl _ _ _) rfl ?_
    exact ⟨by rw [Fin.out, Fin.out, Fin.out]; rfl, (Ext.refl w).alloc_right _⟩
set_option maxRecDepth 100000 in
set_option maxHeartbeats 2000000 in
theorem rCount_any (s : ByteArray) (p : Int) (w : World) : Calls Try.prog 27 #[.string s, .int .i64 p] w (Give4 (ifOk p s (lettersS s p)) (ifOk p s (digitsS s p)) (ifOk p s ((s.size : Int) - lettersS s p - digitsS s p)) (askE p [s]) w) := by
  by_cases h : askE p [s] = 0
  · have e1 : (askE p [s] != 0) = false := by simp [h]
    have Fin : Hid (∀ x, ifOk p s x = x) := by intro x; unfold ifOk; rw [if_pos h]
    have Fin2 := hid h
    have ho := ask_ok h
    have hp := hid ho.2
    have hsz : s.size ≤ 1000000 := by omega
    clear ho h
    go_enter Try.func27, Try.ntmps27
    go_wp2_with fail
    refine (rasked_any 2048 _ _ _ [s] 0 _ _ _ [p] _ ((RdS.new1 w s 9).alloc (.cells #[.int .i64 p] 3)) (RdI.new1b w (.cells #[.string s] 9) p 3)).mono ?_
    rintro e w1 ⟨rfl, rfl⟩
    have hx1 := hid (((Ext.refl w).alloc_right (.cells #[.string s] 9)).alloc_right (.cells #[.int .i64 p] 3))
    rw [askR_E]
    generalize hw1 : (w.alloc (.cells #[.string s] 9)).alloc (.cells #[.int .i64 p] 3) = w1 at *
    clear hw1
    go_wp2_with fail
    go_loopw [9, 10, 11] (fun a b i wr => (∃ k : Nat, k ≤ s.size ∧ i = .int .i64 k ∧ a = .int .i64 (cntL s.toList p k) ∧ b = .int .i64 (cntD s.toList p k)) ∧ wr = w1) (fun _ _ i _ => s.size - (intOf i).toNat)
    case atStart => exact ⟨⟨0, by omega, rfl, rfl, rfl⟩, rfl⟩
    case round =>
      obtain ⟨⟨k, hk, rfl, rfl, rfl⟩, rfl⟩ := hrel
      have hn := cnt_rng s.toList p k
      by_cases hlt : k < s.size
      · have hxe := byte_at s hlt
        have hr := bth_in s.toList k
        have h1 : cntL s.toList p (k + 1) = if isLetS (bth s.toList k) p then cntL s.toList p k + 1 else cntL s.toList p k := rfl
        have h2 : cntD s.toList p (k + 1) = if isLetS (bth s.toList k) p then cntD s.toList p k else if withinB (bth s.toList k) 48 57 then cntD s.toList p k + 1 else cntD s.toList p k := rfl
        rw [← hxe] at hr h1 h2
        clear hxe
        have h1 := hid h1
        have h2 := hid h2
        generalize cntL s.toList p k = A at *
        generalize cntD s.toList p k = B at *
        rcases Bool.eq_false_or_eq_true (isLetS (s[k].toNat : Int) p) with hl | hl
        · have h1 : Hid (cntL s.toList p (k + 1) = A + 1) := by unfold Hid; rw [h1.out, hl]; rfl
          have h2 : Hid (cntD s.toList p (k + 1) = B) := by unfold Hid; rw [h2.out, hl]; rfl
          go_wp2_with fail
          refine (rIsLetter_any _ _ hp.out _ hr.1 hr.2).mono ?_
          rintro e w' ⟨rfl, rfl⟩
          go_wp2
          go_roundw
          case rel => exact ⟨⟨k + 1, by omega, by go_num, by rw [h1.out], by rw [h2.out]⟩, by trivial⟩
          case measure => simp [intOf]; omega
        · have h1 : Hid (cntL s.toList p (k + 1) = A) := by unfold Hid; rw [h1.out, hl]; rfl
          have h2 : Hid (cntD s.toList p (k + 1) = if withinB (s[k].toNat : Int) 48 57 then B + 1 else B) := by unfold Hid; rw [h2.out, hl]; rfl
          rcases Bool.eq_false_or_eq_true (decide (48 ≤ (s[k].toNat : Int))) with d1 | d1
          · rcases Bool.eq_false_or_eq_true (decide ((s[k].toNat : Int) ≤ 57)) with d2 | d2
            · have h2 : Hid (cntD s.toList p (k + 1) = B + 1) := by unfold Hid; rw [h2.out, withinB, d1, d2]; rfl
              go_wp2_with fail
              refine (rIsLetter_any _ _ hp.out _ hr.1 hr.2).mono ?_
              rintro e w' ⟨rfl, rfl⟩
              go_wp2
              go_roundw
              case rel => exact ⟨⟨k + 1, by omega, by go_num, by rw [h1.out], by rw [h2.out]⟩, by trivial⟩
              case measure => simp [intOf]; omega
            · have h2 : Hid (cntD s.toList p (k + 1) = B) := by unfold Hid; rw [h2.out, withinB, d1, d2]; rfl
              go_wp2_with fail
              refine (rIsLetter_any _ _ hp.out _ hr.1 hr.2).mono ?_
              rintro e w' ⟨rfl, rfl⟩
              go_wp2
              go_roundw
              case rel => exact ⟨⟨k + 1, by omega, by go_num, by rw [h1.out], by rw [h2.out]⟩, by trivial⟩
              case measure => simp [intOf]; omega
          · have h2 : Hid (cntD s.toList p (k + 1) = B) := by unfold Hid; rw [h2.out, withinB, d1]; rfl
            go_wp2_with fail
            refine (rIsLetter_any _ _ hp.out _ hr.1 hr.2).mono ?_
            rintro e w' ⟨rfl, rfl⟩
            go_wp2
            go_roundw
            case rel => exact ⟨⟨k + 1, by omega, by go_num, by rw [h1.out], by rw [h2.out]⟩, by trivial⟩
            case measure => simp [intOf]; omega
      · obtain rfl : k = s.size := by omega
        go_wp2
        (try simp only [Exit.inBlock, Exit.then])
        refine bodyPost_ret (results_tmp4 rfl _ _ _) rfl ?_
        exact ⟨by rw [Fin.out, Fin.out, Fin.out, Fin2.out]; rfl, hx1.out⟩
  · have e1 : (askE p [s] != 0) = true := by simp [h]
    have Fin : Hid (∀ x, ifOk p s x = 0) := by intro x; unfold ifOk; rw [if_neg h]
    clear h
    go_enter Try.func27, Try.ntmps27
    go_wp2_with fail
    refine (rasked_any 2048 _ _ _ [s] 0 _ _ _ [p] _ ((RdS.new1 w s 9).alloc (.cells #[.int .i64 p] 3)) (RdI.new1b w (.cells #[.string s] 9) p 3)).mono ?_
    rintro e w1 ⟨rfl, rfl⟩
    rw [askR_E]
    go_wp2
    (try simp only [Exit.inBlock, Exit.then])
    refine bodyPost_ret (results_tmp4 rfl _ _ _) rfl ?_
    exact ⟨by rw [Fin.out, Fin.out, Fin.out]; rfl, ((Ext.refl w).alloc_right _).alloc_right _⟩
end Go.Proofs.Ytlhnabkfacmmnaa
