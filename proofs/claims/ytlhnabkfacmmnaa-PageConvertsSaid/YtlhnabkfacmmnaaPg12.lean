/-
  What the reference asks of texts, pages and a collation; its weight of a byte.
-/
import Derived.Test.YtlhnabkfacmmnaaPg11
namespace Go.Proofs.Ytlhnabkfacmmnaa
open Go.RowKit
set_option linter.unusedVariables false
set_option linter.unusedSimpArgs false
/-- One of the first k texts is longer than m. -/
def bigTo (m : Int) (l : List ByteArray) (k : Nat) : Bool := (l.take k).any fun s => decide (m < (s.size : Int))
theorem bigTo_succ (m : Int) (l : List ByteArray) (k : Nat) (hk : k < l.length) : bigTo m l (k + 1) = (bigTo m l k || decide (m < ((sth l k).size : Int))) := by
  unfold bigTo
  rw [List.take_succ_eq_append_getElem hk, List.any_append, show sth l k = l[k] by simp [sth, List.getD, hk]]
  simp only [List.any_cons, List.any_nil, Bool.or_false]
theorem big_of (m : Int) (l : List ByteArray) (k : Nat) (hk : k < l.length) (h : m < ((sth l k).size : Int)) : bigTo m l l.length = true := by
  unfold bigTo
  rw [List.take_length, List.any_eq_true]
  exact ⟨sth l k, by simp [sth, List.getD, hk], by simpa using h⟩
def pgTo (l : List Int) (k : Nat) : Bool := (l.take k).any pgB
theorem pgTo_succ (l : List Int) (k : Nat) (hk : k < l.length) : pgTo l (k + 1) = (pgTo l k || pgB (nth l k)) := by
  unfold pgTo
  rw [List.take_succ_eq_append_getElem hk, List.any_append, nth_lt hk]
  simp only [List.any_cons, List.any_nil, Bool.or_false]
theorem pg_of (l : List Int) (k : Nat) (hk : k < l.length) (h : pgB (nth l k) = true) : pgTo l l.length = true := by
  unfold pgTo
  rw [List.take_length, List.any_eq_true]
  exact ⟨nth l k, by rw [nth_lt hk]; simp, h⟩
def askR (m : Int) (l : List ByteArray) (c : Int) (ps : List Int) : Int :=
  if bigTo m l l.length then 3 else if pgTo ps ps.length then 1 else if c ≠ 0 ∧ c ≠ 1 then 1 else 0
set_option maxRecDepth 100000 in
set_option maxHeartbeats 2000000 in
theorem rasked_any (m : Int) (A : Option Addr) (n cp : Nat) (l : List ByteArray) (c : Int) (B : Option Addr) (n2 c2 : Nat) (ps : List Int) (w : World) (hs : RdS w A n cp l) (hp : RdI w B n2 c2 ps) :
    Calls Try.prog 39 #[.int .i64 m, .slice A n cp, .int .i64 c, .slice B n2 c2] w fun e w' => e = .returned (.int .i64 (askR m l c ps)) ∧ w = w' := by
  have Hl := hid hs.len
  have Hp := hid hp.len
  have hm := hs.max
  have hm2 := hp.max
  go_enter Try.func39, Try.ntmps39
  go_wp2_with fail
  go_loopw [9] (fun i wr => (∃ k : Nat, k ≤ n ∧ i = .int .i64 k ∧ Hid (bigTo m l k = false)) ∧ wr = w) (fun i _ => n - (intOf i).toNat)
  case atStart => exact ⟨⟨0, by omega, rfl, (rfl : bigTo m l 0 = false)⟩, rfl⟩
  case round =>
    obtain ⟨⟨k, hk, rfl, hno⟩, rfl⟩ := hrel
    by_cases hlt : k < n
    · obtain ⟨ad, rfl, hc⟩ := hs.at_ hlt
      have hlt' : k < l.length := by rw [Hl.out]; exact hlt
      by_cases hbig : m < ((sth l k).size : Int)
      · have Fin : Hid (askR m l c ps = 3) := by unfold Hid askR; rw [big_of m l k hlt' hbig]; rfl
        have e1 : decide (m < ((sth l k).size : Int)) = true := by simpa using hbig
        clear hlt' hbig
        go_wp2
        go_ret
        exact ⟨ret_int Fin.out.symm, rfl⟩
      · have e1 : decide (m < ((sth l k).size : Int)) = false := by simpa using hbig
        have hn2 : Hid (bigTo m l (k + 1) = false) := by unfold Hid; rw [bigTo_succ m l k hlt', hno.out, e1]; rfl
        clear hlt' hbig
        go_wp2
        go_roundw
        case rel => exact ⟨⟨k + 1, by omega, by go_num, hn2⟩, by trivial⟩
        case measure => simp [intOf]; omega
    · have hno' : Hid (bigTo m l l.length = false) := by
        have e : k = l.length := by rw [Hl.out]; omega
        rw [← e]; exact hno
      go_wp2_with fail
      go_loopw [10] (fun i wq => (∃ k : Nat, k ≤ n2 ∧ i = .int .i64 k ∧ Hid (pgTo ps k = false)) ∧ wq = wr) (fun i _ => n2 - (intOf i).toNat)
      case atStart => exact ⟨⟨0, by omega, rfl, (rfl : pgTo ps 0 = false)⟩, rfl⟩
      case round =>
        obtain ⟨⟨j, hj, rfl, hno2⟩, rfl⟩ := hrel
        by_cases hlj : j < n2
        · obtain ⟨ad, rfl, hc⟩ := hp.at_ hlj
          have hlj' : j < ps.length := by rw [Hp.out]; exact hlj
          rcases Bool.eq_false_or_eq_true (pgB (nth ps j)) with hb | hb
          · have Fin : Hid (askR m l c ps = 1) := by unfold Hid askR; rw [hno'.out, pg_of ps j hlj' hb]; rfl
            have hb' := hid hb
            clear hlj' hb
            rcases Bool.eq_false_or_eq_true (decide (nth ps j < 0)) with d1 | d1 <;> rcases Bool.eq_false_or_eq_true (decide (2 < nth ps j)) with d2 | d2 <;> (first | (exfalso; have := hb'.out; simp only [pgB, d1, d2] at this; cases this; done) | skip)
            all_goals go_wp2
            all_goals go_ret
            all_goals exact ⟨ret_int Fin.out.symm, rfl⟩
          · have hn2 : Hid (pgTo ps (j + 1) = false) := by unfold Hid; rw [pgTo_succ ps j hlj', hno2.out, hb]; rfl
            have d1 : decide (nth ps j < 0) = false := by simp only [pgB, Bool.or_eq_false_iff] at hb; exact hb.1
            have d2 : decide (2 < nth ps j) = false := by simp only [pgB, Bool.or_eq_false_iff] at hb; exact hb.2
            clear hlj' hb
            go_wp2
            go_roundw
            case rel => exact ⟨⟨j + 1, by omega, by go_num, hn2⟩, by trivial⟩
            case measure => simp [intOf]; omega
        · have hno2' : Hid (pgTo ps ps.length = false) := by
            have e : j = ps.length := by rw [Hp.out]; omega
            rw [← e]; exact hno2
          by_cases hc0 : c = 0
          · subst hc0
            have Fin : Hid (askR m l 0 ps = 0) := by unfold Hid askR; rw [hno'.out, hno2'.out]; rfl
            go_wp2
            go_ret
            exact ⟨ret_int Fin.out.symm, rfl⟩
          · by_cases hc1 : c = 1
            · subst hc1
              have Fin : Hid (askR m l 1 ps = 0) := by unfold Hid askR; rw [hno'.out, hno2'.out]; rfl
              go_wp2
              go_ret
              exact ⟨ret_int Fin.out.symm, rfl⟩
            · have Fin : Hid (askR m l c ps = 1) := by unfold Hid askR; rw [hno'.out, hno2'.out]; simp [hc0, hc1]
              have d1 : (c != 0) = true := by simpa using hc0
              have d2 : (c != 1) = true := by simpa using hc1
              clear hc0 hc1
              go_wp2
              go_ret
              exact ⟨ret_int Fin.out.symm, rfl⟩
theorem big_long (l : List ByteArray) (k : Nat) : bigTo 2048 l k = longTo l k := by
  unfold bigTo longTo
  congr 1
  funext s
  rw [decide_eq_decide]
  omega
theorem askR_E (p : Int) (l : List ByteArray) : askR 2048 l 0 [p] = askE p l := by
  unfold askR askE
  rw [big_long]
  simp [pgTo]
theorem askR_C (p c : Int) (l : List ByteArray) : askR 2048 l c [p] = askC p c l := by
  unfold askR askC askE
  rw [big_long]
  rcases Bool.eq_false_or_eq_true (longTo l l.length) with h | h <;> rcases Bool.eq_false_or_eq_true (pgB p) with h2 | h2 <;> simp [pgTo, h, h2]
  by_cases h0 : c = 0
  · simp [h0]
  · by_cases h1 : c = 1
    · simp [h1]
    · rw [if_pos ⟨h0, h1⟩, if_pos (by omega)]
theorem RdS.alloc {w : World} {A : Option Addr} {n c : Nat} {l : List ByteArray} (h : RdS w A n c l) (o : Obj) : RdS (w.alloc o) A n c l := Rd.alloc h o
theorem RdI.new1 (w : World) (x : Int) (t : TypeId) : RdI (w.alloc (.cells #[.int .i64 x] t)) (some ⟨w.heap.size, 0, none⟩) 1 1 [x] := Rd.new_ w [.int .i64 x] t 1 rfl (by decide)
theorem RdI.new1b (w : World) (o : Obj) (x : Int) (t : TypeId) : RdI ((w.alloc o).alloc (.cells #[.int .i64 x] t)) (some ⟨w.heap.size + 1, 0, none⟩) 1 1 [x] := by
  have h := RdI.new1 (w.alloc o) x t
  rwa [show (w.alloc o).heap.size = w.heap.size + 1 by simp] at h
theorem rplain {x p c : Int} : weightS x p c = if c == 0 || !isLetS x p then x else if p == 1 then plainS (upS_ x p) else upS_ x p := rfl
set_option maxRecDepth 100000 in
set_option maxHeartbeats 4000000 in
theorem rweight_any (x p c : Int) (hp : Pg p) (w : World) (h0 : 0 ≤ x) (h255 : x ≤ 255) : Calls Try.prog 40 #[.int .u8 x, .int .i64 p, .int .i64 c] w fun e w' => e = .returned (.int .u8 (weightS x p c)) ∧ w = w' := by
  have hu := upS_rng (p := p) h0 h255
  rcases Bool.eq_false_or_eq_true (c == 0) with hc | hc
  · have Fin : Hid (weightS x p c = x) := by unfold Hid weightS; rw [hc]; rfl
    go_enter Try.func40, Try.ntmps40
    go_wp2_with fail
    go_ret
    exact ⟨ret_int Fin.out.symm, rfl⟩
  · rcases Bool.eq_false_or_eq_true (isLetS x p) with hl | hl
    · rcases Bool.eq_false_or_eq_true (p == 1) with h1 | h1
      · have h1' : (p != 1) = false := by simpa using h1
        have Fin : Hid (weightS x p c = plainS (upS_ x p)) := by unfold Hid weightS; rw [hc, hl, h1]; rfl
        go_enter Try.func40, Try.ntmps40
        go_wp2_with fail
        refine (rIsLetter_any _ _ hp _ h0 h255).mono ?_
        rintro e w' ⟨rfl, rfl⟩
        go_wp2_with fail
        refine (rupper_any _ _ hp _ h0 h255).mono ?_
        rintro e w' ⟨rfl, rfl⟩
        generalize upS_ x p = u at *
        go_wp2
        all_goals go_ret
        all_goals refine ⟨ret_int ?_, rfl⟩
        all_goals rw [Fin.out]; clear Fin
        all_goals simp_all [plainS, withinB]
        all_goals omega
      · have h1' : (p != 1) = true := by simpa using h1
        have Fin : Hid (weightS x p c = upS_ x p) := by unfold Hid weightS; rw [hc, hl, h1]; rfl
        go_enter Try.func40, Try.ntmps40
        go_wp2_with fail
        refine (rIsLetter_any _ _ hp _ h0 h255).mono ?_
        rintro e w' ⟨rfl, rfl⟩
        go_wp2_with fail
        refine (rupper_any _ _ hp _ h0 h255).mono ?_
        rintro e w' ⟨rfl, rfl⟩
        go_wp2
        go_ret
        exact ⟨ret_int Fin.out.symm, rfl⟩
    · have Fin : Hid (weightS x p c = x) := by unfold Hid weightS; rw [hl]; simp
      go_enter Try.func40, Try.ntmps40
      go_wp2_with fail
      refine (rIsLetter_any _ _ hp _ h0 h255).mono ?_
      rintro e w' ⟨rfl, rfl⟩
      go_wp2
      go_ret
      exact ⟨ret_int Fin.out.symm, rfl⟩
end Go.Proofs.Ytlhnabkfacmmnaa
