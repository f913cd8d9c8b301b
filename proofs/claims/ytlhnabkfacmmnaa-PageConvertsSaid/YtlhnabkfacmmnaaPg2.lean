/-
  Strings and their bytes; what is wrong with a page's arguments.
-/
import Derived.Test.YtlhnabkfacmmnaaPg1
namespace Go.Proofs.Ytlhnabkfacmmnaa
open Go.RowKit
set_option linter.unusedVariables false
set_option linter.unusedSimpArgs false

/-! ### Slices of strings, of bytes -/
def strs (l : List ByteArray) : List Value := l.map Value.string
def RdS (w : World) (A : Option Addr) (n c : Nat) (l : List ByteArray) : Prop := Rd w 1 A n c (strs l)
def sth (l : List ByteArray) (k : Nat) : ByteArray := l.getD k ByteArray.empty
section
variable {w w' : World} {n c : Nat} {A : Option Addr} {l : List ByteArray}
theorem RdS.len (h : RdS w A n c l) : l.length = n := by have := h.1; simpa [strs] using this
theorem RdS.max (h : RdS w A n c l) : n ≤ 9223372036854775807 ∧ n ≤ c ∧ c ≤ 9223372036854775807 := Rd.max h
theorem RdS.at_ (h : RdS w A n c l) {k : Nat} (hk : k < n) : ∃ ad, A = some ad ∧ w.cell? (ad.add k) = some (.string (sth l k)) := by
  obtain ⟨ad, hA, hc⟩ := h.2.2.2 (by omega)
  have hl := h.len
  exact ⟨ad, hA, hc k _ (by simp [strs, sth, List.getD, hl, hk])⟩
theorem RdS.ext (h : RdS w A n c l) (hb : Ext w w') : RdS w' A n c l := Rd.ext h hb
end
theorem Rd.new_ (w : World) (cs : List Value) (t : TypeId) (n : Nat) (hn : cs.length = n) (hm : n ≤ maxLen) : Rd (w.alloc (.cells cs.toArray t)) 1 (some ⟨w.heap.size, 0, none⟩) n n cs :=
  ⟨by omega, Nat.le_refl _, hm, fun _ => ⟨_, rfl, World.news_of_block (cs := cs.toArray) (heap_alloc_new w _)⟩⟩
theorem RdS.new1 (w : World) (s : ByteArray) (t : TypeId) : RdS (w.alloc (.cells #[.string s] t)) (some ⟨w.heap.size, 0, none⟩) 1 1 [s] := Rd.new_ w [.string s] t 1 rfl (by decide)
theorem RdS.new2 (w : World) (s u : ByteArray) (t : TypeId) : RdS (w.alloc (.cells #[.string s, .string u] t)) (some ⟨w.heap.size, 0, none⟩) 2 2 [s, u] := Rd.new_ w [.string s, .string u] t 2 rfl (by decide)
/-- One of the first k texts is too long. -/
def longTo (l : List ByteArray) (k : Nat) : Bool := (l.take k).any fun s => decide (2048 < s.size)
theorem longTo_succ (l : List ByteArray) (k : Nat) (hk : k < l.length) : longTo l (k + 1) = (longTo l k || decide (2048 < (sth l k).size)) := by
  unfold longTo
  rw [List.take_succ_eq_append_getElem hk, List.any_append, show sth l k = l[k] by simp [sth, List.getD, hk]]
  simp only [List.any_cons, List.any_nil, Bool.or_false]
theorem long_of (l : List ByteArray) (k : Nat) (hk : k < l.length) (h : 2048 < (sth l k).size) : longTo l l.length = true := by
  unfold longTo
  rw [List.take_length, List.any_eq_true]
  exact ⟨sth l k, by simp [sth, List.getD, hk], by simpa using h⟩
def pgB (p : Int) : Bool := decide (p < 0) || decide (2 < p)
def askE (p : Int) (l : List ByteArray) : Int := if longTo l l.length then 3 else if pgB p then 1 else 0

set_option maxRecDepth 100000 in
set_option maxHeartbeats 1000000 in
theorem asked_any (p : Int) (A : Option Addr) (n c : Nat) (l : List ByteArray) (w : World) (hs : RdS w A n c l) :
    Calls Try.prog 30 #[.int .i64 p, .slice A n c] w fun e w' => e = .returned (.int .i64 (askE p l)) ∧ w = w' := by
  have Hl := hid hs.len
  have hm := hs.max
  go_enter Try.func30, Try.ntmps30
  go_wp2_with fail
  go_loopw [9] (fun i wr => (∃ k : Nat, k ≤ n ∧ i = .int .i64 k ∧ Hid (longTo l k = false)) ∧ wr = w) (fun i _ => n - (intOf i).toNat)
  case atStart => exact ⟨⟨0, by omega, rfl, (rfl : longTo l 0 = false)⟩, rfl⟩
  case round =>
    obtain ⟨⟨k, hk, rfl, hno⟩, rfl⟩ := hrel
    by_cases hlt : k < n
    · obtain ⟨ad, rfl, hc⟩ := hs.at_ hlt
      have hlt' : k < l.length := by rw [Hl.out]; exact hlt
      by_cases hbig : 2048 < (sth l k).size
      · have Fin : Hid (askE p l = 3) := by unfold Hid askE; rw [long_of l k hlt' hbig]; rfl
        have e1 : decide ((2048 : Int) < ((sth l k).size : Int)) = true := by simp; omega
        clear hlt' hbig
        go_wp2
        go_ret
        exact ⟨ret_int Fin.out.symm, rfl⟩
      · have e1 : decide ((2048 : Int) < ((sth l k).size : Int)) = false := by simp; omega
        have hn2 : Hid (longTo l (k + 1) = false) := by unfold Hid; rw [longTo_succ l k hlt', hno.out]; simp; omega
        clear hlt' hbig
        go_wp2
        go_roundw
        case rel => exact ⟨⟨k + 1, by omega, by go_num, hn2⟩, by trivial⟩
        case measure => simp [intOf]; omega
    · have hno' : Hid (longTo l l.length = false) := by
        have e : k = l.length := by rw [Hl.out]; omega
        rw [← e]; exact hno
      by_cases h1 : p < 0
      · have e1 : decide (p < 0) = true := by simpa using h1
        have Fin : Hid (askE p l = 1) := by unfold Hid askE pgB; rw [hno'.out, e1]; rfl
        clear h1
        go_wp2
        go_ret
        exact ⟨ret_int Fin.out.symm, rfl⟩
      · have e1 : decide (p < 0) = false := by simpa using h1
        by_cases h2 : 2 < p
        · have e2 : decide (2 < p) = true := by simpa using h2
          have Fin : Hid (askE p l = 1) := by unfold Hid askE pgB; rw [hno'.out, e1, e2]; rfl
          clear h1 h2
          go_wp2
          go_ret
          exact ⟨ret_int Fin.out.symm, rfl⟩
        · have e2 : decide (2 < p) = false := by simpa using h2
          have Fin : Hid (askE p l = 0) := by unfold Hid askE pgB; rw [hno'.out, e1, e2]; rfl
          clear h1 h2
          go_wp2
          go_ret
          exact ⟨ret_int Fin.out.symm, rfl⟩
end Go.Proofs.Ytlhnabkfacmmnaa
