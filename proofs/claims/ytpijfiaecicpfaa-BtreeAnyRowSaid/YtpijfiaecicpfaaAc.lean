/-
  Acts of scripts in memory.
-/
import Derived.Test.YtpijfiaecicpfaaBg
namespace Go.Proofs.Ytpijfiaecicpfaa
open Go.RowKit Go.Shelf
set_option linter.unusedVariables false
set_option linter.unusedSimpArgs false
/-- An act of a script. -/
structure Ac where
  op : Int
  a : Int
  b : Int
  c : Int
  s : ByteArray
  t : ByteArray
def acells (x : Ac) : List Value := [.int .i64 x.op, .int .i64 x.a, .int .i64 x.b, .int .i64 x.c, .string x.s, .string x.t]
def acs : List Ac → List Value
  | [] => []
  | x :: l => acells x ++ acs l
theorem acs_len : ∀ l : List Ac, (acs l).length = l.length * 6
  | [] => rfl
  | x :: l => by rw [acs, List.length_append, acs_len l, List.length_cons]; simp [acells]; omega
theorem acs_at : ∀ (l : List Ac) (k : Nat) (h : k < l.length) (j : Nat), j < 6 → (acs l)[k * 6 + j]? = (acells l[k])[j]?
  | x :: l, 0, h, j, hj => by
    rw [acs, List.getElem?_append_left (by simp [acells]; omega)]
    simp
  | x :: l, k + 1, h, j, hj => by
    have := acs_at l k (by simpa using h) j hj
    rw [acs, List.getElem?_append_right (by simp [acells]; omega), List.getElem_cons_succ, ← this]
    congr 1
    simp [acells]
    omega
/-- How long an act's texts are. -/
def okA (x : Ac) : Prop := x.s.size ≤ maxLen ∧ x.t.size ≤ maxLen
/-- A slice of acts. -/
def RdA (w : World) (A : Option Addr) (n c : Nat) (l : List Ac) : Prop := Rd w 6 A n c (acs l) ∧ ∀ x ∈ l, okA x
theorem RdA.len {w : World} {A : Option Addr} {n c : Nat} {l : List Ac} (h : RdA w A n c l) : l.length = n := by have := h.1.1; rw [acs_len] at this; omega
theorem RdA.ext {w w' : World} {A : Option Addr} {n c : Nat} {l : List Ac} (h : RdA w A n c l) (hb : Ext w w') : RdA w' A n c l := ⟨Rd.ext h.1 hb, h.2⟩
def ath (l : List Ac) (k : Nat) : Ac := l.getD k ⟨0, 0, 0, 0, ⟨#[]⟩, ⟨#[]⟩⟩
theorem ath_get {l : List Ac} {k : Nat} (h : k < l.length) : ath l k = l[k] := by simp [ath, List.getD, h]
theorem RdA.at_ {w : World} {A : Option Addr} {n c : Nat} {l : List Ac} (h : RdA w A n c l) {k : Nat} (hk : k < n) : ∃ ad, A = some ad ∧ w.cell? (ad.add (k * 6)) = some (.int .i64 (ath l k).op) ∧ w.cell? ⟨(ad.add (k * 6)).block, (ad.add (k * 6)).off + 1, none⟩ = some (.int .i64 (ath l k).a) ∧ w.cell? ⟨(ad.add (k * 6)).block, (ad.add (k * 6)).off + 2, none⟩ = some (.int .i64 (ath l k).b) ∧
    w.cell? ⟨(ad.add (k * 6)).block, (ad.add (k * 6)).off + 4, none⟩ = some (.string (ath l k).s) ∧ w.cell? ⟨(ad.add (k * 6)).block, (ad.add (k * 6)).off + 5, none⟩ = some (.string (ath l k).t) ∧ okA (ath l k) := by
  have hl := h.len
  have hlt : k < l.length := by omega
  obtain ⟨ad, rfl, hc⟩ := h.1.2.2.2 (by omega)
  have hj : ∀ j v, j < 6 → (acells (ath l k))[j]? = some v → w.cell? (ad.add (k * 6 + j)) = some v := fun j v h6 hv => hc _ _ (by rw [acs_at l k hlt j h6, ← ath_get hlt]; exact hv)
  have hf : ∀ j v, j < 6 → 0 < j → (acells (ath l k))[j]? = some v → w.cell? ⟨(ad.add (k * 6)).block, (ad.add (k * 6)).off + j, none⟩ = some v := fun j v h6 h0 hv => cell_fk (hj j v h6 hv) h0
  refine ⟨ad, rfl, ?_, hf 1 _ (by decide) (by decide) rfl, hf 2 _ (by decide) (by decide) rfl, hf 4 _ (by decide) (by decide) rfl, hf 5 _ (by decide) (by decide) rfl, h.2 _ (by rw [ath_get hlt]; exact List.getElem_mem hlt)⟩
  exact hj 0 _ (by decide) rfl
end Go.Proofs.Ytpijfiaecicpfaa
