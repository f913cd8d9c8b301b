/-
  How arrays of two numbers and of three texts that came in read: for the rows.
-/
import Derived.Test.YtlhnabkfacmmnaaBase
import Derived.Test.YtlhnabkfacmmnaaProg
import Derived.ProofKit
import Derived.OpenShut
import Derived.ChangeSame
import Derived.ShutString
namespace Go.Proofs.Ytlhnabkfacmmnaa
open Go.ChangeShapes Go.WideShapes Go.ChangeAt Go.RowKit
set_option linter.unusedVariables false
theorem arrI2_read {H : Type} {enc : TypeId × Value → H} {w : World} {base : Nat} {spare : Nat → Bool} {held : Bool} {r : Reach} {b0 : Nat} {v : Value} {dd : DataW H} {pp : List MemPlace}
    (hv : Value.okWide Try.prog w r b0 27 v) (h : DataW.Trod enc Try.prog w base spare held 27 v dd pp) :
    ∃ a b, v = .agg #[.int .i64 a, .int .i64 b] ∧ (Lit.int .i64 a).wf = true ∧ (Lit.int .i64 b).wf = true := by
  have ca : Try.prog.cellsOf 27 = 2 := by kernel_rfl
  have ce : Try.prog.cellsOf 3 = 1 := by kernel_rfl
  obtain ⟨cs, rfl⟩ : ∃ cs, v = .agg cs := by
    simp only [Value.okWide, Try.underlying27] at hv
    obtain ⟨cs, h1, _⟩ := hv
    exact ⟨cs, h1⟩
  obtain ⟨fuel, hf⟩ := h
  obtain ⟨xs, k, _, _, hl, hx, hel⟩ := DataW.trod_array Try.underlying27 hf
  rw [ca] at hl
  obtain ⟨cl⟩ := cs
  match cl, hl with
  | [q0, q1], _ =>
    have k0 := hel 0 (by omega)
    have k1 := hel 1 (by omega)
    rw [ce] at k0 k1
    match xs, hx with
    | [y, y'], _ =>
      simp only [List.drop, List.take, Value.cells] at k0 k1
      obtain ⟨n0, e0, _, w0⟩ := DataW.trod_int Try.underlying3 (by simpa using k0)
      obtain ⟨n1, e1, _, w1⟩ := DataW.trod_int Try.underlying3 (by simpa using k1)
      simp only [List.cons.injEq, and_true] at e0 e1
      subst e0 e1
      exact ⟨n0, n1, rfl, w0, w1⟩
theorem arrS3_read {H : Type} {enc : TypeId × Value → H} {w : World} {base : Nat} {spare : Nat → Bool} {held : Bool} {r : Reach} {b0 : Nat} {v : Value} {dd : DataW H} {pp : List MemPlace}
    (hv : Value.okWide Try.prog w r b0 32 v) (h : DataW.Trod enc Try.prog w base spare held 32 v dd pp) :
    ∃ a b c, v = .agg #[.string a, .string b, .string c] ∧ a.size ≤ maxLen ∧ b.size ≤ maxLen ∧ c.size ≤ maxLen := by
  have ca : Try.prog.cellsOf 32 = 3 := by kernel_rfl
  have ce : Try.prog.cellsOf 9 = 1 := by kernel_rfl
  obtain ⟨cs, rfl⟩ : ∃ cs, v = .agg cs := by
    simp only [Value.okWide, Try.underlying32] at hv
    obtain ⟨cs, h1, _⟩ := hv
    exact ⟨cs, h1⟩
  obtain ⟨fuel, hf⟩ := h
  obtain ⟨xs, k, _, _, hl, hx, hel⟩ := DataW.trod_array Try.underlying32 hf
  rw [ca] at hl
  obtain ⟨cl⟩ := cs
  match cl, hl with
  | [q0, q1, q2], _ =>
    have k0 := hel 0 (by omega)
    have k1 := hel 1 (by omega)
    have k2 := hel 2 (by omega)
    rw [ce] at k0 k1 k2
    match xs, hx with
    | [y, y', y''], _ =>
      simp only [List.drop, List.take, Value.cells] at k0 k1 k2
      obtain ⟨n0, e0, _, w0⟩ := DataW.trod_string Try.underlying9 (by simpa using k0)
      obtain ⟨n1, e1, _, w1⟩ := DataW.trod_string Try.underlying9 (by simpa using k1)
      obtain ⟨n2, e2, _, w2⟩ := DataW.trod_string Try.underlying9 (by simpa using k2)
      simp only [List.cons.injEq, and_true] at e0 e1 e2
      subst e0 e1 e2
      exact ⟨n0, n1, n2, rfl, w0, w1, w2⟩
end Go.Proofs.Ytlhnabkfacmmnaa
