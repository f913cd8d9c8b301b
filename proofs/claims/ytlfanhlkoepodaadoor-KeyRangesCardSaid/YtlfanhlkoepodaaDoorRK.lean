/-
  How arrays of numbers that came in read: for the rows.
-/
import Derived.Test.YtlfanhlkoepodaaDoorBase
import Derived.Test.YtlfanhlkoepodaaDoorProg
import Derived.ProofKit
import Derived.OpenShut
import Derived.ChangeSame
import Derived.ShutString
namespace Go.Proofs.YtlfanhlkoepodaaDoor
open Go.ChangeShapes Go.WideShapes Go.ChangeAt Go.RowKit
set_option linter.unusedVariables false
set_option maxRecDepth 1000000
theorem arrI2_read {H : Type} {enc : TypeId × Value → H} {w : World} {base : Nat} {spare : Nat → Bool} {held : Bool} {r : Reach} {b0 : Nat} {v : Value} {dd : DataW H} {pp : List MemPlace}
    (hv : Value.okWide Tryd.prog w r b0 79 v) (h : DataW.Trod enc Tryd.prog w base spare held 79 v dd pp) :
    ∃ a b, v = .agg #[.int .i64 a, .int .i64 b] ∧ (Lit.int .i64 a).wf = true ∧ (Lit.int .i64 b).wf = true := by
  have ca : Tryd.prog.cellsOf 79 = 2 := by kernel_rfl
  have ce : Tryd.prog.cellsOf 3 = 1 := by kernel_rfl
  obtain ⟨cs, rfl⟩ : ∃ cs, v = .agg cs := by
    simp only [Value.okWide, Tryd.underlying79] at hv
    obtain ⟨cs, h1, _⟩ := hv
    exact ⟨cs, h1⟩
  obtain ⟨fuel, hf⟩ := h
  obtain ⟨xs, k, _, _, hl, hx, hel⟩ := DataW.trod_array Tryd.underlying79 hf
  rw [ca] at hl
  obtain ⟨cl⟩ := cs
  match cl, hl with
  | [q0, q1], _ =>
    have k0 := hel 0 (by omega)
    have k1 := hel 1 (by omega)
    rw [ce] at k0 k1
    match xs, hx with
    | [y0, y1], _ =>
      simp only [List.drop, List.take, Value.cells] at k0 k1
      obtain ⟨n0, e0, _, w0⟩ := DataW.trod_int Tryd.underlying3 (by simpa using k0)
      obtain ⟨n1, e1, _, w1⟩ := DataW.trod_int Tryd.underlying3 (by simpa using k1)
      simp only [List.cons.injEq, and_true] at e0 e1
      subst e0 e1
      exact ⟨n0, n1, rfl, w0, w1⟩
theorem arrI3_read {H : Type} {enc : TypeId × Value → H} {w : World} {base : Nat} {spare : Nat → Bool} {held : Bool} {r : Reach} {b0 : Nat} {v : Value} {dd : DataW H} {pp : List MemPlace}
    (hv : Value.okWide Tryd.prog w r b0 24 v) (h : DataW.Trod enc Tryd.prog w base spare held 24 v dd pp) :
    ∃ a b c, v = .agg #[.int .i64 a, .int .i64 b, .int .i64 c] ∧ (Lit.int .i64 a).wf = true ∧ (Lit.int .i64 b).wf = true ∧ (Lit.int .i64 c).wf = true := by
  have ca : Tryd.prog.cellsOf 24 = 3 := by kernel_rfl
  have ce : Tryd.prog.cellsOf 3 = 1 := by kernel_rfl
  obtain ⟨cs, rfl⟩ : ∃ cs, v = .agg cs := by
    simp only [Value.okWide, Tryd.underlying24] at hv
    obtain ⟨cs, h1, _⟩ := hv
    exact ⟨cs, h1⟩
  obtain ⟨fuel, hf⟩ := h
  obtain ⟨xs, k, _, _, hl, hx, hel⟩ := DataW.trod_array Tryd.underlying24 hf
  rw [ca] at hl
  obtain ⟨cl⟩ := cs
  match cl, hl with
  | [q0, q1, q2], _ =>
    have k0 := hel 0 (by omega)
    have k1 := hel 1 (by omega)
    have k2 := hel 2 (by omega)
    rw [ce] at k0 k1 k2
    match xs, hx with
    | [y0, y1, y2], _ =>
      simp only [List.drop, List.take, Value.cells] at k0 k1 k2
      obtain ⟨n0, e0, _, w0⟩ := DataW.trod_int Tryd.underlying3 (by simpa using k0)
      obtain ⟨n1, e1, _, w1⟩ := DataW.trod_int Tryd.underlying3 (by simpa using k1)
      obtain ⟨n2, e2, _, w2⟩ := DataW.trod_int Tryd.underlying3 (by simpa using k2)
      simp only [List.cons.injEq, and_true] at e0 e1 e2
      subst e0 e1 e2
      exact ⟨n0, n1, n2, rfl, w0, w1, w2⟩
theorem arrI4_read {H : Type} {enc : TypeId × Value → H} {w : World} {base : Nat} {spare : Nat → Bool} {held : Bool} {r : Reach} {b0 : Nat} {v : Value} {dd : DataW H} {pp : List MemPlace}
    (hv : Value.okWide Tryd.prog w r b0 71 v) (h : DataW.Trod enc Tryd.prog w base spare held 71 v dd pp) :
    ∃ a b c d, v = .agg #[.int .i64 a, .int .i64 b, .int .i64 c, .int .i64 d] ∧ (Lit.int .i64 a).wf = true ∧ (Lit.int .i64 b).wf = true ∧ (Lit.int .i64 c).wf = true ∧ (Lit.int .i64 d).wf = true := by
  have ca : Tryd.prog.cellsOf 71 = 4 := by kernel_rfl
  have ce : Tryd.prog.cellsOf 3 = 1 := by kernel_rfl
  obtain ⟨cs, rfl⟩ : ∃ cs, v = .agg cs := by
    simp only [Value.okWide, Tryd.underlying71] at hv
    obtain ⟨cs, h1, _⟩ := hv
    exact ⟨cs, h1⟩
  obtain ⟨fuel, hf⟩ := h
  obtain ⟨xs, k, _, _, hl, hx, hel⟩ := DataW.trod_array Tryd.underlying71 hf
  rw [ca] at hl
  obtain ⟨cl⟩ := cs
  match cl, hl with
  | [q0, q1, q2, q3], _ =>
    have k0 := hel 0 (by omega)
    have k1 := hel 1 (by omega)
    have k2 := hel 2 (by omega)
    have k3 := hel 3 (by omega)
    rw [ce] at k0 k1 k2 k3
    match xs, hx with
    | [y0, y1, y2, y3], _ =>
      simp only [List.drop, List.take, Value.cells] at k0 k1 k2 k3
      obtain ⟨n0, e0, _, w0⟩ := DataW.trod_int Tryd.underlying3 (by simpa using k0)
      obtain ⟨n1, e1, _, w1⟩ := DataW.trod_int Tryd.underlying3 (by simpa using k1)
      obtain ⟨n2, e2, _, w2⟩ := DataW.trod_int Tryd.underlying3 (by simpa using k2)
      obtain ⟨n3, e3, _, w3⟩ := DataW.trod_int Tryd.underlying3 (by simpa using k3)
      simp only [List.cons.injEq, and_true] at e0 e1 e2 e3
      subst e0 e1 e2 e3
      exact ⟨n0, n1, n2, n3, rfl, w0, w1, w2, w3⟩
end Go.Proofs.YtlfanhlkoepodaaDoor
