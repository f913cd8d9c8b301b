/-
  How an array of two texts that came in reads: for the rows.
-/
import Derived.Test.YtkjcfnmbnddhjaaDoorBase
import Derived.Test.YtkjcfnmbnddhjaaDoorProg
import Derived.ProofKit
import Derived.OpenShut
import Derived.ChangeSame
import Derived.ShutString
namespace Go.Proofs.YtkjcfnmbnddhjaaDoor
open Go.ChangeShapes Go.WideShapes Go.ChangeAt Go.RowKit
set_option linter.unusedVariables false
set_option maxRecDepth 1000000 in
theorem arrS2_read {H : Type} {enc : TypeId × Value → H} {w : World} {base : Nat} {spare : Nat → Bool} {held : Bool} {r : Reach} {b0 : Nat} {v : Value} {dd : DataW H} {pp : List MemPlace}
    (hv : Value.okWide Tryd.prog w r b0 41 v) (h : DataW.Trod enc Tryd.prog w base spare held 41 v dd pp) :
    ∃ a b, v = .agg #[.string a, .string b] ∧ a.size ∈ dd.weights Tryd.prog 41 ∧ b.size ∈ dd.weights Tryd.prog 41 := by
  have ca : Tryd.prog.cellsOf 41 = 2 := by kernel_rfl
  have ce : Tryd.prog.cellsOf 9 = 1 := by kernel_rfl
  obtain ⟨cs, rfl⟩ : ∃ cs, v = .agg cs := by
    simp only [Value.okWide, Tryd.underlying41] at hv
    obtain ⟨cs, h1, _⟩ := hv
    exact ⟨cs, h1⟩
  obtain ⟨fuel, hf⟩ := h
  obtain ⟨xs, k, _, hdd, hl, hx, hel⟩ := DataW.trod_array Tryd.underlying41 hf
  rw [ca] at hl
  obtain ⟨cl⟩ := cs
  match cl, hl with
  | [q0, q1], _ =>
    have k0 := hel 0 (by omega)
    have k1 := hel 1 (by omega)
    rw [ce] at k0 k1
    match xs, hx with
    | [y, y'], _ =>
      simp only [List.drop, List.take, Value.cells] at k0 k1
      obtain ⟨n0, e0, x0, w0⟩ := DataW.trod_string Tryd.underlying9 (by simpa using k0)
      obtain ⟨n1, e1, x1, w1⟩ := DataW.trod_string Tryd.underlying9 (by simpa using k1)
      simp only [List.cons.injEq, and_true] at e0 e1
      subst e0 e1
      have hd : dd = .agg [.lit (.string n0.data.toList), .lit (.string n1.data.toList)] := by
        have := congrArg Prod.fst hdd
        rw [x0, x1] at this
        exact this
      subst hd
      refine ⟨n0, n1, rfl, ?_, ?_⟩
      · simp [DataW.weights, Tryd.underlying41, DataW.weightsAll]
      · simp [DataW.weights, Tryd.underlying41, DataW.weightsAll]
end Go.Proofs.YtkjcfnmbnddhjaaDoor
