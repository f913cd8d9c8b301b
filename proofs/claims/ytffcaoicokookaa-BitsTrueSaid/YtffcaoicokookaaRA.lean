/-
  How an array of two structs of two slices that came in reads: for the row BitsTrue.
-/
import Derived.Test.YtffcaoicokookaaR
import Derived.ChangeSame
namespace Go.Proofs.Ytffcaoicokookaa
open Go.ChangeShapes Go.WideShapes Go.ChangeAt Go.RowKit
set_option linter.unusedVariables false
theorem arr2_read {H : Type} {enc : TypeId × Value → H} {w : World} {base : Nat} {spare : Nat → Bool} {held : Bool} {r : Reach} {b0 : Nat} {v : Value} {dd : DataW H} {pp : List MemPlace}
    (hv : Value.okWide Try.prog w r b0 44 v) (h : DataW.Trod enc Try.prog w base spare held 44 v dd pp) :
    ∃ a n c l b m e z a' n' c' l' b' m' e' z', v = .agg #[.slice a n c, .slice b m e, .slice a' n' c', .slice b' m' e'] ∧ RdI w a n c l ∧ RdI w b m e z ∧ RdI w a' n' c' l' ∧ RdI w b' m' e' z' := by
  have c44 : Try.prog.cellsOf 44 = 4 := by kernel_rfl
  have c29 : Try.prog.cellsOf 29 = 2 := by kernel_rfl
  have c22 : Try.prog.cellsOf 22 = 1 := by kernel_rfl
  obtain ⟨cs, rfl⟩ : ∃ cs, v = .agg cs := by
    simp only [Value.okWide, Try.underlying44] at hv
    obtain ⟨cs, h1, _⟩ := hv
    exact ⟨cs, h1⟩
  obtain ⟨fuel, hf⟩ := h
  obtain ⟨xs, k, _, _, hl, hx, hel⟩ := DataW.trod_array Try.underlying44 hf
  rw [c44] at hl
  obtain ⟨cl⟩ := cs
  match cl, hl with
  | [q0, q1, q2, q3], _ =>
    have k0 := hel 0 (by omega)
    have k1 := hel 1 (by omega)
    rw [c29] at k0 k1
    match xs, hx with
    | [y, y'], _ =>
      simp only [List.drop, List.take, Value.cells] at k0 k1
      obtain ⟨u0, u1, f, _, _, t0, t1⟩ := trod_struct2 Try.underlying29 (by simpa using k0)
      obtain ⟨u2, u3, f', _, _, t2, t3⟩ := trod_struct2 Try.underlying29 (by simpa using k1)
      obtain ⟨a, n, c, l, e0, r0⟩ := ints_read (cs := [q0]) (by simpa [c22] using t0)
      obtain ⟨b, m, e, z, e1, r1⟩ := ints_read (cs := [q1]) (by simpa [c22] using t1)
      obtain ⟨a', n', c', l', e2, r2⟩ := ints_read (cs := [q2]) (by simpa [c22] using t2)
      obtain ⟨b', m', e', z', e3, r3⟩ := ints_read (cs := [q3]) (by simpa [c22] using t3)
      simp only [List.cons.injEq, and_true] at e0 e1 e2 e3
      subst e0 e1 e2 e3
      exact ⟨_, _, _, l, _, _, _, z, _, _, _, l', _, _, _, z', rfl, r0, r1, r2, r3⟩
end Go.Proofs.Ytffcaoicokookaa
