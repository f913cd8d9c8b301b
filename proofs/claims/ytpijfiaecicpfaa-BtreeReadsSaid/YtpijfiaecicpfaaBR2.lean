/-
  How bytes that came in read as a list: for the rows.
-/
import Derived.Test.YtpijfiaecicpfaaBR0
import Derived.Test.YtpijfiaecicpfaaCe
namespace Go.Proofs.Ytpijfiaecicpfaa
open Go.ChangeShapes Go.WideShapes Go.ChangeAt Go.RowKit Go.Deep
set_option linter.unusedVariables false
set_option linter.unusedSimpArgs false
section
variable {H : Type} {enc : TypeId × Value → H} {w : World} {base : Nat} {spare : Nat → Bool} {held : Bool} {fuel : Nat} {cs : List Value} {x : DataW H × List MemPlace}
theorem bytes_read (h : DataW.trod enc Try.prog w base spare held fuel 43 cs = some x) : ∃ (A : Option Addr) (n c : Nat) (l : List Int), cs = [.slice A n c] ∧ RdB w A n c l := by
  rcases slice_ones Try.underlying43 (by kernel_rfl) h with rfl | ⟨a, len, cap, n, D, sp, rfl, hl, hm, hx, hi⟩
  · exact ⟨none, 0, 0, [], rfl, Rd.none_ w 1, fun x hx => by cases hx⟩
  · obtain ⟨l, hll, hq⟩ := choose_list (n := len) (Q := fun i (b : Int) => w.cell? (a.add i) = some (.int .u8 b) ∧ 0 ≤ b ∧ b ≤ 255) (fun i hi' => by
      obtain ⟨v, y, hc, ht⟩ := hi i hi'
      obtain ⟨b, e, _, hw⟩ := DataW.trod_int Try.underlying5 ht
      simp only [List.cons.injEq, and_true] at e
      subst e
      have h0 : 0 ≤ b ∧ b ≤ 255 := bounds_u8 hw
      exact ⟨b, hc, h0⟩)
    refine ⟨some a, len, cap, l, rfl, ⟨by simp [bys, hll], hl, hm, fun _ => ⟨a, rfl, fun j u hu => ?_⟩⟩, fun x hx => ?_⟩
    · unfold bys at hu
      rw [List.getElem?_map] at hu
      cases hb : l[j]? with
      | none => rw [hb] at hu; cases hu
      | some b => rw [hb] at hu; obtain rfl := Option.some.inj hu; exact (hq j b hb).1
    · obtain ⟨j, hj⟩ := List.getElem?_of_mem hx
      exact (hq j x hj).2
end
end Go.Proofs.Ytpijfiaecicpfaa
