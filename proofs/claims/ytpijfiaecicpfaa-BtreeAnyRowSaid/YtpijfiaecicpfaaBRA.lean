/-
  How acts that came in read as a list: for the rows.
-/
import Derived.Test.YtpijfiaecicpfaaBR0
import Derived.Test.YtpijfiaecicpfaaAc
namespace Go.Proofs.Ytpijfiaecicpfaa
open Go.ChangeShapes Go.WideShapes Go.ChangeAt Go.RowKit Go.Deep
set_option linter.unusedVariables false
section
variable {H : Type} {enc : TypeId × Value → H} {w : World} {base : Nat} {spare : Nat → Bool} {held : Bool} {fuel : Nat} {cs : List Value} {x : DataW H × List MemPlace}
theorem acts_read (h : DataW.trod enc Try.prog w base spare held fuel 50 cs = some x) : ∃ (A : Option Addr) (n c : Nat) (l : List Ac), cs = [.slice A n c] ∧ RdA w A n c l := by
  rcases slice_fields Try.underlying50 Try.underlying54 (by kernel_rfl) (by kernel_rfl) h with rfl | ⟨a, len, cap, D, sp, rfl, hl, hm, hx, hi⟩
  · exact ⟨none, 0, 0, [], rfl, Rd.none_ w 6, fun x hx => by cases hx⟩
  · obtain ⟨l, hll, hq⟩ := choose_list (n := len) (Q := fun i (v : Ac) => (∀ (j : Nat) (u : Value), (acells v)[j]? = some u → w.cell? (a.add (i * 6 + j)) = some u) ∧ okA v) (fun i hi' => by
      obtain ⟨ys, n, hd, hf⟩ := hi i hi'
      obtain ⟨v0, y0, c0, g0, t0⟩ := hf 0 _ rfl
      obtain ⟨v1, y1, c1, g1, t1⟩ := hf 1 _ rfl
      obtain ⟨v2, y2, c2, g2, t2⟩ := hf 2 _ rfl
      obtain ⟨v3, y3, c3, g3, t3⟩ := hf 3 _ rfl
      obtain ⟨v4, y4, c4, g4, t4⟩ := hf 4 _ rfl
      obtain ⟨v5, y5, c5, g5, t5⟩ := hf 5 _ rfl
      obtain ⟨n0, e0, _, m0⟩ := DataW.trod_int Try.underlying3 t0
      obtain ⟨n1, e1, _, m1⟩ := DataW.trod_int Try.underlying3 t1
      obtain ⟨n2, e2, _, m2⟩ := DataW.trod_int Try.underlying3 t2
      obtain ⟨n3, e3, _, m3⟩ := DataW.trod_int Try.underlying3 t3
      obtain ⟨n4, e4, _, m4⟩ := DataW.trod_string Try.underlying9 t4
      obtain ⟨n5, e5, _, m5⟩ := DataW.trod_string Try.underlying9 t5
      simp only [List.cons.injEq, and_true] at e0 e1 e2 e3 e4 e5
      subst e0 e1 e2 e3 e4 e5
      refine ⟨⟨n0, n1, n2, n3, n4, n5⟩, fun j u hu => ?_, m4, m5⟩
      have hj : j < 6 := by have := (List.getElem?_eq_some_iff.1 hu).1; simpa [acells] using this
      rcases (by omega : j = 0 ∨ j = 1 ∨ j = 2 ∨ j = 3 ∨ j = 4 ∨ j = 5) with rfl | rfl | rfl | rfl | rfl | rfl <;> (obtain rfl := Option.some.inj hu; assumption))
    refine ⟨some a, len, cap, l, rfl, ⟨by rw [acs_len, hll], hl, hm, fun _ => ⟨a, rfl, fun j u hu => ?_⟩⟩, fun x hx => ?_⟩
    · have hj : j < l.length * 6 := by
        have := (List.getElem?_eq_some_iff.1 hu).1
        rwa [acs_len] at this
      obtain ⟨k, r, hr, rfl⟩ : ∃ k r, r < 6 ∧ j = k * 6 + r := ⟨j / 6, j % 6, by omega, by omega⟩
      have hk : k < l.length := by omega
      rw [acs_at l k hk r hr] at hu
      exact (hq k _ (List.getElem?_eq_getElem hk)).1 r u hu
    · obtain ⟨j, hj⟩ := List.getElem?_of_mem hx
      exact (hq j x hj).2
end
end Go.Proofs.Ytpijfiaecicpfaa
