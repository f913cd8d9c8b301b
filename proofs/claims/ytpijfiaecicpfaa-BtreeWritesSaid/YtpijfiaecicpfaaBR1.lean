/-
  How an index that came in reads as nodes: for the rows.
-/
import Derived.Test.YtpijfiaecicpfaaBR0
import Derived.Test.YtpijfiaecicpfaaBl
namespace Go.Proofs.Ytpijfiaecicpfaa
open Go.ChangeShapes Go.WideShapes Go.ChangeAt Go.RowKit Go.Deep
set_option linter.unusedVariables false
set_option linter.unusedSimpArgs false
section
variable {H : Type} {enc : TypeId × Value → H} {w : World} {base : Nat} {spare : Nat → Bool} {held : Bool}
theorem RFs.mk : ∀ {vs : List V3} {xs : List Nx}, vs.length = xs.length → (∀ k (h1 : k < vs.length) (h2 : k < xs.length), RF w vs[k] xs[k]) → RFs w vs xs
  | [], [], _, _ => trivial
  | v :: vs, x :: xs, hl, h => ⟨h 0 (by simp) (by simp), RFs.mk (by simpa using hl) (fun k h1 h2 => h (k + 1) (by simpa using h1) (by simpa using h2))⟩
  | [], _ :: _, hl, _ => absurd hl (by simp)
  | _ :: _, [], hl, _ => absurd hl (by simp)
theorem nodes_read {fuel : Nat} {cs : List Value} {x : DataW H × List MemPlace} (h : DataW.trod enc Try.prog w base spare held fuel 35 cs = some x) : ∃ (A : Option Addr) (n c : Nat) (xs : List Nx), cs = [.slice A n c] ∧ RX w A n c xs := by
  rcases slice_fields Try.underlying35 Try.underlying69 (by kernel_rfl) (by kernel_rfl) h with rfl | ⟨a, len, cap, D, sp, rfl, hl, hm, hx, hi⟩
  · exact ⟨none, 0, 0, [], rfl, [], Rd.none_ w 3, trivial⟩
  · obtain ⟨l, hll, hq⟩ := choose_list (n := len) (Q := fun i (v : V3 × Nx) => (∀ (j : Nat) (u : Value), [v.1.k, v.1.r, v.1.d][j]? = some u → w.cell? (a.add (i * 3 + j)) = some u) ∧ RF w v.1 v.2) (fun i hi' => by
      obtain ⟨ys, n, hd, hf⟩ := hi i hi'
      obtain ⟨v0, y0, c0, g0, t0⟩ := hf 0 _ rfl
      obtain ⟨v1, y1, c1, g1, t1⟩ := hf 1 _ rfl
      obtain ⟨v2, y2, c2, g2, t2⟩ := hf 2 _ rfl
      obtain ⟨A0, n0, d0, l0, e0, r0⟩ := strs_read t0
      obtain ⟨A1, n1, d1, l1, e1, r1⟩ := ints_read t1
      obtain ⟨A2, n2, d2, l2, e2, r2⟩ := ints_read t2
      simp only [List.cons.injEq, and_true] at e0 e1 e2
      subst e0 e1 e2
      have k0 : l0.length = n0 := by have := r0.1; rw [strv_len] at this; omega
      have k1 := r1.len
      have k2 := r2.len
      refine ⟨⟨⟨.slice A0 n0 d0, .slice A1 n1 d1, .slice A2 n2 d2⟩, ⟨l0, l1, l2⟩⟩, fun j u hu => ?_, A0, d0, A1, d1, A2, d2, ?_, ?_, ?_, ?_⟩
      · have hj : j < 3 := by have := (List.getElem?_eq_some_iff.1 hu).1; simpa using this
        rcases (by omega : j = 0 ∨ j = 1 ∨ j = 2) with rfl | rfl | rfl <;> (obtain rfl := Option.some.inj hu; assumption)
      · show (⟨.slice A0 n0 d0, .slice A1 n1 d1, .slice A2 n2 d2⟩ : V3) = ⟨.slice A0 l0.length d0, .slice A1 l1.length d1, .slice A2 l2.length d2⟩
        rw [k0, k1, k2]
      · show Rd w 1 A0 l0.length d0 (strv l0)
        rw [k0]; exact r0
      · show RdI w A1 l1.length d1 l1
        rw [k1]; exact r1
      · show RdI w A2 l2.length d2 l2
        rw [k2]; exact r2)
    have hvl : (l.map Prod.fst).length = len := by simp [hll]
    refine ⟨some a, len, cap, l.map Prod.snd, rfl, l.map Prod.fst, ⟨by rw [rowsV_len, hvl], hl, hm, fun _ => ⟨a, rfl, fun j u hu => ?_⟩⟩, RFs.mk (by simp) (fun k h1 h2 => ?_)⟩
    · have hj := (List.getElem?_eq_some_iff.1 hu).1
      rw [rowsV_len, hvl] at hj
      obtain ⟨k, r, hr, rfl⟩ : ∃ k r, r < 3 ∧ j = k * 3 + r := ⟨j / 3, j % 3, by omega, by omega⟩
      have hk : k < l.length := by omega
      have hk' : k < (l.map Prod.fst).length := by rw [hvl]; omega
      obtain ⟨q0, q1, q2⟩ := rowsV_nth hk'
      rw [List.getElem_map] at q0 q1 q2
      have hc := (hq k _ (List.getElem?_eq_getElem hk)).1
      rcases (by omega : r = 0 ∨ r = 1 ∨ r = 2) with rfl | rfl | rfl
      · rw [Nat.add_zero, q0] at hu
        exact hc 0 u hu
      · rw [q1] at hu
        exact hc 1 u hu
      · rw [q2] at hu
        exact hc 2 u hu
    · have hk : k < l.length := by simpa using h1
      rw [List.getElem_map, List.getElem_map]
      exact (hq k _ (List.getElem?_eq_getElem hk)).2
set_option maxRecDepth 1000000 in
theorem index_read {r : Reach} {b0 : Nat} {v : Value} {dd : DataW H} {pp : List MemPlace} (hv : Value.okWide Try.prog w r b0 37 v) (h : DataW.Trod enc Try.prog w base spare held 37 v dd pp) :
    ∃ (A : Option Addr) (n c : Nat) (xs : List Nx), v = .agg #[.slice A n c] ∧ RX w A n c xs := by
  obtain ⟨cs, rfl, hsz⟩ := okWide_struct Try.underlying37 hv
  have hC : Try.prog.cellsOf 37 = 1 := by kernel_rfl
  obtain ⟨fuel, hf⟩ := h
  obtain ⟨y0, n, hx, _, h0⟩ := trod_struct1 Try.underlying37 hf
  obtain ⟨cl⟩ := cs
  have hl : cl.length = 1 := hsz.trans hC
  match cl, hl with
  | [q], _ =>
    have hk : Try.prog.cellsOf 35 = 1 := by kernel_rfl
    have h1 : DataW.trod enc Try.prog w base spare held n 35 [q] = some y0 := by simpa [Value.cells, hk] using h0
    obtain ⟨A, m, c, xs, e, hr⟩ := nodes_read h1
    simp only [List.cons.injEq, and_true] at e
    subst e
    exact ⟨A, m, c, xs, rfl, hr⟩
end
end Go.Proofs.Ytpijfiaecicpfaa
