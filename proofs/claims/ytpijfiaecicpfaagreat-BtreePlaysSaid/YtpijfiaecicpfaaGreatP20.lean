/-
  How acts that came in read as a list: for the rows; How texts, numbers, bytes and nodes that came in read as lists: for the rows; The law of scripts played on both trees.
-/
import Derived.Test.YtpijfiaecicpfaaGreatP19
import Derived.Test.YtpijfiaecicpfaaGreatP7
import Derived.ProofKit
import Derived.OpenShut
import Derived.ShutString
import Derived.Lib.SmallJoins
import Derived.Deep.Slices
import Derived.Deep.Fields
import Derived.ChangeSame
namespace Go.Proofs.YtpijfiaecicpfaaGreat
open Go.RowKit Go.Shelf
set_option linter.unusedVariables false
set_option linter.unusedSimpArgs false
set_option maxRecDepth 100000 in
set_option maxHeartbeats 4000000 in
theorem plays_law (A : Option Addr) (n c : Nat) (l : List Ac) (w : World) (hl : RdA w A n c l) : Calls Tryz.prog 3 #[.slice A n c] w (Give (.bool true) w) := by
  have hmx := Rd.max hl.1
  have hO := hid (over_any A n c l w hl)
  go_enter Tryz.func3, Tryz.ntmps3
  go_wp2_with fail
  refine hO.out.mono ?_
  rintro e w1 ⟨b, rfl, hb, hx1⟩
  replace hx1 := hid hx1
  replace hb := hid hb
  clear hO
  cases b with
  | true =>
    go_wp2_with fail
    refine (known_any _).mono ?_
    rintro e w2 ⟨rfl, hx⟩
    go_wp2
    go_ret
    exact ⟨rfl, hx1.out.trans hx⟩
  | false =>
    have hn := hb.out rfl
    go_wp2_with fail
    refine (New_any w1).mono ?_
    rintro e w2 ⟨t, rfl, h1, hx2, p, fT, hT, hf⟩
    obtain ⟨F0, G0, hQ0⟩ := PQ.new hx1.out hx2 h1 hT hf
    replace hQ0 := hid hQ0
    clear hx1 hb hx2 h1 hT hf
    go_wp2_with fail
    obtain ⟨r, hr⟩ : ∃ r, r = w2.heap.size := ⟨_, rfl⟩
    simp only [← hr] at hQ0 ⊢
    clear hr
    go_loopw [5] (fun i wr => ∃ (k : Nat) (L : List Te) (X : Nat × BT) (F G : Nat → Nat), k ≤ n ∧ i = .int .i64 k ∧ L.length ≤ 1200 ∧ Hid (PQ w wr t r L X F G)) (fun i _ => n - (intOf i).toNat)
    case atStart => exact ⟨0, [], _, F0, G0, by omega, rfl, Nat.zero_le _, hQ0⟩
    case round =>
      obtain ⟨k, L, X, F, G, hk, rfl, hL12, hQ⟩ := hrel
      by_cases hlt : k < n
      · have hki : (k : Int) < (n : Int) := by omega
        obtain ⟨ad, rfl, z0, z1, z2, z3, z4, z5⟩ := (hl.ext hQ.out.1).at6 hlt
        generalize ath l k = x at *
        have hC := hid (played_any t r x L X F G wr hQ.out.2.1 hQ.out.2.2.1 hQ.out.2.2.2.1 hL12)
        have hT : Hid (∀ w', Pair2 x L X F G t r wr w' → ∃ L' X' F' G', L'.length ≤ 1200 ∧ Hid (PQ w w' t r L' X' F' G')) := fun w' h => by
          obtain ⟨F', G', h2⟩ := hQ.out.turn h
          exact ⟨_, _, F', G', actL_le hL12, h2⟩
        clear hQ
        by_cases hm : k % 64 = 63
        · have hm1 : Int.tmod (k : Int) 64 = 63 := by rw [Int.tmod_eq_emod_of_nonneg (by omega)]; omega
          go_wp2_with fail
          refine hC.out.mono ?_
          rintro e w3 ⟨rfl, hpr⟩
          obtain ⟨L', X', F', G', hL', hQ'⟩ := hT.out w3 hpr
          clear hpr hT hC z0 z1 z2 z3 z4 z5
          go_wp2_with fail
          refine (hQ'.out.holds hL').mono ?_
          rintro e w4 ⟨rfl, hx4⟩
          replace hQ' : Hid (PQ w w4 t r L' X' F' G') := hQ'.out.ext hx4
          go_wp2_with fail
          go_roundw
          case rel => exact ⟨k + 1, L', X', F', G', by omega, by go_num, hL', hQ'⟩
          case measure => simp [intOf]; omega
        · have hm1 : (Int.tmod (k : Int) 64 == 63) = false := by rw [beq_eq_false_iff_ne, Int.tmod_eq_emod_of_nonneg (by omega)]; omega
          go_wp2_with fail
          refine hC.out.mono ?_
          rintro e w3 ⟨rfl, hpr⟩
          obtain ⟨L', X', F', G', hL', hQ'⟩ := hT.out w3 hpr
          clear hpr hT hC z0 z1 z2 z3 z4 z5
          go_wp2_with fail
          go_roundw
          case rel => exact ⟨k + 1, L', X', F', G', by omega, by go_num, hL', hQ'⟩
          case measure => simp [intOf]; omega
      · obtain rfl : k = n := by omega
        go_wp2_with fail
        refine (hQ.out.holds hL12).mono ?_
        rintro e w4 ⟨rfl, hx4⟩
        have hfx := hid (hQ.out.1.trans hx4)
        go_wp2_with fail
        refine (known_any _).mono ?_
        rintro e w9 ⟨rfl, hx9⟩
        go_wp2
        go_ret
        exact ⟨rfl, hfx.out.trans hx9⟩
end Go.Proofs.YtpijfiaecicpfaaGreat

namespace Go.Proofs.YtpijfiaecicpfaaGreat
open Go.ChangeShapes Go.WideShapes Go.ChangeAt Go.RowKit Go.Deep
set_option linter.unusedVariables false
set_option linter.unusedSimpArgs false
section
variable {H : Type} {enc : TypeId × Value → H} {P : Program} {w : World} {base : Nat} {spare : Nat → Bool} {held : Bool}
theorem slice_fields {t e : TypeId} {fs : Array Field} {fuel : Nat} {cs : List Value} {x : DataW H × List MemPlace} (ht : P.underlying t = some (.slice e)) (he : P.underlying e = some (.struct fs))
    (hone : oneCellFields P fs = true) (hC : P.cellsOf e = fs.size) (h : DataW.trod enc P w base spare held fuel t cs = some x) :
    (cs = [.slice none 0 0]) ∨
    ∃ (a : Addr) (len cap : Nat) (D : Nat → DataW H) (sp : List (DataW H)), cs = [.slice (some a) len cap] ∧ len ≤ cap ∧ cap ≤ maxLen ∧ x.1 = .slice ((List.range len).map D) sp ∧
      ∀ i, i < len → ∃ (ys : List (DataW H × List MemPlace)) (n : Nat), D i = .agg (ys.map (·.1)) ∧
        ∀ (j : Nat) (f : Field), fs[j]? = some f → ∃ (v : Value) (y : DataW H × List MemPlace), w.cell? (a.add (i * fs.size + j)) = some v ∧ ys[j]? = some y ∧ DataW.trod enc P w base spare held n f.type [v] = some y := by
  rcases open_slice ht h with ⟨h0, _⟩ | ⟨a, len, cap, m, n, D, Pl, hcs, hb, hl, hm, hmm, hx, hi⟩
  · exact .inl h0
  · have hlm : len ≤ m := by rw [hmm]; split <;> omega
    refine .inr ⟨a, len, cap, D, _, hcs, hl, hm, congrArg Prod.fst hx, fun i him => ?_⟩
    obtain ⟨cs', hc, ht'⟩ := hi i (by omega)
    rw [hC] at hc
    obtain ⟨ys, n', hn', hy, hlen, hyl, hf⟩ := DataW.trod_struct he ht'
    obtain ⟨_, hcl, hat⟩ := World.cells?_some hc
    simp only [Prod.mk.injEq] at hy
    refine ⟨ys, n', hy.1, fun j f hj => ?_⟩
    obtain ⟨ho, hk⟩ := hone_of hone j f hj
    have hjl : j < fs.size := (Array.getElem?_eq_some_iff.1 hj).1
    have hcell := hat j hjl
    have hv : cs'[j]? = some (cs'[j]'(by omega)) := List.getElem?_eq_getElem (by omega)
    have h1 := hf j f hj
    rw [ho, hk] at h1
    have hone' : (cs'.drop j).take 1 = [cs'[j]'(by omega)] := by
      rw [List.drop_eq_getElem_cons (by omega)]
      rfl
    rw [hone'] at h1
    have hys : ys[j]? = some (ys[j]'(by omega)) := List.getElem?_eq_getElem (by omega)
    refine ⟨_, _, ?_, hys, h1.trans hys⟩
    rw [← Go.Deep.add_add, hcell, hv]
end
/-- A list of what each index has. -/
theorem choose_list {α : Type} {n : Nat} {Q : Nat → α → Prop} (h : ∀ i, i < n → ∃ a, Q i a) : ∃ l : List α, l.length = n ∧ ∀ i a, l[i]? = some a → Q i a := by
  induction n with
  | zero => exact ⟨[], rfl, fun i a e => by simp at e⟩
  | succ n ih =>
    obtain ⟨l, hl, hq⟩ := ih fun i hi => h i (by omega)
    obtain ⟨a, ha⟩ := h n (by omega)
    refine ⟨l ++ [a], by simp [hl], fun i b e => ?_⟩
    by_cases hi : i < n
    · rw [List.getElem?_append_left (by omega)] at e
      exact hq i b e
    · by_cases hn : i = n
      · subst hn
        rw [List.getElem?_append_right (by omega), hl, Nat.sub_self] at e
        obtain rfl : a = b := by simpa using e
        exact ha
      · rw [List.getElem?_eq_none (by simp; omega)] at e
        cases e
end Go.Proofs.YtpijfiaecicpfaaGreat

namespace Go.Proofs.YtpijfiaecicpfaaGreat
open Go.ChangeShapes Go.WideShapes Go.ChangeAt Go.RowKit Go.Deep
set_option linter.unusedVariables false
section
variable {H : Type} {enc : TypeId × Value → H} {w : World} {base : Nat} {spare : Nat → Bool} {held : Bool} {fuel : Nat} {cs : List Value} {x : DataW H × List MemPlace}
theorem acts_read (h : DataW.trod enc Tryz.prog w base spare held fuel 22 cs = some x) : ∃ (A : Option Addr) (n c : Nat) (l : List Ac), cs = [.slice A n c] ∧ RdA w A n c l := by
  rcases slice_fields Tryz.underlying22 Tryz.underlying34 (by kernel_rfl) (by kernel_rfl) h with rfl | ⟨a, len, cap, D, sp, rfl, hl, hm, hx, hi⟩
  · exact ⟨none, 0, 0, [], rfl, Rd.none_ w 6, fun x hx => by cases hx⟩
  · obtain ⟨l, hll, hq⟩ := choose_list (n := len) (Q := fun i (v : Ac) => (∀ (j : Nat) (u : Value), (acells v)[j]? = some u → w.cell? (a.add (i * 6 + j)) = some u) ∧ okA v) (fun i hi' => by
      obtain ⟨ys, n, hd, hf⟩ := hi i hi'
      obtain ⟨v0, y0, c0, g0, t0⟩ := hf 0 _ rfl
      obtain ⟨v1, y1, c1, g1, t1⟩ := hf 1 _ rfl
      obtain ⟨v2, y2, c2, g2, t2⟩ := hf 2 _ rfl
      obtain ⟨v3, y3, c3, g3, t3⟩ := hf 3 _ rfl
      obtain ⟨v4, y4, c4, g4, t4⟩ := hf 4 _ rfl
      obtain ⟨v5, y5, c5, g5, t5⟩ := hf 5 _ rfl
      obtain ⟨n0, e0, _, m0⟩ := DataW.trod_int Tryz.underlying3 t0
      obtain ⟨n1, e1, _, m1⟩ := DataW.trod_int Tryz.underlying3 t1
      obtain ⟨n2, e2, _, m2⟩ := DataW.trod_int Tryz.underlying3 t2
      obtain ⟨n3, e3, _, m3⟩ := DataW.trod_int Tryz.underlying3 t3
      obtain ⟨n4, e4, _, m4⟩ := DataW.trod_string Tryz.underlying9 t4
      obtain ⟨n5, e5, _, m5⟩ := DataW.trod_string Tryz.underlying9 t5
      simp only [List.cons.injEq, and_true] at e0 e1 e2 e3 e4 e5
      subst e0 e1 e2 e3 e4 e5
      refine ⟨⟨n0, n1, n2, n3, n4, n5⟩, fun j u hu => ?_, m4, m5⟩
      have hj : j < 6 := by have := (List.getElem?_eq_some_iff.1 hu).1; simpa [acells] using this
      rcases (by omega : j = 0 ∨ j = 1 ∨ j = 2 ∨ j = 3 ∨ j = 4 ∨ j = 5) with rfl | rfl | rfl | rfl | rfl | rfl <;> (obtain rfl := Option.some.inj hu; assumption))
    refine ⟨some a, len, cap, l, rfl, ⟨by rw [acs_len, hll], hl, hm, fun _ => ⟨a, rfl, fun j u hu => ?_⟩⟩, fun x hx => ?_⟩
    · have hj : j < l.length * 6 := by
        have := (List.getElem?_eq_some_iff.1 hu).1
        rwa [acs_len] at this
      obtain ⟨k, r, hr, rfl⟩ : ∃ k r, r < 6 ∧ j = k * 6 + r := ⟨j / 6, j % 6, by omega, by omega⟩
      have hk : k < l.length := by omega
      rw [acs_at l k hk r hr] at hu
      exact (hq k _ (List.getElem?_eq_getElem hk)).1 r u hu
    · obtain ⟨j, hj⟩ := List.getElem?_of_mem hx
      exact (hq j x hj).2
end
end Go.Proofs.YtpijfiaecicpfaaGreat

