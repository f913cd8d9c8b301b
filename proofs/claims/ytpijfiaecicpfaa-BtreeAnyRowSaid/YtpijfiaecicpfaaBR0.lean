/-
  How texts, numbers, bytes and nodes that came in read as lists: for the rows.
-/
import Derived.Test.YtpijfiaecicpfaaBl
import Derived.ProofKit
import Derived.OpenShut
import Derived.ShutString
import Derived.Lib.SmallJoins
import Derived.Deep.Slices
import Derived.Deep.Fields
import Derived.ChangeSame
namespace Go.Proofs.Ytpijfiaecicpfaa
open Go.ChangeShapes Go.WideShapes Go.ChangeAt Go.RowKit Go.Deep
set_option linter.unusedVariables false
set_option linter.unusedSimpArgs false
section
variable {H : Type} {enc : TypeId × Value → H} {P : Program} {w : World} {base : Nat} {spare : Nat → Bool} {held : Bool}
theorem all_mem {e : TypeId} : ∀ {l : List (DataW H)} {d : DataW H} {n : Nat}, d ∈ l → n ∈ d.weights P e → n ∈ DataW.weightsAll P e l
  | d' :: l, d, n, hd, hn => by
    rw [DataW.weightsAll, List.mem_append]
    rcases List.mem_cons.1 hd with rfl | h
    · exact .inl hn
    · exact .inr (all_mem h hn)
theorem slice_own {t e : TypeId} (ht : P.underlying t = some (.slice e)) (l s : List (DataW H)) : (l.length + s.length) * P.bytesOf e ∈ (DataW.slice l s).weights P t := by
  rw [DataW.weights, ht]
  exact List.mem_cons_self
theorem slice_mem {t e : TypeId} (ht : P.underlying t = some (.slice e)) {l s : List (DataW H)} {d : DataW H} {n : Nat} (hd : d ∈ l) (hn : n ∈ d.weights P e) : n ∈ (DataW.slice l s).weights P t := by
  rw [DataW.weights, ht]
  exact List.mem_cons_of_mem _ (List.mem_append_left _ (all_mem hd hn))
theorem each_mem {t : TypeId} {fs : Array Field} (ht : P.underlying t = some (.struct fs)) {l : List (DataW H)} {j : Nat} {f : Field} {d : DataW H} {n : Nat} (hf : fs[j]? = some f) (hd : l[j]? = some d) (hn : n ∈ d.weights P f.type) : n ∈ (DataW.agg l).weights P t := by
  rw [DataW.weights, ht]
  exact DataW.weights_mem_each (by rw [List.getElem?_map, Array.getElem?_toList, hf]; rfl) hd n hn
theorem slice_fields {t e : TypeId} {fs : Array Field} {fuel : Nat} {cs : List Value} {x : DataW H × List MemPlace} (ht : P.underlying t = some (.slice e)) (he : P.underlying e = some (.struct fs))
    (hone : oneCellFields P fs = true) (hC : P.cellsOf e = fs.size) (h : DataW.trod enc P w base spare held fuel t cs = some x) :
    (cs = [.slice none 0 0]) ∨
    ∃ (a : Addr) (len cap : Nat) (D : Nat → DataW H) (sp : List (DataW H)), cs = [.slice (some a) len cap] ∧ len ≤ cap ∧ cap ≤ maxLen ∧ x.1 = .slice ((List.range len).map D) sp ∧
      ∀ i, i < len → ∃ (ys : List (DataW H × List MemPlace)) (n : Nat), D i = .agg (ys.map (·.1)) ∧
        ∀ (j : Nat) (f : Field), fs[j]? = some f → ∃ (v : Value) (y : DataW H × List MemPlace), w.cell? (a.add (i * fs.size + j)) = some v ∧ ys[j]? = some y ∧ DataW.trod enc P w base spare held n f.type [v] = some y := by
  rcases open_slice ht h with ⟨h0, _⟩ | ⟨a, len, cap, m, n, D, Pl, hcs, hb, hl, hm, hmm, hx, hi⟩
  · exact .inl h0
  · have hlm : len ≤ m := by rw [hmm]; split <;> omega
    refine .inr ⟨a, len, cap, D, _, hcs, hl, hm, congrArg Prod.fst hx, fun i him => ?_⟩
    obtain ⟨cs', hc, ht'⟩ := hi i (by omega)
    rw [hC] at hc
    obtain ⟨ys, n', hn', hy, hlen, hyl, hf⟩ := DataW.trod_struct he ht'
    obtain ⟨_, hcl, hat⟩ := World.cells?_some hc
    simp only [Prod.mk.injEq] at hy
    refine ⟨ys, n', hy.1, fun j f hj => ?_⟩
    obtain ⟨ho, hk⟩ := hone_of hone j f hj
    have hjl : j < fs.size := (Array.getElem?_eq_some_iff.1 hj).1
    have hcell := hat j hjl
    have hv : cs'[j]? = some (cs'[j]'(by omega)) := List.getElem?_eq_getElem (by omega)
    have h1 := hf j f hj
    rw [ho, hk] at h1
    have hone' : (cs'.drop j).take 1 = [cs'[j]'(by omega)] := by
      rw [List.drop_eq_getElem_cons (by omega)]
      rfl
    rw [hone'] at h1
    have hys : ys[j]? = some (ys[j]'(by omega)) := List.getElem?_eq_getElem (by omega)
    refine ⟨_, _, ?_, hys, h1.trans hys⟩
    rw [← Go.Deep.add_add, hcell, hv]
theorem slice_ones {t e : TypeId} {fuel : Nat} {cs : List Value} {x : DataW H × List MemPlace} (ht : P.underlying t = some (.slice e)) (hC : P.cellsOf e = 1) (h : DataW.trod enc P w base spare held fuel t cs = some x) :
    (cs = [.slice none 0 0]) ∨
    ∃ (a : Addr) (len cap n : Nat) (D : Nat → DataW H) (sp : List (DataW H)), cs = [.slice (some a) len cap] ∧ len ≤ cap ∧ cap ≤ maxLen ∧ x.1 = .slice ((List.range len).map D) sp ∧
      ∀ i, i < len → ∃ (v : Value) (y : List MemPlace), w.cell? (a.add i) = some v ∧ DataW.trod enc P w base spare held n e [v] = some (D i, y) := by
  rcases open_slice ht h with ⟨h0, _⟩ | ⟨a, len, cap, m, n, D, Pl, hcs, hb, hl, hm, hmm, hx, hi⟩
  · exact .inl h0
  · have hlm : len ≤ m := by rw [hmm]; split <;> omega
    refine .inr ⟨a, len, cap, n, D, _, hcs, hl, hm, congrArg Prod.fst hx, fun i him => ?_⟩
    obtain ⟨cs', hc, ht'⟩ := hi i (by omega)
    rw [hC] at hc
    obtain ⟨_, hcl, hat⟩ := World.cells?_some hc
    match cs', hcl with
    | [v], _ =>
      refine ⟨v, Pl i, ?_, ht'⟩
      have := hat 0 (by omega)
      rw [Nat.mul_one, Go.Deep.add_add, Nat.add_zero] at this
      exact this
end
/-- A list of what each index has. -/
theorem choose_list {α : Type} {n : Nat} {Q : Nat → α → Prop} (h : ∀ i, i < n → ∃ a, Q i a) : ∃ l : List α, l.length = n ∧ ∀ i a, l[i]? = some a → Q i a := by
  induction n with
  | zero => exact ⟨[], rfl, fun i a e => by simp at e⟩
  | succ n ih =>
    obtain ⟨l, hl, hq⟩ := ih fun i hi => h i (by omega)
    obtain ⟨a, ha⟩ := h n (by omega)
    refine ⟨l ++ [a], by simp [hl], fun i b e => ?_⟩
    by_cases hi : i < n
    · rw [List.getElem?_append_left (by omega)] at e
      exact hq i b e
    · by_cases hn : i = n
      · subst hn
        rw [List.getElem?_append_right (by omega), hl, Nat.sub_self] at e
        obtain rfl : a = b := by simpa using e
        exact ha
      · rw [List.getElem?_eq_none (by simp; omega)] at e
        cases e
/-- A slice of texts. -/
def RdS (w : World) (A : Option Addr) (n c : Nat) (l : List ByteArray) : Prop := Rd w 1 A n c (strv l)
section
variable {H : Type} {enc : TypeId × Value → H} {w : World} {base : Nat} {spare : Nat → Bool} {held : Bool} {fuel : Nat} {cs : List Value} {x : DataW H × List MemPlace}
theorem strs_read (h : DataW.trod enc Try.prog w base spare held fuel 22 cs = some x) : ∃ (A : Option Addr) (n c : Nat) (l : List ByteArray), cs = [.slice A n c] ∧ RdS w A n c l := by
  rcases slice_ones Try.underlying22 (by kernel_rfl) h with rfl | ⟨a, len, cap, n, D, sp, rfl, hl, hm, hx, hi⟩
  · exact ⟨none, 0, 0, [], rfl, Rd.none_ w 1⟩
  · obtain ⟨l, hll, hq⟩ := choose_list (n := len) (Q := fun i (b : ByteArray) => w.cell? (a.add i) = some (.string b)) (fun i hi' => by
      obtain ⟨v, y, hc, ht⟩ := hi i hi'
      obtain ⟨b, e, _, hw⟩ := DataW.trod_string Try.underlying9 ht
      simp only [List.cons.injEq, and_true] at e
      subst e
      exact ⟨b, hc⟩)
    refine ⟨some a, len, cap, l, rfl, by rw [strv_len, hll, Nat.mul_one], hl, hm, fun _ => ⟨a, rfl, fun j u hu => ?_⟩⟩
    unfold strv at hu
    rw [List.getElem?_map] at hu
    cases hb : l[j]? with
    | none => rw [hb] at hu; cases hu
    | some b => rw [hb] at hu; obtain rfl := Option.some.inj hu; exact hq j b hb
theorem ints_read (h : DataW.trod enc Try.prog w base spare held fuel 23 cs = some x) : ∃ (A : Option Addr) (n c : Nat) (l : List Int), cs = [.slice A n c] ∧ RdI w A n c l := by
  rcases slice_ones Try.underlying23 (by kernel_rfl) h with rfl | ⟨a, len, cap, n, D, sp, rfl, hl, hm, hx, hi⟩
  · exact ⟨none, 0, 0, [], rfl, Rd.none_ w 1⟩
  · obtain ⟨l, hll, hq⟩ := choose_list (n := len) (Q := fun i (b : Int) => w.cell? (a.add i) = some (.int .i64 b)) (fun i hi' => by
      obtain ⟨v, y, hc, ht⟩ := hi i hi'
      obtain ⟨b, e, _, hw⟩ := DataW.trod_int Try.underlying3 ht
      simp only [List.cons.injEq, and_true] at e
      subst e
      exact ⟨b, hc⟩)
    refine ⟨some a, len, cap, l, rfl, by simp [ints, hll], hl, hm, fun _ => ⟨a, rfl, fun j u hu => ?_⟩⟩
    unfold ints at hu
    rw [List.getElem?_map] at hu
    cases hb : l[j]? with
    | none => rw [hb] at hu; cases hu
    | some b => rw [hb] at hu; obtain rfl := Option.some.inj hu; exact hq j b hb
end
end Go.Proofs.Ytpijfiaecicpfaa
