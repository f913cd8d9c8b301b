/-
  How bytes and acts that came in read as lists: for the rows.
-/
import Derived.Test.YtcgjhloiokpicaaOg
import Derived.ProofKit
import Derived.OpenShut
import Derived.ShutString
import Derived.Lib.SmallJoins
import Derived.Deep.Slices
import Derived.Deep.Fields
import Derived.ChangeSame
namespace Go.Proofs.Ytcgjhloiokpicaa
open Go.ChangeShapes Go.WideShapes Go.ChangeAt Go.RowKit Go.Deep
set_option linter.unusedVariables false
section
variable {H : Type} {enc : TypeId × Value → H} {P : Program} {w : World} {base : Nat} {spare : Nat → Bool} {held : Bool}
theorem all_mem {e : TypeId} : ∀ {l : List (DataW H)} {d : DataW H} {n : Nat}, d ∈ l → n ∈ d.weights P e → n ∈ DataW.weightsAll P e l
  | d' :: l, d, n, hd, hn => by
    rw [DataW.weightsAll, List.mem_append]
    rcases List.mem_cons.1 hd with rfl | h
    · exact .inl hn
    · exact .inr (all_mem h hn)
theorem slice_own {t e : TypeId} (ht : P.underlying t = some (.slice e)) (l s : List (DataW H)) : (l.length + s.length) * P.bytesOf e ∈ (DataW.slice l s).weights P t := by
  rw [DataW.weights, ht]
  exact List.mem_cons_self
theorem slice_mem {t e : TypeId} (ht : P.underlying t = some (.slice e)) {l s : List (DataW H)} {d : DataW H} {n : Nat} (hd : d ∈ l) (hn : n ∈ d.weights P e) : n ∈ (DataW.slice l s).weights P t := by
  rw [DataW.weights, ht]
  exact List.mem_cons_of_mem _ (List.mem_append_left _ (all_mem hd hn))
theorem each_mem {t : TypeId} {fs : Array Field} (ht : P.underlying t = some (.struct fs)) {l : List (DataW H)} {j : Nat} {f : Field} {d : DataW H} {n : Nat} (hf : fs[j]? = some f) (hd : l[j]? = some d) (hn : n ∈ d.weights P f.type) : n ∈ (DataW.agg l).weights P t := by
  rw [DataW.weights, ht]
  exact DataW.weights_mem_each (by rw [List.getElem?_map, Array.getElem?_toList, hf]; rfl) hd n hn
theorem slice_fields {t e : TypeId} {fs : Array Field} {fuel : Nat} {cs : List Value} {x : DataW H × List MemPlace} (ht : P.underlying t = some (.slice e)) (he : P.underlying e = some (.struct fs))
    (hone : oneCellFields P fs = true) (hC : P.cellsOf e = fs.size) (h : DataW.trod enc P w base spare held fuel t cs = some x) :
    (cs = [.slice none 0 0]) ∨
    ∃ (a : Addr) (len cap : Nat) (D : Nat → DataW H) (sp : List (DataW H)), cs = [.slice (some a) len cap] ∧ len ≤ cap ∧ cap ≤ maxLen ∧ x.1 = .slice ((List.range len).map D) sp ∧
      ∀ i, i < len → ∃ (ys : List (DataW H × List MemPlace)) (n : Nat), D i = .agg (ys.map (·.1)) ∧
        ∀ (j : Nat) (f : Field), fs[j]? = some f → ∃ (v : Value) (y : DataW H × List MemPlace), w.cell? (a.add (i * fs.size + j)) = some v ∧ ys[j]? = some y ∧ DataW.trod enc P w base spare held n f.type [v] = some y := by
  rcases open_slice ht h with ⟨h0, _⟩ | ⟨a, len, cap, m, n, D, Pl, hcs, hb, hl, hm, hmm, hx, hi⟩
  · exact .inl h0
  · have hlm : len ≤ m := by rw [hmm]; split <;> omega
    refine .inr ⟨a, len, cap, D, _, hcs, hl, hm, congrArg Prod.fst hx, fun i him => ?_⟩
    obtain ⟨cs', hc, ht'⟩ := hi i (by omega)
    rw [hC] at hc
    obtain ⟨ys, n', hn', hy, hlen, hyl, hf⟩ := DataW.trod_struct he ht'
    obtain ⟨_, hcl, hat⟩ := World.cells?_some hc
    simp only [Prod.mk.injEq] at hy
    refine ⟨ys, n', hy.1, fun j f hj => ?_⟩
    obtain ⟨ho, hk⟩ := hone_of hone j f hj
    have hjl : j < fs.size := (Array.getElem?_eq_some_iff.1 hj).1
    have hcell := hat j hjl
    have hv : cs'[j]? = some (cs'[j]'(by omega)) := List.getElem?_eq_getElem (by omega)
    have h1 := hf j f hj
    rw [ho, hk] at h1
    have hone' : (cs'.drop j).take 1 = [cs'[j]'(by omega)] := by
      rw [List.drop_eq_getElem_cons (by omega)]
      rfl
    rw [hone'] at h1
    have hys : ys[j]? = some (ys[j]'(by omega)) := List.getElem?_eq_getElem (by omega)
    refine ⟨_, _, ?_, hys, h1.trans hys⟩
    rw [← Go.Deep.add_add, hcell, hv]
theorem slice_ones {t e : TypeId} {fuel : Nat} {cs : List Value} {x : DataW H × List MemPlace} (ht : P.underlying t = some (.slice e)) (hC : P.cellsOf e = 1) (h : DataW.trod enc P w base spare held fuel t cs = some x) :
    (cs = [.slice none 0 0]) ∨
    ∃ (a : Addr) (len cap n : Nat) (D : Nat → DataW H) (sp : List (DataW H)), cs = [.slice (some a) len cap] ∧ len ≤ cap ∧ cap ≤ maxLen ∧ x.1 = .slice ((List.range len).map D) sp ∧
      ∀ i, i < len → ∃ (v : Value) (y : List MemPlace), w.cell? (a.add i) = some v ∧ DataW.trod enc P w base spare held n e [v] = some (D i, y) := by
  rcases open_slice ht h with ⟨h0, _⟩ | ⟨a, len, cap, m, n, D, Pl, hcs, hb, hl, hm, hmm, hx, hi⟩
  · exact .inl h0
  · have hlm : len ≤ m := by rw [hmm]; split <;> omega
    refine .inr ⟨a, len, cap, n, D, _, hcs, hl, hm, congrArg Prod.fst hx, fun i him => ?_⟩
    obtain ⟨cs', hc, ht'⟩ := hi i (by omega)
    rw [hC] at hc
    obtain ⟨_, hcl, hat⟩ := World.cells?_some hc
    match cs', hcl with
    | [v], _ =>
      refine ⟨v, Pl i, ?_, ht'⟩
      have := hat 0 (by omega)
      rw [Nat.mul_one, Go.Deep.add_add, Nat.add_zero] at this
      exact this
end
/-- A list of what each index has. -/
theorem choose_list {α : Type} {n : Nat} {Q : Nat → α → Prop} (h : ∀ i, i < n → ∃ a, Q i a) : ∃ l : List α, l.length = n ∧ ∀ i a, l[i]? = some a → Q i a := by
  induction n with
  | zero => exact ⟨[], rfl, fun i a e => by simp at e⟩
  | succ n ih =>
    obtain ⟨l, hl, hq⟩ := ih fun i hi => h i (by omega)
    obtain ⟨a, ha⟩ := h n (by omega)
    refine ⟨l ++ [a], by simp [hl], fun i b e => ?_⟩
    by_cases hi : i < n
    · rw [List.getElem?_append_left (by omega)] at e
      exact hq i b e
    · by_cases hn : i = n
      · subst hn
        rw [List.getElem?_append_right (by omega), hl, Nat.sub_self] at e
        obtain rfl : a = b := by simpa using e
        exact ha
      · rw [List.getElem?_eq_none (by simp; omega)] at e
        cases e
/-- An act of a script. -/
structure Ac where
  op : Int
  a : Int
  b : Int
  c : Int
  s : ByteArray
  t : ByteArray
def acells (x : Ac) : List Value := [.int .i64 x.op, .int .i64 x.a, .int .i64 x.b, .int .i64 x.c, .string x.s, .string x.t]
def acs : List Ac → List Value
  | [] => []
  | x :: l => acells x ++ acs l
theorem acs_len : ∀ l : List Ac, (acs l).length = l.length * 6
  | [] => rfl
  | x :: l => by rw [acs, List.length_append, acs_len l, List.length_cons]; simp [acells]; omega
theorem acs_at : ∀ (l : List Ac) (k : Nat) (h : k < l.length) (j : Nat), j < 6 → (acs l)[k * 6 + j]? = (acells l[k])[j]?
  | x :: l, 0, h, j, hj => by
    rw [acs, List.getElem?_append_left (by simp [acells]; omega)]
    simp
  | x :: l, k + 1, h, j, hj => by
    have := acs_at l k (by simpa using h) j hj
    rw [acs, List.getElem?_append_right (by simp [acells]; omega), List.getElem_cons_succ, ← this]
    congr 1
    simp [acells]
    omega
/-- What an act's numbers and texts are. -/
def okA (x : Ac) : Prop := (Lit.int .i64 x.op).wf = true ∧ (Lit.int .i64 x.a).wf = true ∧ (Lit.int .i64 x.b).wf = true ∧ (Lit.int .i64 x.c).wf = true ∧ x.s.size ≤ maxLen ∧ x.t.size ≤ maxLen
/-- A slice of acts. -/
def RdA (w : World) (A : Option Addr) (n c : Nat) (l : List Ac) : Prop := Rd w 6 A n c (acs l) ∧ ∀ x ∈ l, okA x
theorem RdA.len {w : World} {A : Option Addr} {n c : Nat} {l : List Ac} (h : RdA w A n c l) : l.length = n := by have := h.1.1; rw [acs_len] at this; omega
theorem RdA.ext {w w' : World} {A : Option Addr} {n c : Nat} {l : List Ac} (h : RdA w A n c l) (hb : Ext w w') : RdA w' A n c l := ⟨Rd.ext h.1 hb, h.2⟩
section
variable {H : Type} {enc : TypeId × Value → H} {w : World} {base : Nat} {spare : Nat → Bool} {held : Bool} {fuel : Nat} {cs : List Value} {x : DataW H × List MemPlace}
theorem bytes_read (h : DataW.trod enc Try.prog w base spare held fuel 27 cs = some x) : ∃ (A : Option Addr) (n c : Nat) (l : List Int), cs = [.slice A n c] ∧ RdB w A n c l := by
  rcases slice_ones Try.underlying27 (by kernel_rfl) h with rfl | ⟨a, len, cap, n, D, sp, rfl, hl, hm, hx, hi⟩
  · exact ⟨none, 0, 0, [], rfl, Rd.none_ w 1, fun x hx => by cases hx⟩
  · obtain ⟨l, hll, hq⟩ := choose_list (n := len) (Q := fun i (b : Int) => w.cell? (a.add i) = some (.int .u8 b) ∧ 0 ≤ b ∧ b ≤ 255) (fun i hi' => by
      obtain ⟨v, y, hc, ht⟩ := hi i hi'
      obtain ⟨b, e, _, hw⟩ := DataW.trod_int Try.underlying5 ht
      simp only [List.cons.injEq, and_true] at e
      subst e
      have h0 : 0 ≤ b ∧ b ≤ 255 := bounds_u8 hw
      exact ⟨b, hc, h0⟩)
    refine ⟨some a, len, cap, l, rfl, ⟨by simp [bys, hll], hl, hm, fun _ => ⟨a, rfl, fun j u hu => ?_⟩⟩, fun x hx => ?_⟩
    · unfold bys at hu
      rw [List.getElem?_map] at hu
      cases hb : l[j]? with
      | none => rw [hb] at hu; cases hu
      | some b => rw [hb] at hu; obtain rfl := Option.some.inj hu; exact (hq j b hb).1
    · obtain ⟨j, hj⟩ := List.getElem?_of_mem hx
      exact (hq j x hj).2
theorem acts_read (h : DataW.trod enc Try.prog w base spare held fuel 39 cs = some x) : ∃ (A : Option Addr) (n c : Nat) (l : List Ac), cs = [.slice A n c] ∧ RdA w A n c l := by
  rcases slice_fields Try.underlying39 Try.underlying45 (by kernel_rfl) (by kernel_rfl) h with rfl | ⟨a, len, cap, D, sp, rfl, hl, hm, hx, hi⟩
  · exact ⟨none, 0, 0, [], rfl, Rd.none_ w 6, fun x hx => by cases hx⟩
  · obtain ⟨l, hll, hq⟩ := choose_list (n := len) (Q := fun i (v : Ac) => (∀ (j : Nat) (u : Value), (acells v)[j]? = some u → w.cell? (a.add (i * 6 + j)) = some u) ∧ okA v) (fun i hi' => by
      obtain ⟨ys, n, hd, hf⟩ := hi i hi'
      obtain ⟨v0, y0, c0, g0, t0⟩ := hf 0 _ rfl
      obtain ⟨v1, y1, c1, g1, t1⟩ := hf 1 _ rfl
      obtain ⟨v2, y2, c2, g2, t2⟩ := hf 2 _ rfl
      obtain ⟨v3, y3, c3, g3, t3⟩ := hf 3 _ rfl
      obtain ⟨v4, y4, c4, g4, t4⟩ := hf 4 _ rfl
      obtain ⟨v5, y5, c5, g5, t5⟩ := hf 5 _ rfl
      obtain ⟨n0, e0, _, m0⟩ := DataW.trod_int Try.underlying3 t0
      obtain ⟨n1, e1, _, m1⟩ := DataW.trod_int Try.underlying3 t1
      obtain ⟨n2, e2, _, m2⟩ := DataW.trod_int Try.underlying3 t2
      obtain ⟨n3, e3, _, m3⟩ := DataW.trod_int Try.underlying3 t3
      obtain ⟨n4, e4, _, m4⟩ := DataW.trod_string Try.underlying9 t4
      obtain ⟨n5, e5, _, m5⟩ := DataW.trod_string Try.underlying9 t5
      simp only [List.cons.injEq, and_true] at e0 e1 e2 e3 e4 e5
      subst e0 e1 e2 e3 e4 e5
      refine ⟨⟨n0, n1, n2, n3, n4, n5⟩, fun j u hu => ?_, m0, m1, m2, m3, m4, m5⟩
      have hj : j < 6 := by have := (List.getElem?_eq_some_iff.1 hu).1; simpa [acells] using this
      rcases (by omega : j = 0 ∨ j = 1 ∨ j = 2 ∨ j = 3 ∨ j = 4 ∨ j = 5) with rfl | rfl | rfl | rfl | rfl | rfl <;> (obtain rfl := Option.some.inj hu; assumption))
    refine ⟨some a, len, cap, l, rfl, ⟨by rw [acs_len, hll], hl, hm, fun _ => ⟨a, rfl, fun j u hu => ?_⟩⟩, fun x hx => ?_⟩
    · have hj : j < l.length * 6 := by
        have := (List.getElem?_eq_some_iff.1 hu).1
        rwa [acs_len] at this
      obtain ⟨k, r, hr, rfl⟩ : ∃ k r, r < 6 ∧ j = k * 6 + r := ⟨j / 6, j % 6, by omega, by omega⟩
      have hk : k < l.length := by omega
      rw [acs_at l k hk r hr] at hu
      exact (hq k _ (List.getElem?_eq_getElem hk)).1 r u hu
    · obtain ⟨j, hj⟩ := List.getElem?_of_mem hx
      exact (hq j x hj).2
end
end Go.Proofs.Ytcgjhloiokpicaa
