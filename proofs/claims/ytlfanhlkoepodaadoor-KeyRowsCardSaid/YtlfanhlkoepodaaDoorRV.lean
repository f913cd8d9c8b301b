/-
  How slices of bools, values, texts and bytes that came in read as lists, and what they weigh: for the rows.
-/
import Derived.Test.YtlfanhlkoepodaaDoorK19
import Derived.ProofKit
import Derived.OpenShut
import Derived.ShutString
import Derived.Lib.SmallJoins
import Derived.Deep.Slices
import Derived.Deep.Fields
import Derived.ChangeSame
namespace Go.Proofs.YtlfanhlkoepodaaDoor
open Go.ChangeShapes Go.WideShapes Go.ChangeAt Go.RowKit Go.Deep
set_option linter.unusedVariables false
section
variable {H : Type} {enc : TypeId × Value → H} {P : Program} {w : World} {base : Nat} {spare : Nat → Bool} {held : Bool}
theorem all_mem {e : TypeId} : ∀ {l : List (DataW H)} {d : DataW H} {n : Nat}, d ∈ l → n ∈ d.weights P e → n ∈ DataW.weightsAll P e l
  | d' :: l, d, n, hd, hn => by
    rw [DataW.weightsAll, List.mem_append]
    rcases List.mem_cons.1 hd with rfl | h
    · exact .inl hn
    · exact .inr (all_mem h hn)
theorem slice_own {t e : TypeId} (ht : P.underlying t = some (.slice e)) (l s : List (DataW H)) : (l.length + s.length) * P.bytesOf e ∈ (DataW.slice l s).weights P t := by
  rw [DataW.weights, ht]
  exact List.mem_cons_self
theorem slice_mem {t e : TypeId} (ht : P.underlying t = some (.slice e)) {l s : List (DataW H)} {d : DataW H} {n : Nat} (hd : d ∈ l) (hn : n ∈ d.weights P e) : n ∈ (DataW.slice l s).weights P t := by
  rw [DataW.weights, ht]
  exact List.mem_cons_of_mem _ (List.mem_append_left _ (all_mem hd hn))
theorem each_mem {t : TypeId} {fs : Array Field} (ht : P.underlying t = some (.struct fs)) {l : List (DataW H)} {j : Nat} {f : Field} {d : DataW H} {n : Nat} (hf : fs[j]? = some f) (hd : l[j]? = some d) (hn : n ∈ d.weights P f.type) : n ∈ (DataW.agg l).weights P t := by
  rw [DataW.weights, ht]
  exact DataW.weights_mem_each (by rw [List.getElem?_map, Array.getElem?_toList, hf]; rfl) hd n hn
theorem slice_fields {t e : TypeId} {fs : Array Field} {fuel : Nat} {cs : List Value} {x : DataW H × List MemPlace} (ht : P.underlying t = some (.slice e)) (he : P.underlying e = some (.struct fs))
    (hone : oneCellFields P fs = true) (hC : P.cellsOf e = fs.size) (h : DataW.trod enc P w base spare held fuel t cs = some x) :
    (cs = [.slice none 0 0]) ∨
    ∃ (a : Addr) (len cap : Nat) (D : Nat → DataW H) (sp : List (DataW H)), cs = [.slice (some a) len cap] ∧ len ≤ cap ∧ cap ≤ maxLen ∧ x.1 = .slice ((List.range len).map D) sp ∧
      ∀ i, i < len → ∃ (ys : List (DataW H × List MemPlace)) (n : Nat), D i = .agg (ys.map (·.1)) ∧
        ∀ (j : Nat) (f : Field), fs[j]? = some f → ∃ (v : Value) (y : DataW H × List MemPlace), w.cell? (a.add (i * fs.size + j)) = some v ∧ ys[j]? = some y ∧ DataW.trod enc P w base spare held n f.type [v] = some y := by
  rcases open_slice ht h with ⟨h0, _⟩ | ⟨a, len, cap, m, n, D, Pl, hcs, hb, hl, hm, hmm, hx, hi⟩
  · exact .inl h0
  · have hlm : len ≤ m := by rw [hmm]; split <;> omega
    refine .inr ⟨a, len, cap, D, _, hcs, hl, hm, congrArg Prod.fst hx, fun i him => ?_⟩
    obtain ⟨cs', hc, ht'⟩ := hi i (by omega)
    rw [hC] at hc
    obtain ⟨ys, n', hn', hy, hlen, hyl, hf⟩ := DataW.trod_struct he ht'
    obtain ⟨_, hcl, hat⟩ := World.cells?_some hc
    simp only [Prod.mk.injEq] at hy
    refine ⟨ys, n', hy.1, fun j f hj => ?_⟩
    obtain ⟨ho, hk⟩ := hone_of hone j f hj
    have hjl : j < fs.size := (Array.getElem?_eq_some_iff.1 hj).1
    have hcell := hat j hjl
    have hv : cs'[j]? = some (cs'[j]'(by omega)) := List.getElem?_eq_getElem (by omega)
    have h1 := hf j f hj
    rw [ho, hk] at h1
    have hone' : (cs'.drop j).take 1 = [cs'[j]'(by omega)] := by
      rw [List.drop_eq_getElem_cons (by omega)]
      rfl
    rw [hone'] at h1
    have hys : ys[j]? = some (ys[j]'(by omega)) := List.getElem?_eq_getElem (by omega)
    refine ⟨_, _, ?_, hys, h1.trans hys⟩
    rw [← Go.Deep.add_add, hcell, hv]
theorem slice_ones {t e : TypeId} {fuel : Nat} {cs : List Value} {x : DataW H × List MemPlace} (ht : P.underlying t = some (.slice e)) (hC : P.cellsOf e = 1) (h : DataW.trod enc P w base spare held fuel t cs = some x) :
    (cs = [.slice none 0 0]) ∨
    ∃ (a : Addr) (len cap n : Nat) (D : Nat → DataW H) (sp : List (DataW H)), cs = [.slice (some a) len cap] ∧ len ≤ cap ∧ cap ≤ maxLen ∧ x.1 = .slice ((List.range len).map D) sp ∧
      ∀ i, i < len → ∃ (v : Value) (y : List MemPlace), w.cell? (a.add i) = some v ∧ DataW.trod enc P w base spare held n e [v] = some (D i, y) := by
  rcases open_slice ht h with ⟨h0, _⟩ | ⟨a, len, cap, m, n, D, Pl, hcs, hb, hl, hm, hmm, hx, hi⟩
  · exact .inl h0
  · have hlm : len ≤ m := by rw [hmm]; split <;> omega
    refine .inr ⟨a, len, cap, n, D, _, hcs, hl, hm, congrArg Prod.fst hx, fun i him => ?_⟩
    obtain ⟨cs', hc, ht'⟩ := hi i (by omega)
    rw [hC] at hc
    obtain ⟨_, hcl, hat⟩ := World.cells?_some hc
    match cs', hcl with
    | [v], _ =>
      refine ⟨v, Pl i, ?_, ht'⟩
      have := hat 0 (by omega)
      rw [Nat.mul_one, Go.Deep.add_add, Nat.add_zero] at this
      exact this
end
/-- A list of what each index has. -/
theorem choose_list {α : Type} {n : Nat} {Q : Nat → α → Prop} (h : ∀ i, i < n → ∃ a, Q i a) : ∃ l : List α, l.length = n ∧ ∀ i a, l[i]? = some a → Q i a := by
  induction n with
  | zero => exact ⟨[], rfl, fun i a e => by simp at e⟩
  | succ n ih =>
    obtain ⟨l, hl, hq⟩ := ih fun i hi => h i (by omega)
    obtain ⟨a, ha⟩ := h n (by omega)
    refine ⟨l ++ [a], by simp [hl], fun i b e => ?_⟩
    by_cases hi : i < n
    · rw [List.getElem?_append_left (by omega)] at e
      exact hq i b e
    · by_cases hn : i = n
      · subst hn
        rw [List.getElem?_append_right (by omega), hl, Nat.sub_self] at e
        obtain rfl : a = b := by simpa using e
        exact ha
      · rw [List.getElem?_eq_none (by simp; omega)] at e
        cases e
theorem v3_of {l : List VL} {j : Nat} {u : Value} (h : (valsC l)[j]? = some u) : j < l.length * 3 := by
  have := (List.getElem?_eq_some_iff.1 h).1
  rwa [valsC_len] at this
section
variable {H : Type} {enc : TypeId × Value → H} {w : World} {base : Nat} {spare : Nat → Bool} {held : Bool} {fuel : Nat} {cs : List Value} {x : DataW H × List MemPlace}
theorem bools_read (h : DataW.trod enc Tryd.prog w base spare held fuel 62 cs = some x) : ∃ A n c l, cs = [.slice A n c] ∧ RdO w A n c l ∧ ∀ B, (∀ m ∈ x.1.weights Tryd.prog 62, m ≤ B) → n ≤ B := by
  rcases slice_ones Tryd.underlying62 (by kernel_rfl) h with rfl | ⟨a, len, cap, n, D, sp, rfl, hl, hm, hx, hi⟩
  · exact ⟨none, 0, 0, [], rfl, Rd.none_ w 1, fun B _ => Nat.zero_le _⟩
  · obtain ⟨l, hll, hq⟩ := choose_list (n := len) (Q := fun i b => w.cell? (a.add i) = some (.bool b)) (fun i hi' => by
      obtain ⟨v, y, hc, ht⟩ := hi i hi'
      obtain ⟨b, e, _⟩ := DataW.trod_bool Tryd.underlying4 ht
      simp only [List.cons.injEq, and_true] at e
      subst e
      exact ⟨b, hc⟩)
    refine ⟨some a, len, cap, l, rfl, ⟨by simp [bolsC, hll], hl, hm, fun _ => ⟨a, rfl, fun j u hu => ?_⟩⟩, fun B hB => ?_⟩
    · unfold bolsC at hu
      rw [List.getElem?_map] at hu
      cases hb : l[j]? with
      | none => rw [hb] at hu; cases hu
      | some b => rw [hb] at hu; obtain rfl := Option.some.inj hu; exact hq j b hb
    · have := hB _ (by rw [hx]; exact slice_own Tryd.underlying62 _ _)
      rw [show Tryd.prog.bytesOf 4 = 1 by kernel_rfl] at this
      simp at this
      omega
theorem vals_read (h : DataW.trod enc Tryd.prog w base spare held fuel 63 cs = some x) : ∃ (A : Option Addr) (n c : Nat) (l : List VL), cs = [.slice A n c] ∧ RdV w A n c l ∧ ∀ B, (∀ m ∈ x.1.weights Tryd.prog 63, m ≤ B) → n * 32 ≤ B ∧ ∀ (j : Nat) (v : VL), l[j]? = some v → v.2.2.size ≤ B := by
  rcases slice_fields Tryd.underlying63 Tryd.underlying23 (by kernel_rfl) (by kernel_rfl) h with rfl | ⟨a, len, cap, D, sp, rfl, hl, hm, hx, hi⟩
  · exact ⟨none, 0, 0, [], rfl, RdV.nil w, fun B _ => ⟨by omega, fun j v e => by simp at e⟩⟩
  · obtain ⟨l, hll, hq⟩ := choose_list (n := len) (Q := fun i (v : VL) => w.cell? (a.add (i * 3)) = some (.int .i64 v.1) ∧ w.cell? (a.add (i * 3 + 1)) = some (.int .i64 v.2.1) ∧ w.cell? (a.add (i * 3 + 2)) = some (.string v.2.2) ∧ v.2.2.size ∈ (D i).weights Tryd.prog 23) (fun i hi' => by
      obtain ⟨ys, n, hd, hf⟩ := hi i hi'
      obtain ⟨v0, y0, c0, g0, t0⟩ := hf 0 _ rfl
      obtain ⟨v1, y1, c1, g1, t1⟩ := hf 1 _ rfl
      obtain ⟨v2, y2, c2, g2, t2⟩ := hf 2 _ rfl
      obtain ⟨n0, e0, _, _⟩ := DataW.trod_int Tryd.underlying3 t0
      obtain ⟨n1, e1, _, _⟩ := DataW.trod_int Tryd.underlying3 t1
      obtain ⟨n2, e2, x2, _⟩ := DataW.trod_string Tryd.underlying9 t2
      simp only [List.cons.injEq, and_true] at e0 e1 e2
      subst e0 e1 e2
      refine ⟨(n0, n1, n2), c0, c1, c2, ?_⟩
      rw [hd]
      refine each_mem Tryd.underlying23 (j := 2) rfl (d := y2.1) (by rw [List.getElem?_map, g2]; rfl) ?_
      rw [x2]
      simp [DataW.weights])
    refine ⟨some a, len, cap, l, rfl, ⟨by rw [valsC_len, hll], hl, hm, fun _ => ⟨a, rfl, fun j u hu => ?_⟩⟩, fun B hB => ⟨?_, fun j v hv => ?_⟩⟩
    · have hj := v3_of hu
      obtain ⟨k, r, hr, rfl⟩ : ∃ k r, r < 3 ∧ j = k * 3 + r := ⟨j / 3, j % 3, by omega, by omega⟩
      have hk : k < l.length := by omega
      obtain ⟨a0, a1, a2⟩ := valsC_at l k hk
      have hv : l[k]? = some (vth l k) := by simp [vth, List.getD, hk]
      obtain ⟨q0, q1, q2, _⟩ := hq k _ hv
      rcases (by omega : r = 0 ∨ r = 1 ∨ r = 2) with rfl | rfl | rfl
      · rw [Nat.add_zero] at hu ⊢; rw [a0] at hu; rw [q0, hu]
      · rw [a1] at hu; rw [q1, hu]
      · rw [a2] at hu; rw [q2, hu]
    · have := hB _ (by rw [hx]; exact slice_own Tryd.underlying63 _ _)
      rw [show Tryd.prog.bytesOf 23 = 32 by kernel_rfl] at this
      simp at this
      omega
    · have hj : j < len := by have := (List.getElem?_eq_some_iff.1 hv).1; omega
      refine hB _ ?_
      rw [hx]
      exact slice_mem Tryd.underlying63 (List.mem_map.2 ⟨j, List.mem_range.2 hj, rfl⟩) (hq j v hv).2.2.2
theorem strs_read (h : DataW.trod enc Tryd.prog w base spare held fuel 48 cs = some x) : ∃ (A : Option Addr) (n c : Nat) (l : List ByteArray), cs = [.slice A n c] ∧ Pg.RdS w A n c l ∧ ∀ B, (∀ m ∈ x.1.weights Tryd.prog 48, m ≤ B) → n * 16 ≤ B ∧ ∀ (j : Nat) (v : ByteArray), l[j]? = some v → v.size ≤ B := by
  rcases slice_ones Tryd.underlying48 (by kernel_rfl) h with rfl | ⟨a, len, cap, n, D, sp, rfl, hl, hm, hx, hi⟩
  · exact ⟨none, 0, 0, [], rfl, Rd.none_ w 1, fun B _ => ⟨by omega, fun j v e => by simp at e⟩⟩
  · obtain ⟨l, hll, hq⟩ := choose_list (n := len) (Q := fun i (s : ByteArray) => w.cell? (a.add i) = some (.string s) ∧ s.size ∈ (D i).weights Tryd.prog 9) (fun i hi' => by
      obtain ⟨v, y, hc, ht⟩ := hi i hi'
      obtain ⟨s, e, xe, _⟩ := DataW.trod_string Tryd.underlying9 ht
      simp only [List.cons.injEq, and_true] at e
      subst e
      refine ⟨s, hc, ?_⟩
      rw [show D i = _ from congrArg Prod.fst xe]
      simp [DataW.weights])
    refine ⟨some a, len, cap, l, rfl, ⟨by simp [Pg.strs, hll], hl, hm, fun _ => ⟨a, rfl, fun j u hu => ?_⟩⟩, fun B hB => ⟨?_, fun j v hv => ?_⟩⟩
    · unfold Pg.strs at hu
      rw [List.getElem?_map] at hu
      cases hb : l[j]? with
      | none => rw [hb] at hu; cases hu
      | some b => rw [hb] at hu; obtain rfl := Option.some.inj hu; exact (hq j b hb).1
    · have := hB _ (by rw [hx]; exact slice_own Tryd.underlying48 _ _)
      rw [show Tryd.prog.bytesOf 9 = 16 by kernel_rfl] at this
      simp at this
      omega
    · have hj : j < len := by have := (List.getElem?_eq_some_iff.1 hv).1; omega
      refine hB _ ?_
      rw [hx]
      exact slice_mem Tryd.underlying48 (List.mem_map.2 ⟨j, List.mem_range.2 hj, rfl⟩) (hq j v hv).2
theorem bytes_read (h : DataW.trod enc Tryd.prog w base spare held fuel 49 cs = some x) : ∃ A n c l, cs = [.slice A n c] ∧ Pg.RdB w A n c l ∧ ∀ B, (∀ m ∈ x.1.weights Tryd.prog 49, m ≤ B) → n ≤ B := by
  rcases slice_ones Tryd.underlying49 (by kernel_rfl) h with rfl | ⟨a, len, cap, n, D, sp, rfl, hl, hm, hx, hi⟩
  · exact ⟨none, 0, 0, [], rfl, Rd.none_ w 1, fun B _ => Nat.zero_le _⟩
  · obtain ⟨l, hll, hq⟩ := choose_list (n := len) (Q := fun i (b : UInt8) => w.cell? (a.add i) = some (Pg.byt b)) (fun i hi' => by
      obtain ⟨v, y, hc, ht⟩ := hi i hi'
      obtain ⟨b, e, _, hw⟩ := DataW.trod_int Tryd.underlying5 ht
      simp only [List.cons.injEq, and_true] at e
      subst e
      have h0 : 0 ≤ b ∧ b ≤ 255 := bounds_u8 hw
      exact ⟨Pg.bOf b, by rw [hc, Pg.byt_of b h0.1 h0.2]⟩)
    refine ⟨some a, len, cap, l, rfl, ⟨by simp [Pg.bytesC, hll], hl, hm, fun _ => ⟨a, rfl, fun j u hu => ?_⟩⟩, fun B hB => ?_⟩
    · unfold Pg.bytesC at hu
      rw [List.getElem?_map] at hu
      cases hb : l[j]? with
      | none => rw [hb] at hu; cases hu
      | some b => rw [hb] at hu; obtain rfl := Option.some.inj hu; exact hq j b hb
    · have := hB _ (by rw [hx]; exact slice_own Tryd.underlying49 _ _)
      rw [show Tryd.prog.bytesOf 5 = 1 by kernel_rfl] at this
      simp at this
      omega
end
end Go.Proofs.YtlfanhlkoepodaaDoor
