/-
  A strings.Builder beside other rows of bytes: what WriteRune and String turn, to the block.
-/
import Derived.Test.YtlhnabkfacmmnaaDoorPD3
import Derived.Test.YtlhnabkfacmmnaaDoorSh
import Derived.Lib.RuneBytes
namespace Go.Proofs.YtlhnabkfacmmnaaDoor
open Go.RowKit
set_option linter.unusedVariables false
set_option linter.unusedSimpArgs false
/-- Below block B only block b has turned. -/
def Bt (b B : Nat) (w w' : World) : Prop := w.os = w'.os ∧ w.tape = w'.tape ∧ w.output = w'.output ∧ w.heap.size ≤ w'.heap.size ∧ ∀ k, k < B → k ≠ b → w'.heap[k]? = w.heap[k]?
theorem Bt.refl (b B : Nat) (w : World) : Bt b B w w := ⟨rfl, rfl, rfl, Nat.le_refl _, fun _ _ _ => rfl⟩
theorem Bt.trans {b B : Nat} {u v w : World} (h : Bt b B u v) (k : Bt b B v w) : Bt b B u w :=
  ⟨h.1.trans k.1, h.2.1.trans k.2.1, h.2.2.1.trans k.2.2.1, Nat.le_trans h.2.2.2.1 k.2.2.2.1, fun i hi hb => (k.2.2.2.2 i hi hb).trans (h.2.2.2.2 i hi hb)⟩
theorem Bt.set {b B : Nat} {u w : World} (h : Bt b B u w) (i : Nat) (v : Value) : Bt b B u (w.setCell ⟨b, i, none⟩ v) :=
  ⟨h.1, h.2.1, h.2.2.1, by simpa using h.2.2.2.1, fun k hk hb => (heap_setCell_other _ _ k _ hb).trans (h.2.2.2.2 k hk hb)⟩
theorem Bt.alloc {b B : Nat} {u w : World} (h : Bt b B u w) (hB : B ≤ w.heap.size) (o : Obj) : Bt b B u (w.alloc o) :=
  ⟨h.1, h.2.1, h.2.2.1, by have := h.2.2.2.1; simp; omega, fun k hk hb => (Below.heap_alloc w o k (by omega)).trans (h.2.2.2.2 k hk hb)⟩
/-- A builder that holds the bytes l; its buffer lies at block B or behind. -/
def BRp (p : Value) (w : World) (b B : Nat) (l : List UInt8) : Prop := b < B ∧ ∃ v, w.heap[b]? = some (.cells #[p, v] 46 (0, 0)) ∧ w.ownsRowF B 5 1 v l.length (Lib.byteCells l)
def BR (w : World) (b B : Nat) (l : List UInt8) : Prop := BRp (.pointer none) w b B l ∨ BRp (.pointer (some ⟨b, 0, none⟩)) w b B l
theorem ownF_mono {w : World} {B B' : Nat} {e : TypeId} {size n : Nat} {v : Value} {xs : List Value} (h : w.ownsRowF B e size v n xs) (hB : B' ≤ B) : w.ownsRowF B' e size v n xs := by
  refine ⟨h.1, ?_⟩
  rcases h.2 with h | ⟨g, cap, cur, fz, h1, h2, h3⟩
  · exact Or.inl h
  · exact Or.inr ⟨g, cap, cur, fz, h1, by omega, h3⟩
theorem cells_len (l : List UInt8) : (Lib.byteCells l).length = l.length := by simp [Lib.byteCells]
theorem BRp.ne {p : Value} {w : World} {b B : Nat} {l : List UInt8} (h : b < B) {v : Value} {n : Nat} {xs : List Value} (ho : w.ownsRowF B 5 1 v n xs) : v.ownBlock ≠ some b := fun e => by have := (ho.lt b e).1; omega
theorem BRp.at_ {p : Value} {w : World} {b B : Nat} {l : List UInt8} (h : BRp p w b B l) : Lib.BuilderAtF 46 5 b b p (Lib.byteCells l) w := by
  obtain ⟨hb, v, h1, h2⟩ := h
  refine ⟨Nat.le_refl _, v, h1, ?_, fun e => by have := (h2.lt b e).1; omega⟩
  rw [cells_len]
  exact ownF_mono h2 (by omega)
theorem BR.at_ {w : World} {b B : Nat} {l : List UInt8} (h : BR w b B l) : Lib.IsBuilderF 46 5 b b (Lib.byteCells l) w := h.elim (fun x => .inl x.at_) (fun x => .inr x.at_)
theorem ownF_set {w : World} {B b : Nat} {v : Value} {n : Nat} {xs : List Value} (h : w.ownsRowF B 5 1 v n xs) (hb : b < B) (i : Nat) (q : Value) : (w.setCell ⟨b, i, none⟩ q).ownsRowF B 5 1 v n xs :=
  h.kept (row := some b) ⟨rfl, rfl, rfl, by simp [World.setCell], fun k _ hk => Below.heap_setCell _ _ _ _ (fun e => hk (by simp [e]))⟩ (Or.inr fun e => by have := (h.lt b e).1; omega)
theorem cc_any {w : World} {b B : Nat} {l : List UInt8} (h : BR w b B l) : Calls Tryd.prog 32 #[.pointer (some ⟨b, 0, none⟩)] w fun e w' => e = .returned (.tuple #[]) ∧ BRp (.pointer (some ⟨b, 0, none⟩)) w' b B l ∧ Bt b B w w' := by
  rcases h with h | h
  · have ha := h.at_
    refine (Any.Builder_copyCheck_fresh (P := Tryd.prog) (ρ := Tryd.lays168_ren) { Tryd.lays168 with } Tryd.Builder_Extra_168.toX72 b w ha.cell0 ha.shape ha.frozen0).mono ?_
    rintro e w' ⟨rfl, rfl⟩
    obtain ⟨hb, v, h1, h2⟩ := h
    exact ⟨rfl, ⟨hb, v, by simp [World.setCell, Array.getElem?_modify, h1], ownF_set h2 hb 0 _⟩, (Bt.refl _ _ _).set 0 _⟩
  · have ha := h.at_
    refine (Any.Builder_copyCheck_used (P := Tryd.prog) (ρ := Tryd.lays168_ren) { Tryd.lays168 with } Tryd.Builder_Extra_168.toX72 b w ha.cell0).mono ?_
    rintro e w' ⟨rfl, rfl⟩
    exact ⟨rfl, h, Bt.refl _ _ _⟩
set_option maxRecDepth 100000 in
set_option maxHeartbeats 4000000 in
theorem wr_any {w : World} {b B : Nat} {l : List UInt8} (r : Int) (hr0 : -2147483648 ≤ r) (hr1 : r ≤ 2147483647) (h : BR w b B l) (hlen : l.length + 4 ≤ 140737488355328) (hBw : B ≤ w.heap.size) :
    Calls Tryd.prog 22 #[.pointer (some ⟨b, 0, none⟩), .int .i32 r] w fun e w' => (∃ n : Int, e = .returned (.tuple #[.int .i64 n, .nilIface])) ∧ BR w' b B (l ++ Lib.encodeRune r) ∧ Bt b B w w' := by
  have hk4 := Lib.runeCells_le r
  go_enter Tryd.func22, Tryd.ntmps22
  go_wp2_with fail
  refine (cc_any h).mono ?_
  rintro e w1 ⟨rfl, h1, hb1⟩
  obtain ⟨hbB, v, hbk, hown⟩ := h1
  have hs1 : B ≤ w1.heap.size := Nat.le_trans hBw hb1.2.2.2.1
  obtain ⟨ao, cap, rfl⟩ : ∃ ao cap, v = .slice ao l.length cap := by
    rcases hown.2 with ⟨hv, h0⟩ | ⟨g, cap, cur, fz, hv, _⟩
    · exact ⟨none, 0, by rw [hv, h0]⟩
    · exact ⟨_, _, hv⟩
  have c0 : w1.cell? ⟨b, 0, none⟩ = some (.pointer (some ⟨b, 0, none⟩)) := by rw [Lib.cell_of_heap hbk]; rfl
  have c1 : w1.cell? ⟨b, 1, none⟩ = some (.slice ao l.length cap) := by rw [Lib.cell_of_heap hbk]; rfl
  go_wp2_with fail
  refine (Any.utf8_AppendRune_own (P := Tryd.prog) (ρ := Tryd.lays168_ren) { Tryd.lays168 with } Tryd.Builder_Extra_168 B _ l.length (Lib.byteCells l) r hr0 hr1 _ hown hlen hs1).mono ?_
  rintro e w2 ⟨v', rfl, hown', o, hgrow⟩
  have hlt : b < w1.heap.size := by omega
  have hb2 : w2.heap[b]? = some (.cells #[.pointer (some ⟨b, 0, none⟩), .slice ao l.length cap] 46 (0, 0)) := by
    rw [hgrow.block b (by simp; omega) (fun e => by have := (hown.lt b e.symm).1; omega), Lib.alloc_old w1 _ b hlt]
    exact hbk
  have d0 : w2.cell? ⟨b, 0, none⟩ = some (.pointer (some ⟨b, 0, none⟩)) := by rw [Lib.cell_of_heap hb2]; rfl
  have d1 : w2.cell? ⟨b, 1, none⟩ = some (.slice ao l.length cap) := by rw [Lib.cell_of_heap hb2]; rfl
  have f1 : w2.frozen? ⟨b, 1, none⟩ = false := Lib.frozen_of_heap hb2 1
  obtain ⟨g, cap', rfl⟩ : ∃ g cap', v' = .slice (some ⟨g, 0, none⟩) (l.length + (Lib.runeCells r).length) cap' := by
    rcases hown'.2 with ⟨_, h0⟩ | ⟨g, cap', cur, fz, hv, _⟩
    · omega
    · exact ⟨g, cap', hv⟩
  have hB2 : Bt b B w1 w2 := by
    refine ⟨hgrow.os.symm, hgrow.tape.symm, hgrow.output.symm, ?_, fun k hk hkb => ?_⟩
    · have := hgrow.size; simp at this; omega
    · rw [hgrow.block k (by simp; omega) (fun e => by have := (hown.lt k e.symm).1; omega), Lib.alloc_old w1 _ k (by omega)]
  have hfin := hid ((hb1.trans hB2).set 1 (.slice (some ⟨g, 0, none⟩) (l.length + (Lib.runeCells r).length) cap'))
  have hbr : Hid (BR (w2.setCell ⟨b, 1, none⟩ (.slice (some ⟨g, 0, none⟩) (l.length + (Lib.runeCells r).length) cap')) b B (l ++ Lib.encodeRune r)) := by
    refine Or.inr ⟨hbB, _, by simp [World.setCell, Array.getElem?_modify, hb2]; rfl, ?_⟩
    have := ownF_set hown' hbB 1 (.slice (some ⟨g, 0, none⟩) (l.length + (Lib.runeCells r).length) cap')
    rw [← Lib.byteCells_encodeRune, cells_len] at this ⊢
    rw [List.length_append, show Lib.byteCells (l ++ Lib.encodeRune r) = Lib.byteCells l ++ Lib.byteCells (Lib.encodeRune r) by simp [Lib.byteCells]]
    exact this
  clear hB2 hb2 hown' hown hbk hgrow
  go_wp2
  go_ret2
  exact ⟨⟨_, rfl⟩, hbr.out, hfin.out⟩
end Go.Proofs.YtlhnabkfacmmnaaDoor
