/-
  Words for memo files in memory: entries as rows of four cells, the file's struct, and what a call turns.
-/
import Derived.Test.YtcgjhloiokpicaaM1
import Derived.Deep.MidRow
namespace Go.Proofs.Ytcgjhloiokpicaa
open Go.RowKit
set_option linter.unusedVariables false
set_option linter.unusedSimpArgs false
/-- An entry. -/
structure En where
  block : Int
  blocks : Int
  kind : Int
  s : ByteArray
def En.cells (x : En) : List Value := [.int .i64 x.block, .int .i64 x.blocks, .int .i64 x.kind, .string x.s]
def ents : List En → List Value
  | [] => []
  | x :: l => x.cells ++ ents l
theorem ents_len : ∀ l : List En, (ents l).length = l.length * 4
  | [] => rfl
  | x :: l => by rw [ents, List.length_append, ents_len l, List.length_cons]; simp [En.cells]; omega
theorem ents_append : ∀ a b : List En, ents (a ++ b) = ents a ++ ents b
  | [], b => rfl
  | x :: a, b => by rw [List.cons_append, ents, ents, ents_append a b, List.append_assoc]
theorem ents_at : ∀ (l : List En) (k : Nat) (h : k < l.length) (j : Nat), j < 4 → (ents l)[k * 4 + j]? = (l[k]).cells[j]?
  | x :: l, 0, _, j, hj => by rw [ents, List.getElem?_append_left (by simp [En.cells]; omega)]; simp
  | x :: l, k + 1, h, j, hj => by
    rw [ents, List.getElem?_append_right (by simp [En.cells]; omega)]
    have := ents_at l k (by simpa using h) j hj
    simp only [List.getElem_cons_succ]
    rw [← this]
    congr 1
    simp [En.cells]
    omega
theorem ents_one : ∀ (l : List En), ∀ u ∈ ents l, u.oneCell' = true
  | [], u, h => by cases h
  | x :: l, u, h => by
    rw [ents, List.mem_append] at h
    rcases h with h | h
    · simp [En.cells] at h
      rcases h with rfl | rfl | rfl | rfl <;> rfl
    · exact ents_one l u h
/-- Below block B only block b has turned. -/
def Bt (b B : Nat) (w w' : World) : Prop := w.os = w'.os ∧ w.tape = w'.tape ∧ w.output = w'.output ∧ w.heap.size ≤ w'.heap.size ∧ ∀ k, k < B → k ≠ b → w'.heap[k]? = w.heap[k]?
theorem Bt.refl (b B : Nat) (w : World) : Bt b B w w := ⟨rfl, rfl, rfl, Nat.le_refl _, fun _ _ _ => rfl⟩
theorem Bt.trans {b B : Nat} {u v w : World} (h : Bt b B u v) (k : Bt b B v w) : Bt b B u w :=
  ⟨h.1.trans k.1, h.2.1.trans k.2.1, h.2.2.1.trans k.2.2.1, Nat.le_trans h.2.2.2.1 k.2.2.2.1, fun i hi hb => (k.2.2.2.2 i hi hb).trans (h.2.2.2.2 i hi hb)⟩
theorem Bt.set {b B : Nat} {u w : World} (h : Bt b B u w) (i : Nat) (v : Value) : Bt b B u (w.setCell ⟨b, i, none⟩ v) :=
  ⟨h.1, h.2.1, h.2.2.1, by simpa using h.2.2.2.1, fun k hk hb => (heap_setCell_other _ _ k _ hb).trans (h.2.2.2.2 k hk hb)⟩
theorem Bt.right {b B : Nat} {u v w : World} (h : Bt b B u v) (hx : Ext v w) (hB : B ≤ v.heap.size) : Bt b B u w :=
  ⟨h.1.trans hx.os.symm, h.2.1.trans hx.tape.symm, h.2.2.1.trans hx.output.symm, Nat.le_trans h.2.2.2.1 hx.size, fun k hk hb => (hx.block (by omega)).trans (h.2.2.2.2 k hk hb)⟩
theorem Bt.ext {b B : Nat} {u w w' : World} (h : Bt b B w w') (hu : Ext u w) (hb : u.heap.size ≤ b) (hB : u.heap.size ≤ B) : Ext u w' :=
  ⟨h.1.symm.trans hu.os, h.2.1.symm.trans hu.tape, h.2.2.1.symm.trans hu.output, Nat.le_trans hu.size h.2.2.2.1, fun k hk => (h.2.2.2.2 k (by omega) (by omega)).trans (hu.block hk)⟩
theorem Bt.of_ext {b B : Nat} {u w : World} (h : Ext u w) (hB : B ≤ u.heap.size) : Bt b B u w := (Bt.refl b B u).right h hB
/-- A memo file lies at block g: its lock's word, the size of its blocks, its entries. -/
def MA (lk : Int) (w : World) (g : Nat) (size : Int) (v : Value) (l : List En) : Prop :=
  ∃ q, w.heap[g]? = some (.cells #[.int .i32 lk, .int .u32 q, .int .i64 size, v] 76 (0, 0)) ∧ w.ownsRow 0 78 4 v l.length (ents l) ∧ v.ownBlock ≠ some g
section
variable {lk size : Int} {w w' : World} {g : Nat} {v : Value} {l : List En}
theorem MA.lt (h : MA lk w g size v l) : g < w.heap.size := by
  obtain ⟨q, h, _⟩ := h
  exact (Array.getElem?_eq_some_iff.1 h).1
theorem MA.c0 (h : MA lk w g size v l) : w.cell? ⟨g, 0, none⟩ = some (.int .i32 lk) := by obtain ⟨q, h, _⟩ := h; rw [Lib.cell_of_heap h]; rfl
theorem MA.c2 (h : MA lk w g size v l) : w.cell? ⟨g, 2, none⟩ = some (.int .i64 size) := by obtain ⟨q, h, _⟩ := h; rw [Lib.cell_of_heap h]; rfl
theorem MA.c3 (h : MA lk w g size v l) : w.cell? ⟨g, 3, none⟩ = some v := by obtain ⟨q, h, _⟩ := h; rw [Lib.cell_of_heap h]; rfl
theorem MA.free (h : MA lk w g size v l) (i : Nat) : w.frozen? ⟨g, i, none⟩ = false := by obtain ⟨q, h, _⟩ := h; exact Lib.frozen_of_heap h i
theorem MA.own (h : MA lk w g size v l) : w.ownsRow 0 78 4 v l.length (ents l) := by obtain ⟨q, _, h, _⟩ := h; exact h
theorem MA.ne (h : MA lk w g size v l) : v.ownBlock ≠ some g := by obtain ⟨q, _, _, h⟩ := h; exact h
theorem own_set {e : TypeId} {b n sz : Nat} {v : Value} {xs : List Value} (h : w.ownsRow b e sz v n xs) (hne : v.ownBlock ≠ some g) (i : Nat) (u : Value) : (w.setCell ⟨g, i, none⟩ u).ownsRow b e sz v n xs :=
  h.kept (row := some g) ⟨rfl, rfl, rfl, by simp [World.setCell], fun k _ hk => Below.heap_setCell _ _ _ _ (fun e => hk (by simp [e]))⟩ (Or.inr hne)
/-- The lock turns. -/
theorem MA.lock (h : MA lk w g size v l) (lk' : Int) : MA lk' (w.setCell ⟨g, 0, none⟩ (.int .i32 lk')) g size v l := by
  obtain ⟨q, h1, h2, h3⟩ := h
  exact ⟨q, by simp [World.setCell, Array.getElem?_modify, h1], own_set h2 h3 0 _, h3⟩
theorem MA.ext (h : MA lk w g size v l) (hx : Ext w w') : MA lk w' g size v l := by
  have hl := h.lt
  obtain ⟨q, h1, h2, h3⟩ := h
  exact ⟨q, (hx.block hl).trans h1, hx.own h2, h3⟩
theorem MA.new (w : World) (size : Int) : MA 0 (w.alloc (.cells #[.int .i32 0, .int .u32 0, .int .i64 size, .slice none 0 0] 76)) w.heap.size size (.slice none 0 0) [] :=
  ⟨0, heap_alloc_new w _, World.ownsRow_nil _ _ _ _, by simp [Value.ownBlock]⟩
end
/-- The cells of an entry in a row. -/
theorem own_ent {w : World} {b : Nat} {A : Addr} {n c : Nat} {l : List En} (h : w.ownsRow b 78 4 (.slice (some A) n c) n (ents l)) {k : Nat} (hk : k < l.length) {j : Nat} (hj : j < 4) {u : Value} (hu : (l[k]).cells[j]? = some u) : w.cell? (A.add (k * 4 + j)) = some u := by
  have hr : Rd w 4 (some A) n c (ents l) := Rd.of_own h
  have hn : 0 < n := by
    have h1 := h.1
    rw [ents_len] at h1
    omega
  obtain ⟨ad, e, hc⟩ := hr.2.2.2 hn
  injection e with e
  subst e
  exact hc _ u (by rw [ents_at l k hk j hj]; exact hu)
end Go.Proofs.Ytcgjhloiokpicaa
