/-
  The pages of characters: what each byte is, and the array that the program fills.
-/
import Derived.Test.YtlhnabkfacmmnaaProg
import Derived.Test.YtlhnabkfacmmnaaBase
import Derived.Deep.MidRow
import Derived.IntWalk
namespace Go.Proofs.Ytlhnabkfacmmnaa
open Go.RowKit
set_option linter.unusedVariables false
set_option linter.unusedSimpArgs false
/-- The character of byte b on page p; -1: none. -/
def chS (p b : Nat) : Int := if p = 1 then b else if b < 128 then b else if p = 2 then (if b ≤ 175 then (b : Int) - 128 + 1040 else if 224 ≤ b ∧ b ≤ 239 then (b : Int) - 224 + 1088 else -1) else -1
def pgAll (i : Nat) : Int := chS (i / 256) (i % 256)
/-- n cells of numbers. -/
def i32s (f : Nat → Int) (n : Nat) : List Value := (List.range n).map fun i => .int .i32 (f i)
theorem i32s_len (f : Nat → Int) (n : Nat) : (i32s f n).length = n := by simp [i32s]
theorem i32s_at (f : Nat → Int) {n i : Nat} (h : i < n) : (i32s f n)[i]? = some (.int .i32 (f i)) := by simp [i32s, h]
theorem i32s_one (f : Nat → Int) (n : Nat) : ∀ v ∈ i32s f n, v.oneCell' = true := by
  intro v hv
  obtain ⟨_, _, rfl⟩ := List.mem_map.1 hv
  rfl
/-- Block g holds n numbers, and they may be written. -/
def Bi (w : World) (g n : Nat) (f : Nat → Int) : Prop := ∀ k, k < n → w.cell? ⟨g, k, none⟩ = some (.int .i32 (f k)) ∧ w.frozen? ⟨g, k, none⟩ = false
theorem Bi.ext {w w' : World} {g n : Nat} {f : Nat → Int} (h : Bi w g n f) (hb : Ext w w') : Bi w' g n f := fun j hj => ⟨hb.cell (h j hj).1, by rw [hb.frozen (World.block_lt_of_cell? w _ (h j hj).1)]; exact (h j hj).2⟩
theorem Bi.congr {w : World} {g n : Nat} {f f' : Nat → Int} (h : Bi w g n f) (e : ∀ k, k < n → f k = f' k) : Bi w g n f' := fun j hj => by rw [← e j hj]; exact h j hj
theorem Bi.set {w : World} {g n : Nat} {f f' : Nat → Int} (h : Bi w g n f) {k : Nat} {x : Int} (e : ∀ j, j < n → f' j = if j = k then x else f j) : Bi (w.setCell ⟨g, k, none⟩ (.int .i32 x)) g n f' := by
  intro j hj
  refine ⟨?_, by rw [World.frozen?_setCell]; exact (h j hj).2⟩
  rw [e j hj]
  by_cases e : j = k
  · subst e
    rw [World.cell?_setCell_same _ _ _ (h j hj).1, if_pos rfl]
  · rw [World.cell?_setCell_other _ _ _ _ (by intro e'; injection e' with _ e' _; exact e e'.symm), (h j hj).1, if_neg e]
theorem Bi.far {w : World} {g n : Nat} {f : Nat → Int} (h : Bi w g n f) {p : Addr} (hp : p.block ≠ g) (v : Value) : Bi (w.setCell p v) g n f := fun j hj => ⟨cell_far (h j hj).1 hp, by rw [World.frozen?_setCell]; exact (h j hj).2⟩
theorem Bi.range {w : World} {g n : Nat} {f : Nat → Int} (h : Bi w g n f) : w.rangeAt g 0 (i32s f n) := fun j v hv => by
  have hj : j < n := by have := (List.getElem?_eq_some_iff.1 hv).1; rwa [i32s_len] at this
  rw [i32s_at f hj] at hv
  rw [Nat.zero_add, (h j hj).1]
  exact hv
/-- A part of the block, as a row. -/
theorem Bi.part {w : World} {g n o m : Nat} {f : Nat → Int} (h : Bi w g n f) (hm : o + m ≤ n) : w.rangeAt g o (i32s (fun i => f (o + i)) m) := fun j v hv => by
  have hj : j < m := by have := (List.getElem?_eq_some_iff.1 hv).1; rwa [i32s_len] at this
  rw [i32s_at _ hj] at hv
  rw [(h (o + j) (by omega)).1]
  exact hv
theorem Bi.there {w : World} {g n : Nat} {f : Nat → Int} (h : Bi w g n f) : w.there g 0 n := fun j hj => by
  rw [Nat.zero_add]
  exact ⟨by rw [(h j hj).1]; rfl, (h j hj).2⟩
def zer (n : Nat) : Array Value := (i32s (fun _ => 0) n).toArray
theorem zer_size (n : Nat) : (zer n).size = n := by simp [zer, i32s_len]
theorem Bi.new (w : World) (f : Nat → Int) (n : Nat) (t : TypeId) : Bi (w.alloc (.cells (i32s f n).toArray t)) w.heap.size n f := by
  have hb : (w.alloc (.cells (i32s f n).toArray t)).heap[w.heap.size]? = some (.cells (i32s f n).toArray t) := heap_alloc_new w _
  refine fun j hj => ⟨?_, ?_⟩
  · rw [cell_of_row _ w.heap.size j _ t _ hb]
    simpa using i32s_at f hj
  · unfold World.frozen?
    rw [hb]
    simp
/-- An operation that gives a value. -/
theorem wpList_val {P : Program} {ops : Array Oper} {rest : List Oper} {op : Oper} {a : Act} {w w' : World} {v : Value} {Q : Exit → Act → World → Prop} (hgd : op.guard = none)
    (hr : (execOp a.eval op).run P w = .ok (.value v) w') (h : wpList P ops Q rest (a.put op.dst v) w') : wpList P ops Q (op :: rest) a w :=
  wpList_plain hgd fun _ hK => by unfold Oper.wp; rw [hr, Oper.upon_value]; exact hK _ _ h
theorem wpList_alloc {P : Program} {ops : Array Oper} {rest : List Oper} {op : Oper} {a : Act} {w : World} {Q : Exit → Act → World → Prop} {t : TypeId} {zs : Array Value} (hgd : op.guard = none) (ho : op.op = .alloc t)
    (hz : ∀ w, (zeroValue t).run P w = .ok (.agg zs) w)
    (h : wpList P ops Q rest (a.put op.dst (.pointer (some ⟨w.heap.size, 0, none⟩))) (w.alloc (.cells zs t))) : wpList P ops Q (op :: rest) a w := by
  refine wpList_val hgd ?_ h
  unfold execOp
  simp [ho, go_sem, hz]
theorem zero59 (w : World) : (zeroValue 59).run Try.prog w = .ok (.agg (zer 768)) w := by
  have h : (Try.prog.info? 59).map (·.zero) = some (some (.agg (zer 768))) := by kernel_rfl
  cases hq : Try.prog.info? 59 with
  | none => rw [hq] at h; cases h
  | some i =>
    rw [hq] at h
    simp at h
    simp [zeroValue, typeInfo, hq, h]
theorem info59 : (Try.prog.info? 59).map (·.size) = some 768 := by kernel_rfl
theorem info58 : (Try.prog.info? 58).map (·.size) = some 256 := by kernel_rfl
end Go.Proofs.Ytlhnabkfacmmnaa
