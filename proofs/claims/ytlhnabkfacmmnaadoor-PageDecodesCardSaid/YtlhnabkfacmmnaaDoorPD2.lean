/-
  Contracts that were proved for another law's share, for this one.
-/
import Derived.Test.YtlhnabkfacmmnaaDoorPD1
import Derived.Deep.MidRow
import Derived.IntWalk
namespace Go.Proofs.YtlhnabkfacmmnaaDoor
open Go.RowKit
set_option linter.unusedVariables false
set_option linter.unusedSimpArgs false
/-- The character of byte b on page p; -1: none. -/
def chS (p b : Nat) : Int := if p = 1 then b else if b < 128 then b else if p = 2 then (if b ≤ 175 then (b : Int) - 128 + 1040 else if 224 ≤ b ∧ b ≤ 239 then (b : Int) - 224 + 1088 else -1) else -1
def pgAll (i : Nat) : Int := chS (i / 256) (i % 256)
/-- n cells of numbers. -/
def i32s (f : Nat → Int) (n : Nat) : List Value := (List.range n).map fun i => .int .i32 (f i)
theorem i32s_len (f : Nat → Int) (n : Nat) : (i32s f n).length = n := by simp [i32s]
theorem i32s_at (f : Nat → Int) {n i : Nat} (h : i < n) : (i32s f n)[i]? = some (.int .i32 (f i)) := by simp [i32s, h]
theorem i32s_one (f : Nat → Int) (n : Nat) : ∀ v ∈ i32s f n, v.oneCell' = true := by
  intro v hv
  obtain ⟨_, _, rfl⟩ := List.mem_map.1 hv
  rfl
/-- Block g holds n numbers, and they may be written. -/
def Bi (w : World) (g n : Nat) (f : Nat → Int) : Prop := ∀ k, k < n → w.cell? ⟨g, k, none⟩ = some (.int .i32 (f k)) ∧ w.frozen? ⟨g, k, none⟩ = false
theorem Bi.ext {w w' : World} {g n : Nat} {f : Nat → Int} (h : Bi w g n f) (hb : Ext w w') : Bi w' g n f := fun j hj => ⟨hb.cell (h j hj).1, by rw [hb.frozen (World.block_lt_of_cell? w _ (h j hj).1)]; exact (h j hj).2⟩
theorem Bi.congr {w : World} {g n : Nat} {f f' : Nat → Int} (h : Bi w g n f) (e : ∀ k, k < n → f k = f' k) : Bi w g n f' := fun j hj => by rw [← e j hj]; exact h j hj
theorem Bi.set {w : World} {g n : Nat} {f f' : Nat → Int} (h : Bi w g n f) {k : Nat} {x : Int} (e : ∀ j, j < n → f' j = if j = k then x else f j) : Bi (w.setCell ⟨g, k, none⟩ (.int .i32 x)) g n f' := by
  intro j hj
  refine ⟨?_, by rw [World.frozen?_setCell]; exact (h j hj).2⟩
  rw [e j hj]
  by_cases e : j = k
  · subst e
    rw [World.cell?_setCell_same _ _ _ (h j hj).1, if_pos rfl]
  · rw [World.cell?_setCell_other _ _ _ _ (by intro e'; injection e' with _ e' _; exact e e'.symm), (h j hj).1, if_neg e]
theorem Bi.far {w : World} {g n : Nat} {f : Nat → Int} (h : Bi w g n f) {p : Addr} (hp : p.block ≠ g) (v : Value) : Bi (w.setCell p v) g n f := fun j hj => ⟨cell_far (h j hj).1 hp, by rw [World.frozen?_setCell]; exact (h j hj).2⟩
theorem Bi.range {w : World} {g n : Nat} {f : Nat → Int} (h : Bi w g n f) : w.rangeAt g 0 (i32s f n) := fun j v hv => by
  have hj : j < n := by have := (List.getElem?_eq_some_iff.1 hv).1; rwa [i32s_len] at this
  rw [i32s_at f hj] at hv
  rw [Nat.zero_add, (h j hj).1]
  exact hv
/-- A part of the block, as a row. -/
theorem Bi.part {w : World} {g n o m : Nat} {f : Nat → Int} (h : Bi w g n f) (hm : o + m ≤ n) : w.rangeAt g o (i32s (fun i => f (o + i)) m) := fun j v hv => by
  have hj : j < m := by have := (List.getElem?_eq_some_iff.1 hv).1; rwa [i32s_len] at this
  rw [i32s_at _ hj] at hv
  rw [(h (o + j) (by omega)).1]
  exact hv
theorem Bi.there {w : World} {g n : Nat} {f : Nat → Int} (h : Bi w g n f) : w.there g 0 n := fun j hj => by
  rw [Nat.zero_add]
  exact ⟨by rw [(h j hj).1]; rfl, (h j hj).2⟩
def zer (n : Nat) : Array Value := (i32s (fun _ => 0) n).toArray
theorem zer_size (n : Nat) : (zer n).size = n := by simp [zer, i32s_len]
theorem Bi.new (w : World) (f : Nat → Int) (n : Nat) (t : TypeId) : Bi (w.alloc (.cells (i32s f n).toArray t)) w.heap.size n f := by
  have hb : (w.alloc (.cells (i32s f n).toArray t)).heap[w.heap.size]? = some (.cells (i32s f n).toArray t) := heap_alloc_new w _
  refine fun j hj => ⟨?_, ?_⟩
  · rw [cell_of_row _ w.heap.size j _ t _ hb]
    simpa using i32s_at f hj
  · unfold World.frozen?
    rw [hb]
    simp
/-- An operation that gives a value. -/
theorem wpList_val {P : Program} {ops : Array Oper} {rest : List Oper} {op : Oper} {a : Act} {w w' : World} {v : Value} {Q : Exit → Act → World → Prop} (hgd : op.guard = none)
    (hr : (execOp a.eval op).run P w = .ok (.value v) w') (h : wpList P ops Q rest (a.put op.dst v) w') : wpList P ops Q (op :: rest) a w :=
  wpList_plain hgd fun _ hK => by unfold Oper.wp; rw [hr, Oper.upon_value]; exact hK _ _ h
theorem wpList_alloc {P : Program} {ops : Array Oper} {rest : List Oper} {op : Oper} {a : Act} {w : World} {Q : Exit → Act → World → Prop} {t : TypeId} {zs : Array Value} (hgd : op.guard = none) (ho : op.op = .alloc t)
    (hz : ∀ w, (zeroValue t).run P w = .ok (.agg zs) w)
    (h : wpList P ops Q rest (a.put op.dst (.pointer (some ⟨w.heap.size, 0, none⟩))) (w.alloc (.cells zs t))) : wpList P ops Q (op :: rest) a w := by
  refine wpList_val hgd ?_ h
  unfold execOp
  simp [ho, go_sem, hz]
theorem zero59 (w : World) : (zeroValue 34).run Tryd.prog w = .ok (.agg (zer 768)) w := by
  have h : (Tryd.prog.info? 34).map (·.zero) = some (some (.agg (zer 768))) := by kernel_rfl
  cases hq : Tryd.prog.info? 34 with
  | none => rw [hq] at h; cases h
  | some i =>
    rw [hq] at h
    simp at h
    simp [zeroValue, typeInfo, hq, h]
theorem info59 : (Tryd.prog.info? 34).map (·.size) = some 768 := by kernel_rfl
theorem info58 : (Tryd.prog.info? 33).map (·.size) = some 256 := by kernel_rfl
theorem i32_in (x : Int) (h0 : -2147483648 ≤ x) (h1 : x ≤ 2147483647) : IntKind.i32.wrap x = x := by simp [IntKind.wrap, IntKind.bits, IntKind.signed]; omega
theorem Bi.set_ {w : World} {g n : Nat} {f : Nat → Int} (h : Bi w g n f) (k : Nat) (x : Int) : Bi (w.setCell ⟨g, k, none⟩ (.int .i32 x)) g n (fun j => if j = k then x else f j) := h.set fun _ _ => rfl
theorem Ext.sets {a : World} (g : Nat) (hg : a.heap.size ≤ g) : ∀ (vs : List Value) (o : Nat) (b : World), Ext a b → Ext a (b.setCells g o vs)
  | [], _, _, h => h
  | v :: r, o, b, h => by
    rw [World.setCells]
    exact Ext.sets g hg r (o + 1) _ (h.set (p := ⟨g, o, none⟩) hg v)
theorem results_cell {P : Program} {fn : Func} {p : Tmp} {ty : TypeId} (h : fn.results = #[.cell p ty]) (tmps : Array Value) (w : World) :
    (results fn tmps).run P w = ((asAddr (tmps.getD p undef)).run P w).andThen fun a w₁ => ((loadVar ty a).run P w₁).andThen fun v w₂ => .ok v w₂ := by
  simp only [results, h]
  simp [Sem.run_bind, Result.andThen]
  all_goals (cases (asAddr (tmps[p]?.getD undef)).run P w <;> simp)
  all_goals (rename_i a w1; cases (loadVar ty a).run P w1 <;> simp)
def p1 (k i : Nat) : Int := if i % 256 < k then (if i / 256 = 1 then ((i % 256 : Nat) : Int) else if i % 256 < 128 then ((i % 256 : Nat) : Int) else -1) else 0
def p2 (k i : Nat) : Int := if i / 256 = 2 ∧ 128 ≤ i % 256 ∧ i % 256 < k then ((i % 256 : Nat) : Int) - 128 + 1040 else p1 256 i
def p3 (k i : Nat) : Int := if i / 256 = 2 ∧ 224 ≤ i % 256 ∧ i % 256 < k then ((i % 256 : Nat) : Int) - 224 + 1088 else p2 176 i
theorem p1_lo {k : Nat} (hk : k < 128) : ∀ i, i < 768 → (if i = 512 + k then (k : Int) else if i = k then (k : Int) else if i = 256 + k then (k : Int) else p1 k i) = p1 (k + 1) i := by
  intro i hi
  unfold p1
  repeat' split
  all_goals omega
theorem p1_hi {k : Nat} (hk : 128 ≤ k) (hk2 : k < 256) : ∀ i, i < 768 → (if i = 512 + k then (-1 : Int) else if i = k then (-1 : Int) else if i = 256 + k then (k : Int) else p1 k i) = p1 (k + 1) i := by
  intro i hi
  unfold p1
  repeat' split
  all_goals omega
theorem p1_0 : ∀ i, i < 768 → (0 : Int) = p1 0 i := fun i _ => by unfold p1; rw [if_neg (by omega)]
theorem p2_0 : ∀ i, i < 768 → p1 256 i = p2 128 i := fun i _ => by unfold p2; rw [if_neg (by omega)]
theorem p2_step {k : Nat} (hk : 128 ≤ k) (hk2 : k < 176) : ∀ i, i < 768 → (if i = 512 + k then (k : Int) - 128 + 1040 else p2 k i) = p2 (k + 1) i := by
  intro i hi
  unfold p2
  repeat' split
  all_goals first | omega | rfl
theorem p3_0 : ∀ i, i < 768 → p2 176 i = p3 224 i := fun i _ => by unfold p3; rw [if_neg (by omega)]
theorem p3_step {k : Nat} (hk : 224 ≤ k) (hk2 : k < 240) : ∀ i, i < 768 → (if i = 512 + k then (k : Int) - 224 + 1088 else p3 k i) = p3 (k + 1) i := by
  intro i hi
  unfold p3
  repeat' split
  all_goals first | omega | rfl
theorem p3_all : ∀ i, i < 768 → p3 240 i = pgAll i := by
  intro i hi
  unfold p3 p2 p1 pgAll chS
  repeat' split
  all_goals omega
set_option maxRecDepth 100000 in
set_option maxHeartbeats 4000000 in
theorem pages_any (w : World) : Calls Tryd.prog 17 #[] w fun e w' => e = .returned (.agg (i32s pgAll 768).toArray) ∧ Ext w w' := by
  go_enter Tryd.func17, Tryd.ntmps17
  go_wp2_with (with_reducible refine wpList_alloc rfl rfl zero59 ?_)
  have hr0 := hid (show Bi ((w.alloc (.cells (zer 768) 34)).alloc (.cells (zer 768) 34)) w.heap.size 768 (fun _ => 0) from (Bi.new w _ 768 _).ext ((Ext.refl _).alloc_right _))
  have hb0 := hid (show Bi ((w.alloc (.cells (zer 768) 34)).alloc (.cells (zer 768) 34)) (w.heap.size + 1) 768 (p1 0) from by
    have := Bi.new (w.alloc (.cells (zer 768) 34)) (fun _ => 0) 768 34
    rw [show (w.alloc (.cells (zer 768) 34)).heap.size = w.heap.size + 1 by simp] at this
    exact this.congr p1_0)
  have hx0 := hid (show Ext w ((w.alloc (.cells (zer 768) 34)).alloc (.cells (zer 768) 34)) from ((Ext.refl w).alloc_right _).alloc_right _)
  generalize (w.alloc (.cells (zer 768) 34)).alloc (.cells (zer 768) 34) = w0 at *
  go_loopw [6] (fun i wr => ∃ k : Nat, k ≤ 256 ∧ i = .int .i64 k ∧ Hid (Bi wr (w.heap.size + 1) 768 (p1 k)) ∧ Hid (Bi wr w.heap.size 768 (fun _ => 0)) ∧ Hid (Ext w wr)) (fun i _ => 256 - (intOf i).toNat)
  case atStart => exact ⟨0, by omega, rfl, hb0, hr0, hx0⟩
  case round =>
    clear hb0 hr0 hx0
    obtain ⟨k, hk, rfl, hb, hr, hx⟩ := hrel
    by_cases hlt : k < 256
    · have c1 := (hb.out (256 + k) (by omega)).1
      have c2 := (hb.out k (by omega)).1
      have c3 := (hb.out (512 + k) (by omega)).1
      have f1 := (hb.out (256 + k) (by omega)).2
      have f2 := (hb.out k (by omega)).2
      have f3 := (hb.out (512 + k) (by omega)).2
      have lb : w.heap.size + 1 < wr.heap.size := World.block_lt_of_cell? wr _ c1
      have ew := i32_in (k : Int) (by omega) (by omega)
      have hlt' : (k : Int) < 256 := by omega
      by_cases h128 : k < 128
      · have d1 : decide ((128 : Int) ≤ (k : Int)) = false := by simp; omega
        have hb2 := hid ((((hb.out.set_ (256 + k) k).set_ k k).set_ (512 + k) k).congr (p1_lo h128))
        have hr2 := hid (((hr.out.far (p := ⟨w.heap.size + 1, 256 + k, none⟩) (by simp) (.int .i32 k)).far (p := ⟨w.heap.size + 1, k, none⟩) (by simp) (.int .i32 k)).far (p := ⟨w.heap.size + 1, 512 + k, none⟩) (by simp) (.int .i32 k))
        have hx2 := hid (((hx.out.set (p := ⟨w.heap.size + 1, 256 + k, none⟩) (by simp) (.int .i32 k)).set (p := ⟨w.heap.size + 1, k, none⟩) (by simp) (.int .i32 k)).set (p := ⟨w.heap.size + 1, 512 + k, none⟩) (by simp) (.int .i32 k))
        go_wp2
        go_roundw
        case rel => exact ⟨k + 1, by omega, by go_num, hb2, hr2, hx2⟩
        case measure => simp [intOf] <;> omega
      · have d1 : decide ((128 : Int) ≤ (k : Int)) = true := by simp; omega
        have hb2 := hid ((((hb.out.set_ (256 + k) k).set_ k (-1)).set_ (512 + k) (-1)).congr (p1_hi (by omega) hlt))
        have hr2 := hid (((hr.out.far (p := ⟨w.heap.size + 1, 256 + k, none⟩) (by simp) (.int .i32 k)).far (p := ⟨w.heap.size + 1, k, none⟩) (by simp) (.int .i32 (-1))).far (p := ⟨w.heap.size + 1, 512 + k, none⟩) (by simp) (.int .i32 (-1)))
        have hx2 := hid (((hx.out.set (p := ⟨w.heap.size + 1, 256 + k, none⟩) (by simp) (.int .i32 k)).set (p := ⟨w.heap.size + 1, k, none⟩) (by simp) (.int .i32 (-1))).set (p := ⟨w.heap.size + 1, 512 + k, none⟩) (by simp) (.int .i32 (-1)))
        go_wp2
        go_roundw
        case rel => exact ⟨k + 1, by omega, by go_num, hb2, hr2, hx2⟩
        case measure => simp [intOf] <;> omega
    · obtain rfl : k = 256 := by omega
      have hb2 := hid (hb.out.congr p2_0)
      go_wp2_with fail
      go_loopw [4] (fun i wr => ∃ k : Nat, 128 ≤ k ∧ k ≤ 176 ∧ i = .int .i64 k ∧ Hid (Bi wr (w.heap.size + 1) 768 (p2 k)) ∧ Hid (Bi wr w.heap.size 768 (fun _ => 0)) ∧ Hid (Ext w wr)) (fun i _ => 256 - (intOf i).toNat)
      case atStart => exact ⟨128, by omega, by omega, rfl, hb2, hr, hx⟩
      case round =>
        clear hb hr hx hb2
        obtain ⟨k, hk0, hk, rfl, hb, hr, hx⟩ := hrel
        by_cases hlt : k ≤ 175
        · have c3 := (hb.out (512 + k) (by omega)).1
          have f3 := (hb.out (512 + k) (by omega)).2
          have lb : w.heap.size + 1 < wr.heap.size := World.block_lt_of_cell? wr _ c3
          have ew := i32_in ((k : Int) - 128) (by omega) (by omega)
          have ew2 := i32_in (1040 + ((k : Int) - 128)) (by omega) (by omega)
          have e2 : 1040 + ((k : Int) - 128) = (k : Int) - 128 + 1040 := by omega
          have hb2 := hid ((hb.out.set_ (512 + k) ((k : Int) - 128 + 1040)).congr (p2_step hk0 (by omega)))
          have hr2 := hid (hr.out.far (p := ⟨w.heap.size + 1, 512 + k, none⟩) (by simp) (.int .i32 ((k : Int) - 128 + 1040)))
          have hx2 := hid (hx.out.set (p := ⟨w.heap.size + 1, 512 + k, none⟩) (by simp) (.int .i32 ((k : Int) - 128 + 1040)))
          have hlt' : (k : Int) ≤ 175 := by omega
          rw [← e2] at hb2 hr2 hx2
          clear e2
          go_wp2
          go_roundw
          case rel => exact ⟨k + 1, by omega, by omega, by go_num, hb2, hr2, hx2⟩
          case measure => simp [intOf] <;> omega
        · obtain rfl : k = 176 := by omega
          have hb2 := hid (hb.out.congr p3_0)
          go_wp2_with fail
          go_loopw [5] (fun i wr => ∃ k : Nat, 224 ≤ k ∧ k ≤ 240 ∧ i = .int .i64 k ∧ Hid (Bi wr (w.heap.size + 1) 768 (p3 k)) ∧ Hid (Bi wr w.heap.size 768 (fun _ => 0)) ∧ Hid (Ext w wr)) (fun i _ => 256 - (intOf i).toNat)
          case atStart => exact ⟨224, by omega, by omega, rfl, hb2, hr, hx⟩
          case round =>
            clear hb hr hx hb2
            obtain ⟨k, hk0, hk, rfl, hb, hr, hx⟩ := hrel
            by_cases hlt : k ≤ 239
            · have c3 := (hb.out (512 + k) (by omega)).1
              have f3 := (hb.out (512 + k) (by omega)).2
              have lb : w.heap.size + 1 < wr.heap.size := World.block_lt_of_cell? wr _ c3
              have ew := i32_in ((k : Int) - 224) (by omega) (by omega)
              have ew2 := i32_in (1088 + ((k : Int) - 224)) (by omega) (by omega)
              have e2 : 1088 + ((k : Int) - 224) = (k : Int) - 224 + 1088 := by omega
              have hb2 := hid ((hb.out.set_ (512 + k) ((k : Int) - 224 + 1088)).congr (p3_step hk0 (by omega)))
              have hr2 := hid (hr.out.far (p := ⟨w.heap.size + 1, 512 + k, none⟩) (by simp) (.int .i32 ((k : Int) - 224 + 1088)))
              have hx2 := hid (hx.out.set (p := ⟨w.heap.size + 1, 512 + k, none⟩) (by simp) (.int .i32 ((k : Int) - 224 + 1088)))
              have hlt' : (k : Int) ≤ 239 := by omega
              rw [← e2] at hb2 hr2 hx2
              clear e2
              go_wp2
              go_roundw
              case rel => exact ⟨k + 1, by omega, by omega, by go_num, hb2, hr2, hx2⟩
              case measure => simp [intOf] <;> omega
            · obtain rfl : k = 240 := by omega
              have hb2 := hb.out.congr p3_all
              have hrg := hb2.range
              have hth : wr.there w.heap.size 0 (i32s pgAll 768).toArray.size := by
                rw [show (i32s pgAll 768).toArray.size = 768 by simp [i32s_len]]
                exact hr.out.there
              have hrs := World.rangeAt_setCells_same wr w.heap.size 0 (i32s pgAll 768).toArray.toList (by simpa using hth)
              have hin : (Tryd.prog.info? 34).map (·.size) = some (i32s pgAll 768).length := by rw [i32s_len]; exact info59
              have hin2 : (Tryd.prog.info? 34).map (·.size) = some (i32s pgAll 768).toArray.size := by rw [show (i32s pgAll 768).toArray.size = 768 by simp [i32s_len]]; exact info59
              have h1c := all_oneCell_toArray (i32s_one pgAll 768)
              have hld := run_loadVar_mid (P := Tryd.prog) (wr.setCells w.heap.size 0 (i32s pgAll 768).toArray.toList) w.heap.size 0 34 (i32s pgAll 768) _ (by simpa using hrs) Tryd.underlying34 rfl hin
              have hxf := hid (Ext.sets w.heap.size (Nat.le_refl _) (i32s pgAll 768).toArray.toList 0 wr hx.out)
              have hth := hid hth
              have hrg := hid hrg
              have hin := hid hin
              have hin2 := hid hin2
              have h1c := hid h1c
              have hld := hid hld
              clear hrs hb2 hb hr hx
              go_wp2_with (first | (refine wpList_load_mid rfl 34 (.tmp 1) rfl (w.heap.size + 1) 0 rfl (i32s pgAll 768) _ hrg.out Tryd.underlying34 rfl hin.out ?_) | (refine wpList_store_mid rfl 34 (.tmp 0) (.tmp 48) rfl w.heap.size 0 (i32s pgAll 768).toArray rfl rfl hth.out hin2.out h1c.out ?_))
              refine bodyPost_ret (v := .agg (i32s pgAll 768).toArray) ?_ rfl ⟨rfl, hxf.out⟩
              rw [results_cell rfl]
              simp [asAddr, Result.andThen]
              rw [hld.out]
/-- The first byte that has the character. -/
def fB (f : Nat → Int) (c : Int) : Option Nat := if 0 ≤ c then (List.range 256).find? (fun b => f b == c) else none
def bv : Option Nat → Int | none => 0 | some b => b
def NoB (f : Nat → Int) (c : Int) (k : Nat) : Prop := ∀ j, j < k → f j ≠ c
theorem fB_neg {f : Nat → Int} {c : Int} (h : c < 0) : fB f c = none := if_neg (by omega)
theorem fB_hit {f : Nat → Int} {c : Int} {k : Nat} (h0 : 0 ≤ c) (hk : k < 256) (hn : NoB f c k) (h : f k = c) : fB f c = some k := by
  unfold fB
  rw [if_pos h0, List.find?_eq_some_iff_getElem]
  refine ⟨by simpa using h, k, by simpa using hk, by simp, fun j hj => ?_⟩
  simpa using hn j hj
theorem fB_none {f : Nat → Int} {c : Int} (hn : NoB f c 256) : fB f c = none := by
  unfold fB
  split
  · rw [List.find?_eq_none]
    intro x hx
    simpa using hn x (by simpa using hx)
  · rfl
theorem NoB.zero (f : Nat → Int) (c : Int) : NoB f c 0 := fun j hj => by omega
theorem NoB.succ {f : Nat → Int} {c : Int} {k : Nat} (h : NoB f c k) (hk : f k ≠ c) : NoB f c (k + 1) := fun j hj => by
  by_cases e : j = k
  · rw [e]; exact hk
  · exact h j (by omega)
theorem fB_rng {f : Nat → Int} {c : Int} {b : Nat} (h : fB f c = some b) : b < 256 ∧ 0 ≤ c ∧ f b = c := by
  unfold fB at h
  split at h
  · rename_i h0
    rw [List.find?_eq_some_iff_getElem] at h
    obtain ⟨h1, i, h2, h3, _⟩ := h
    simp at h3 h2
    subst h3
    exact ⟨h2, h0, by simpa using h1⟩
  · cases h
theorem fB_bv (f : Nat → Int) (c : Int) : 0 ≤ bv (fB f c) ∧ bv (fB f c) ≤ 255 := by
  cases h : fB f c with
  | none => exact ⟨by decide, by decide⟩
  | some b => have := (fB_rng h).1; exact ⟨by show (0 : Int) ≤ (b : Int); omega, by show (b : Int) ≤ 255; omega⟩
theorem u8_in3 (x : Int) (h0 : 0 ≤ x) (h1 : x ≤ 255) : IntKind.u8.wrap x = x := by simp [IntKind.wrap, IntKind.bits, IntKind.signed]; omega
theorem ret_bb3 {a b : Bool} {x y : Int} (h : x = y) (h' : a = b) : Ending.returned (.tuple #[.int .u8 x, .bool a]) = .returned (.tuple #[.int .u8 y, .bool b]) := by rw [h, h']
theorem ret_ib3 {a b : Bool} {x y : Int} (h : x = y) (h' : a = b) : Ending.returned (.tuple #[.int .i64 x, .bool a]) = .returned (.tuple #[.int .i64 y, .bool b]) := by rw [h, h']
theorem run_idx58 {C : Array Value} {k : Nat} {x : Int} (hk : k < 256) (h : C[k]? = some (.int .i32 x)) (w : World) : (Instr.index 33 (.agg C) (.int .i64 (k : Int))).run Tryd.prog w = .ok (.int .i32 x) w := by
  have hk' : (k : Int) < 256 := by omega
  have hu := Tryd.underlying33
  simp [Instr.index, part, go_sem, hu, h, hk', hk]
set_option maxRecDepth 100000 in
set_option maxHeartbeats 4000000 in
theorem byteOf_any (f : Nat → Int) (c : Int) (w : World) : Calls Tryd.prog 18 #[.agg (i32s f 256).toArray, .int .i32 c] w fun e w' => e = .returned (.tuple #[.int .u8 (bv (fB f c)), .bool (fB f c).isSome]) ∧ Ext w w' := by
  have hC : Hid (∀ i, i < 256 → (i32s f 256).toArray[i]? = some (Value.int .i32 (f i))) := fun i h => by simpa using i32s_at f (n := 256) (i := i) h
  have hsz : (i32s f 256).toArray.size = 256 := by simp [i32s_len]
  have hrg := hid (World.rangeAt_of_block (w := w.alloc (.cells (i32s f 256).toArray 33)) (heap_alloc_new w _) 0 256)
  generalize hCe : (i32s f 256).toArray = C at *
  have hCl : Hid ((C.extract 0 (0 + 256)).toList = i32s f 256) := by
    unfold Hid
    rw [← hCe]
    simp [i32s_len, List.take_of_length_le]
  have hin : Hid ((Tryd.prog.info? 33).map (·.size) = some (C.extract 0 (0 + 256)).toList.length) := by unfold Hid; rw [hCl.out, i32s_len]; exact info58
  have hCC : Hid ((C.extract 0 (0 + 256)).toList.toArray = C) := by
    unfold Hid
    rw [hCl.out]; exact hCe
  have hCe := hid hCe
  clear hCl
  have hbox : ∀ w, (Instr.box 33 (.agg C)).run Tryd.prog w = .ok (.pointer (some ⟨w.heap.size, 0, none⟩)) (w.alloc (.cells C 33)) := by
    intro w
    simp [go_sem]
  go_enter Tryd.func18, Tryd.ntmps18
  go_wp2_with (refine wpList_load_mid rfl 33 (.tmp 2) rfl w.heap.size 0 rfl _ _ hrg.out Tryd.underlying33 rfl hin.out ?_; rw [hCC.out])
  have hE := hid ((Ext.refl w).alloc_right (.cells C 33))
  generalize w.alloc (.cells C 33) = w0 at *
  clear hrg hin hCC hbox hCe
  go_loop [9] (fun i => ∃ k : Nat, k ≤ 256 ∧ i = .int .i64 k ∧ Hid (0 ≤ c → NoB f c k)) (fun i => 256 - (intOf i).toNat)
  case atStart => exact ⟨0, by omega, rfl, fun _ => NoB.zero f c⟩
  case round =>
    obtain ⟨k, hk, rfl, hn⟩ := hrel
    by_cases hlt : k < 256
    · have hat := run_idx58 hlt (hC.out k hlt) w0
      have hlt' : (k : Int) < 256 := by omega
      have eu := u8_in3 (k : Int) (by omega) (by omega)
      by_cases hfc : f k = c
      · have d1 : (f k == c) = true := by simpa using hfc
        by_cases h0 : 0 ≤ c
        · have d2 : decide (0 ≤ c) = true := by simpa using h0
          have Fin := hid (fB_hit h0 hlt (hn.out h0) hfc)
          clear hfc h0
          go_wp2
          go_ret2
          exact ⟨ret_bb3 (by rw [Fin.out]; rfl) (by rw [Fin.out]; rfl), hE.out⟩
        · have d2 : decide (0 ≤ c) = false := by simpa using h0
          have hn2 : Hid (0 ≤ c → NoB f c (k + 1)) := fun h => absurd h h0
          clear hfc h0
          go_wp2
          go_round
          case rel => exact ⟨k + 1, by omega, by go_num, hn2⟩
          case measure => simp [intOf] <;> omega
      · have d1 : (f k == c) = false := by simpa using hfc
        have hn2 : Hid (0 ≤ c → NoB f c (k + 1)) := fun h => (hn.out h).succ hfc
        clear hfc
        go_wp2
        go_round
        case rel => exact ⟨k + 1, by omega, by go_num, hn2⟩
        case measure => simp [intOf] <;> omega
    · obtain rfl : k = 256 := by omega
      have Fin : Hid (fB f c = none) := by
        by_cases h0 : 0 ≤ c
        · exact fB_none (hn.out h0)
        · exact fB_neg (by omega)
      go_wp2
      go_ret2
      exact ⟨ret_bb3 (by rw [Fin.out]; rfl) (by rw [Fin.out]; rfl), hE.out⟩
/-- The character of a byte on a page, as the reference has it. -/
def chC (p : Nat) (b : Nat) : Int := if 0 ≤ chS p b then chS p b else 0
theorem ch_1 (b : Nat) : chS 1 b = b := rfl
set_option maxRecDepth 100000 in
set_option maxHeartbeats 4000000 in
theorem char_any (b p : Nat) (hb : b < 256) (hp : p ≤ 2) (w : World) : Calls Tryd.prog 24 #[.int .u8 (b : Int), .int .i64 (p : Int)] w fun e w' => e = .returned (.tuple #[.int .i64 (chC p b), .bool (decide (0 ≤ chS p b))]) ∧ w = w' := by
  by_cases h1 : p = 1
  · subst h1
    have Fin : Hid (chS 1 b = (b : Int)) := rfl
    by_cases h128 : b < 128
    · have d1 : decide ((b : Int) < 128) = true := by simp; omega
      go_enter Tryd.func24, Tryd.ntmps24
      go_wp2
      go_ret2
      exact ⟨ret_ib3 (by unfold chC; rw [Fin.out, if_pos (by omega)]) (by rw [Fin.out]; simp), rfl⟩
    · have d1 : decide ((b : Int) < 128) = false := by simp; omega
      go_enter Tryd.func24, Tryd.ntmps24
      go_wp2
      go_ret2
      exact ⟨ret_ib3 (by unfold chC; rw [Fin.out, if_pos (by omega)]) (by rw [Fin.out]; simp), rfl⟩
  · have e1 : ((p : Int) == 1) = false := by rw [beq_eq_false_iff_ne]; omega
    by_cases h128 : b < 128
    · have d1 : decide ((b : Int) < 128) = true := by simp; omega
      have Fin : Hid (chS p b = (b : Int)) := by unfold Hid chS; rw [if_neg h1, if_pos h128]
      clear h1
      go_enter Tryd.func24, Tryd.ntmps24
      go_wp2
      go_ret2
      exact ⟨ret_ib3 (by unfold chC; rw [Fin.out, if_pos (by omega)]) (by rw [Fin.out]; simp), rfl⟩
    · have d1 : decide ((b : Int) < 128) = false := by simp; omega
      by_cases h2 : p = 2
      · subst h2
        by_cases h175 : b ≤ 175
        · have d2 : decide ((b : Int) ≤ 175) = true := by simp; omega
          have Fin : Hid (chS 2 b = (b : Int) - 128 + 1040) := by unfold Hid chS; rw [if_neg h1, if_neg h128, if_pos rfl, if_pos h175]
          clear h1
          go_enter Tryd.func24, Tryd.ntmps24
          go_wp2
          go_ret2
          exact ⟨ret_ib3 (by unfold chC; rw [Fin.out, if_pos (by omega)]) (by rw [Fin.out]; simp; omega), rfl⟩
        · have d2 : decide ((b : Int) ≤ 175) = false := by simp; omega
          by_cases h224 : 224 ≤ b
          · have d3 : decide ((224 : Int) ≤ (b : Int)) = true := by simp; omega
            by_cases h239 : b ≤ 239
            · have d4 : decide ((b : Int) ≤ 239) = true := by simp; omega
              have Fin : Hid (chS 2 b = (b : Int) - 224 + 1088) := by unfold Hid chS; rw [if_neg h1, if_neg h128, if_pos rfl, if_neg h175, if_pos ⟨h224, h239⟩]
              clear h1
              go_enter Tryd.func24, Tryd.ntmps24
              go_wp2
              go_ret2
              exact ⟨ret_ib3 (by unfold chC; rw [Fin.out, if_pos (by omega)]) (by rw [Fin.out]; simp; omega), rfl⟩
            · have d4 : decide ((b : Int) ≤ 239) = false := by simp; omega
              have Fin : Hid (chS 2 b = -1) := by unfold Hid chS; rw [if_neg h1, if_neg h128, if_pos rfl, if_neg h175, if_neg (by omega)]
              clear h1
              go_enter Tryd.func24, Tryd.ntmps24
              go_wp2
              go_ret2
              exact ⟨ret_ib3 (by unfold chC; rw [Fin.out]; rfl) (by rw [Fin.out]; rfl), rfl⟩
          · have d3 : decide ((224 : Int) ≤ (b : Int)) = false := by simp; omega
            have Fin : Hid (chS 2 b = -1) := by unfold Hid chS; rw [if_neg h1, if_neg h128, if_pos rfl, if_neg h175, if_neg (by omega)]
            clear h1
            go_enter Tryd.func24, Tryd.ntmps24
            go_wp2
            go_ret2
            exact ⟨ret_ib3 (by unfold chC; rw [Fin.out]; rfl) (by rw [Fin.out]; rfl), rfl⟩
      · have e2 : ((p : Int) == 2) = false := by rw [beq_eq_false_iff_ne]; omega
        have Fin : Hid (chS p b = -1) := by unfold Hid chS; rw [if_neg h1, if_neg h128, if_neg h2]
        clear h1 h2
        go_enter Tryd.func24, Tryd.ntmps24
        go_wp2
        go_ret2
        exact ⟨ret_ib3 (by unfold chC; rw [Fin.out]; rfl) (by rw [Fin.out]; rfl), rfl⟩
/-- The reference's byte of a character: the first one. -/
theorem rbyteOf_hit {p : Nat} {c : Int} {k : Nat} (hk : k < 256) (hn : 0 ≤ c → NoB (chS p) c k) (h0 : 0 ≤ chS p k) (h : chC p k = c) : fB (chS p) c = some k := by
  unfold chC at h
  rw [if_pos h0] at h
  exact fB_hit (by omega) hk (hn (by omega)) h
set_option maxRecDepth 100000 in
set_option maxHeartbeats 4000000 in
theorem rbyteOf_any (c : Int) (p : Nat) (hp : p ≤ 2) (w : World) : Calls Tryd.prog 20 #[.int .i64 c, .int .i64 (p : Int)] w fun e w' => e = .returned (.tuple #[.int .u8 (bv (fB (chS p) c)), .bool (fB (chS p) c).isSome]) ∧ w = w' := by
  go_enter Tryd.func20, Tryd.ntmps20
  go_wp2_with fail
  go_loop [6] (fun i => ∃ k : Nat, k ≤ 256 ∧ i = .int .i64 k ∧ Hid (0 ≤ c → NoB (chS p) c k)) (fun i => 256 - (intOf i).toNat)
  case atStart => exact ⟨0, by omega, rfl, fun _ => NoB.zero _ c⟩
  case round =>
    obtain ⟨k, hk, rfl, hn⟩ := hrel
    by_cases hlt : k < 256
    · have hlt' : (k : Int) < 256 := by omega
      have eu := u8_in3 (k : Int) (by omega) (by omega)
      by_cases h0 : 0 ≤ chS p k
      · by_cases hc : chC p k = c
        · have d1 : decide (0 ≤ chS p k) = true := by simpa using h0
          have d2 : (chC p k == c) = true := by simpa using hc
          have Fin := hid (rbyteOf_hit hlt hn.out h0 hc)
          clear h0 hc
          go_wp2_with fail
          refine (char_any k p hlt hp _).mono ?_
          rintro e w' ⟨rfl, rfl⟩
          go_wp2
          go_ret2
          exact ⟨ret_bb3 (by rw [Fin.out]; rfl) (by rw [Fin.out]; rfl), rfl⟩
        · have d1 : decide (0 ≤ chS p k) = true := by simpa using h0
          have d2 : (chC p k == c) = false := by simpa using hc
          have hn2 : Hid (0 ≤ c → NoB (chS p) c (k + 1)) := fun h => (hn.out h).succ (by unfold chC at hc; rwa [if_pos h0] at hc)
          clear h0 hc
          go_wp2_with fail
          refine (char_any k p hlt hp _).mono ?_
          rintro e w' ⟨rfl, rfl⟩
          go_wp2
          go_round
          case rel => exact ⟨k + 1, by omega, by go_num, hn2⟩
          case measure => simp [intOf] <;> omega
      · have d1 : decide (0 ≤ chS p k) = false := by simpa using h0
        have hn2 : Hid (0 ≤ c → NoB (chS p) c (k + 1)) := fun h => (hn.out h).succ (by omega)
        clear h0
        go_wp2_with fail
        refine (char_any k p hlt hp _).mono ?_
        rintro e w' ⟨rfl, rfl⟩
        go_wp2
        go_round
        case rel => exact ⟨k + 1, by omega, by go_num, hn2⟩
        case measure => simp [intOf] <;> omega
    · obtain rfl : k = 256 := by omega
      have Fin : Hid (fB (chS p) c = none) := by
        by_cases h0 : 0 ≤ c
        · exact fB_none (hn.out h0)
        · exact fB_neg (by omega)
      go_wp2
      go_ret2
      exact ⟨ret_bb3 (by rw [Fin.out]; rfl) (by rw [Fin.out]; rfl), rfl⟩
end Go.Proofs.YtlhnabkfacmmnaaDoor
