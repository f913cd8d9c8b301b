/-
  The program's pages: the array that it fills.
-/
import Derived.Test.YtlhnabkfacmmnaaPc1
namespace Go.Proofs.Ytlhnabkfacmmnaa
open Go.RowKit
set_option linter.unusedVariables false
set_option linter.unusedSimpArgs false
theorem i32_in (x : Int) (h0 : -2147483648 ≤ x) (h1 : x ≤ 2147483647) : IntKind.i32.wrap x = x := by simp [IntKind.wrap, IntKind.bits, IntKind.signed]; omega
theorem Bi.set_ {w : World} {g n : Nat} {f : Nat → Int} (h : Bi w g n f) (k : Nat) (x : Int) : Bi (w.setCell ⟨g, k, none⟩ (.int .i32 x)) g n (fun j => if j = k then x else f j) := h.set fun _ _ => rfl
theorem Ext.sets {a : World} (g : Nat) (hg : a.heap.size ≤ g) : ∀ (vs : List Value) (o : Nat) (b : World), Ext a b → Ext a (b.setCells g o vs)
  | [], _, _, h => h
  | v :: r, o, b, h => by
    rw [World.setCells]
    exact Ext.sets g hg r (o + 1) _ (h.set (p := ⟨g, o, none⟩) hg v)
theorem results_cell {P : Program} {fn : Func} {p : Tmp} {ty : TypeId} (h : fn.results = #[.cell p ty]) (tmps : Array Value) (w : World) :
    (results fn tmps).run P w = ((asAddr (tmps.getD p undef)).run P w).andThen fun a w₁ => ((loadVar ty a).run P w₁).andThen fun v w₂ => .ok v w₂ := by
  simp only [results, h]
  simp [Sem.run_bind, Result.andThen]
  all_goals (cases (asAddr (tmps[p]?.getD undef)).run P w <;> simp)
  all_goals (rename_i a w1; cases (loadVar ty a).run P w1 <;> simp)
def p1 (k i : Nat) : Int := if i % 256 < k then (if i / 256 = 1 then ((i % 256 : Nat) : Int) else if i % 256 < 128 then ((i % 256 : Nat) : Int) else -1) else 0
def p2 (k i : Nat) : Int := if i / 256 = 2 ∧ 128 ≤ i % 256 ∧ i % 256 < k then ((i % 256 : Nat) : Int) - 128 + 1040 else p1 256 i
def p3 (k i : Nat) : Int := if i / 256 = 2 ∧ 224 ≤ i % 256 ∧ i % 256 < k then ((i % 256 : Nat) : Int) - 224 + 1088 else p2 176 i
theorem p1_lo {k : Nat} (hk : k < 128) : ∀ i, i < 768 → (if i = 512 + k then (k : Int) else if i = k then (k : Int) else if i = 256 + k then (k : Int) else p1 k i) = p1 (k + 1) i := by
  intro i hi
  unfold p1
  repeat' split
  all_goals omega
theorem p1_hi {k : Nat} (hk : 128 ≤ k) (hk2 : k < 256) : ∀ i, i < 768 → (if i = 512 + k then (-1 : Int) else if i = k then (-1 : Int) else if i = 256 + k then (k : Int) else p1 k i) = p1 (k + 1) i := by
  intro i hi
  unfold p1
  repeat' split
  all_goals omega
theorem p1_0 : ∀ i, i < 768 → (0 : Int) = p1 0 i := fun i _ => by unfold p1; rw [if_neg (by omega)]
theorem p2_0 : ∀ i, i < 768 → p1 256 i = p2 128 i := fun i _ => by unfold p2; rw [if_neg (by omega)]
theorem p2_step {k : Nat} (hk : 128 ≤ k) (hk2 : k < 176) : ∀ i, i < 768 → (if i = 512 + k then (k : Int) - 128 + 1040 else p2 k i) = p2 (k + 1) i := by
  intro i hi
  unfold p2
  repeat' split
  all_goals first | omega | rfl
theorem p3_0 : ∀ i, i < 768 → p2 176 i = p3 224 i := fun i _ => by unfold p3; rw [if_neg (by omega)]
theorem p3_step {k : Nat} (hk : 224 ≤ k) (hk2 : k < 240) : ∀ i, i < 768 → (if i = 512 + k then (k : Int) - 224 + 1088 else p3 k i) = p3 (k + 1) i := by
  intro i hi
  unfold p3
  repeat' split
  all_goals first | omega | rfl
theorem p3_all : ∀ i, i < 768 → p3 240 i = pgAll i := by
  intro i hi
  unfold p3 p2 p1 pgAll chS
  repeat' split
  all_goals omega
set_option maxRecDepth 100000 in
set_option maxHeartbeats 4000000 in
theorem pages_any (w : World) : Calls Try.prog 48 #[] w fun e w' => e = .returned (.agg (i32s pgAll 768).toArray) ∧ Ext w w' := by
  go_enter Try.func48, Try.ntmps48
  go_wp2_with (with_reducible refine wpList_alloc rfl rfl zero59 ?_)
  have hr0 := hid (show Bi ((w.alloc (.cells (zer 768) 59)).alloc (.cells (zer 768) 59)) w.heap.size 768 (fun _ => 0) from (Bi.new w _ 768 _).ext ((Ext.refl _).alloc_right _))
  have hb0 := hid (show Bi ((w.alloc (.cells (zer 768) 59)).alloc (.cells (zer 768) 59)) (w.heap.size + 1) 768 (p1 0) from by
    have := Bi.new (w.alloc (.cells (zer 768) 59)) (fun _ => 0) 768 59
    rw [show (w.alloc (.cells (zer 768) 59)).heap.size = w.heap.size + 1 by simp] at this
    exact this.congr p1_0)
  have hx0 := hid (show Ext w ((w.alloc (.cells (zer 768) 59)).alloc (.cells (zer 768) 59)) from ((Ext.refl w).alloc_right _).alloc_right _)
  generalize (w.alloc (.cells (zer 768) 59)).alloc (.cells (zer 768) 59) = w0 at *
  go_loopw [6] (fun i wr => ∃ k : Nat, k ≤ 256 ∧ i = .int .i64 k ∧ Hid (Bi wr (w.heap.size + 1) 768 (p1 k)) ∧ Hid (Bi wr w.heap.size 768 (fun _ => 0)) ∧ Hid (Ext w wr)) (fun i _ => 256 - (intOf i).toNat)
  case atStart => exact ⟨0, by omega, rfl, hb0, hr0, hx0⟩
  case round =>
    clear hb0 hr0 hx0
    obtain ⟨k, hk, rfl, hb, hr, hx⟩ := hrel
    by_cases hlt : k < 256
    · have c1 := (hb.out (256 + k) (by omega)).1
      have c2 := (hb.out k (by omega)).1
      have c3 := (hb.out (512 + k) (by omega)).1
      have f1 := (hb.out (256 + k) (by omega)).2
      have f2 := (hb.out k (by omega)).2
      have f3 := (hb.out (512 + k) (by omega)).2
      have lb : w.heap.size + 1 < wr.heap.size := World.block_lt_of_cell? wr _ c1
      have ew := i32_in (k : Int) (by omega) (by omega)
      have hlt' : (k : Int) < 256 := by omega
      by_cases h128 : k < 128
      · have d1 : decide ((128 : Int) ≤ (k : Int)) = false := by simp; omega
        have hb2 := hid ((((hb.out.set_ (256 + k) k).set_ k k).set_ (512 + k) k).congr (p1_lo h128))
        have hr2 := hid (((hr.out.far (p := ⟨w.heap.size + 1, 256 + k, none⟩) (by simp) (.int .i32 k)).far (p := ⟨w.heap.size + 1, k, none⟩) (by simp) (.int .i32 k)).far (p := ⟨w.heap.size + 1, 512 + k, none⟩) (by simp) (.int .i32 k))
        have hx2 := hid (((hx.out.set (p := ⟨w.heap.size + 1, 256 + k, none⟩) (by simp) (.int .i32 k)).set (p := ⟨w.heap.size + 1, k, none⟩) (by simp) (.int .i32 k)).set (p := ⟨w.heap.size + 1, 512 + k, none⟩) (by simp) (.int .i32 k))
        go_wp2
        go_roundw
        case rel => exact ⟨k + 1, by omega, by go_num, hb2, hr2, hx2⟩
        case measure => simp [intOf] <;> omega
      · have d1 : decide ((128 : Int) ≤ (k : Int)) = true := by simp; omega
        have hb2 := hid ((((hb.out.set_ (256 + k) k).set_ k (-1)).set_ (512 + k) (-1)).congr (p1_hi (by omega) hlt))
        have hr2 := hid (((hr.out.far (p := ⟨w.heap.size + 1, 256 + k, none⟩) (by simp) (.int .i32 k)).far (p := ⟨w.heap.size + 1, k, none⟩) (by simp) (.int .i32 (-1))).far (p := ⟨w.heap.size + 1, 512 + k, none⟩) (by simp) (.int .i32 (-1)))
        have hx2 := hid (((hx.out.set (p := ⟨w.heap.size + 1, 256 + k, none⟩) (by simp) (.int .i32 k)).set (p := ⟨w.heap.size + 1, k, none⟩) (by simp) (.int .i32 (-1))).set (p := ⟨w.heap.size + 1, 512 + k, none⟩) (by simp) (.int .i32 (-1)))
        go_wp2
        go_roundw
        case rel => exact ⟨k + 1, by omega, by go_num, hb2, hr2, hx2⟩
        case measure => simp [intOf] <;> omega
    · obtain rfl : k = 256 := by omega
      have hb2 := hid (hb.out.congr p2_0)
      go_wp2_with fail
      go_loopw [4] (fun i wr => ∃ k : Nat, 128 ≤ k ∧ k ≤ 176 ∧ i = .int .i64 k ∧ Hid (Bi wr (w.heap.size + 1) 768 (p2 k)) ∧ Hid (Bi wr w.heap.size 768 (fun _ => 0)) ∧ Hid (Ext w wr)) (fun i _ => 256 - (intOf i).toNat)
      case atStart => exact ⟨128, by omega, by omega, rfl, hb2, hr, hx⟩
      case round =>
        clear hb hr hx hb2
        obtain ⟨k, hk0, hk, rfl, hb, hr, hx⟩ := hrel
        by_cases hlt : k ≤ 175
        · have c3 := (hb.out (512 + k) (by omega)).1
          have f3 := (hb.out (512 + k) (by omega)).2
          have lb : w.heap.size + 1 < wr.heap.size := World.block_lt_of_cell? wr _ c3
          have ew := i32_in ((k : Int) - 128) (by omega) (by omega)
          have ew2 := i32_in (1040 + ((k : Int) - 128)) (by omega) (by omega)
          have e2 : 1040 + ((k : Int) - 128) = (k : Int) - 128 + 1040 := by omega
          have hb2 := hid ((hb.out.set_ (512 + k) ((k : Int) - 128 + 1040)).congr (p2_step hk0 (by omega)))
          have hr2 := hid (hr.out.far (p := ⟨w.heap.size + 1, 512 + k, none⟩) (by simp) (.int .i32 ((k : Int) - 128 + 1040)))
          have hx2 := hid (hx.out.set (p := ⟨w.heap.size + 1, 512 + k, none⟩) (by simp) (.int .i32 ((k : Int) - 128 + 1040)))
          have hlt' : (k : Int) ≤ 175 := by omega
          rw [← e2] at hb2 hr2 hx2
          clear e2
          go_wp2
          go_roundw
          case rel => exact ⟨k + 1, by omega, by omega, by go_num, hb2, hr2, hx2⟩
          case measure => simp [intOf] <;> omega
        · obtain rfl : k = 176 := by omega
          have hb2 := hid (hb.out.congr p3_0)
          go_wp2_with fail
          go_loopw [5] (fun i wr => ∃ k : Nat, 224 ≤ k ∧ k ≤ 240 ∧ i = .int .i64 k ∧ Hid (Bi wr (w.heap.size + 1) 768 (p3 k)) ∧ Hid (Bi wr w.heap.size 768 (fun _ => 0)) ∧ Hid (Ext w wr)) (fun i _ => 256 - (intOf i).toNat)
          case atStart => exact ⟨224, by omega, by omega, rfl, hb2, hr, hx⟩
          case round =>
            clear hb hr hx hb2
            obtain ⟨k, hk0, hk, rfl, hb, hr, hx⟩ := hrel
            by_cases hlt : k ≤ 239
            · have c3 := (hb.out (512 + k) (by omega)).1
              have f3 := (hb.out (512 + k) (by omega)).2
              have lb : w.heap.size + 1 < wr.heap.size := World.block_lt_of_cell? wr _ c3
              have ew := i32_in ((k : Int) - 224) (by omega) (by omega)
              have ew2 := i32_in (1088 + ((k : Int) - 224)) (by omega) (by omega)
              have e2 : 1088 + ((k : Int) - 224) = (k : Int) - 224 + 1088 := by omega
              have hb2 := hid ((hb.out.set_ (512 + k) ((k : Int) - 224 + 1088)).congr (p3_step hk0 (by omega)))
              have hr2 := hid (hr.out.far (p := ⟨w.heap.size + 1, 512 + k, none⟩) (by simp) (.int .i32 ((k : Int) - 224 + 1088)))
              have hx2 := hid (hx.out.set (p := ⟨w.heap.size + 1, 512 + k, none⟩) (by simp) (.int .i32 ((k : Int) - 224 + 1088)))
              have hlt' : (k : Int) ≤ 239 := by omega
              rw [← e2] at hb2 hr2 hx2
              clear e2
              go_wp2
              go_roundw
              case rel => exact ⟨k + 1, by omega, by omega, by go_num, hb2, hr2, hx2⟩
              case measure => simp [intOf] <;> omega
            · obtain rfl : k = 240 := by omega
              have hb2 := hb.out.congr p3_all
              have hrg := hb2.range
              have hth : wr.there w.heap.size 0 (i32s pgAll 768).toArray.size := by
                rw [show (i32s pgAll 768).toArray.size = 768 by simp [i32s_len]]
                exact hr.out.there
              have hrs := World.rangeAt_setCells_same wr w.heap.size 0 (i32s pgAll 768).toArray.toList (by simpa using hth)
              have hin : (Try.prog.info? 59).map (·.size) = some (i32s pgAll 768).length := by rw [i32s_len]; exact info59
              have hin2 : (Try.prog.info? 59).map (·.size) = some (i32s pgAll 768).toArray.size := by rw [show (i32s pgAll 768).toArray.size = 768 by simp [i32s_len]]; exact info59
              have h1c := all_oneCell_toArray (i32s_one pgAll 768)
              have hld := run_loadVar_mid (P := Try.prog) (wr.setCells w.heap.size 0 (i32s pgAll 768).toArray.toList) w.heap.size 0 59 (i32s pgAll 768) _ (by simpa using hrs) Try.underlying59 rfl hin
              have hxf := hid (Ext.sets w.heap.size (Nat.le_refl _) (i32s pgAll 768).toArray.toList 0 wr hx.out)
              have hth := hid hth
              have hrg := hid hrg
              have hin := hid hin
              have hin2 := hid hin2
              have h1c := hid h1c
              have hld := hid hld
              clear hrs hb2 hb hr hx
              go_wp2_with (first | (refine wpList_load_mid rfl 59 (.tmp 1) rfl (w.heap.size + 1) 0 rfl (i32s pgAll 768) _ hrg.out Try.underlying59 rfl hin.out ?_) | (refine wpList_store_mid rfl 59 (.tmp 0) (.tmp 48) rfl w.heap.size 0 (i32s pgAll 768).toArray rfl rfl hth.out hin2.out h1c.out ?_))
              refine bodyPost_ret (v := .agg (i32s pgAll 768).toArray) ?_ rfl ⟨rfl, hxf.out⟩
              rw [results_cell rfl]
              simp [asAddr, Result.andThen]
              rw [hld.out]
end Go.Proofs.Ytlhnabkfacmmnaa
