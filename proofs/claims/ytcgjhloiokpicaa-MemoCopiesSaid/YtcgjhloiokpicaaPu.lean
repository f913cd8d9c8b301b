/-
  used: a list of blocks in new memory.
-/
import Derived.Test.YtcgjhloiokpicaaPr
namespace Go.Proofs.Ytcgjhloiokpicaa
open Go.RowKit Go.Shelf
set_option linter.unusedVariables false
set_option linter.unusedSimpArgs false
theorem infoI : (Try.prog.info? 3).map (fun i => (i.zero, i.size, i.bytes)) = some (some (.int .i64 0), 1, 8) := by kernel_rfl
/-- Some list of numbers in new memory. -/
def SomeU (w : World) (e : Ending) (w' : World) : Prop := ∃ (A : Option Addr) (n c : Nat) (u : List Int), e = .returned (.slice A n c) ∧ w'.ownsRow w.heap.size 3 1 (.slice A n c) n (ints u) ∧ n ≤ 5000 ∧ Ext w w'
theorem own_two (w : World) (a b : Int) : (w.alloc (.cells #[.int .i64 a, .int .i64 b] 3)).ownsRow w.heap.size 3 1 (.slice (some ⟨w.heap.size, 0, none⟩) 2 2) 2 (ints [a, b]) :=
  ⟨rfl, .inr ⟨w.heap.size, 2, _, rfl, Nat.le_refl _, heap_alloc_new w _, Nat.le_refl _, by decide, rfl, rfl⟩⟩
set_option maxRecDepth 100000 in
set_option maxHeartbeats 4000000 in
theorem used_any (size : Int) (r : Nat) (v : Value) (l : List En) (x : Ac) (w : World) (h : RA w r size v l) (hG : Good size l) (hx : okA x) :
    Calls Try.prog 49 #[.pointer (some ⟨r, 0, none⟩), .agg #[.int .i64 x.op, .int .i64 x.a, .int .i64 x.b, .int .i64 x.c, .string x.s, .string x.t]] w (SomeU w) := by
  obtain ⟨i0, hi0, hz0, hz1, hz2⟩ := info_parts infoI
  have hE := hid (fun w (h : RA w r size v l) => rEntries_any size r v l w h hG)
  have hll := (good_facts hG).1
  replace h := hid h
  replace hx := hid hx
  clear hG
  obtain ⟨op, a, b, c, s, t⟩ := x
  dsimp only at *
  have q1 : (w.alloc (.cells #[.int .i64 op, .int .i64 a, .int .i64 b, .int .i64 c, .string s, .string t] 45)).cell? ⟨w.heap.size, 1, none⟩ = some (.int .i64 a) := by rw [Lib.cell_of_heap (heap_alloc_new w _)]; rfl
  have q2 : (w.alloc (.cells #[.int .i64 op, .int .i64 a, .int .i64 b, .int .i64 c, .string s, .string t] 45)).cell? ⟨w.heap.size, 2, none⟩ = some (.int .i64 b) := by rw [Lib.cell_of_heap (heap_alloc_new w _)]; rfl
  have q3 : (w.alloc (.cells #[.int .i64 op, .int .i64 a, .int .i64 b, .int .i64 c, .string s, .string t] 45)).cell? ⟨w.heap.size, 3, none⟩ = some (.int .i64 c) := by rw [Lib.cell_of_heap (heap_alloc_new w _)]; rfl
  have hx1 := hid ((Ext.refl w).alloc_right (.cells #[.int .i64 op, .int .i64 a, .int .i64 b, .int .i64 c, .string s, .string t] 45))
  go_enter Try.func49, Try.ntmps49
  go_upto_region 1 with fail
  generalize w.alloc (.cells #[.int .i64 op, .int .i64 a, .int .i64 b, .int .i64 c, .string s, .string t] 45) = w1 at *
  have hwp : w.heap.size ≤ w.heap.size := Nat.le_refl _
  generalize hp : w.heap.size = p at *
  replace hp := hid hp
  have lp := World.block_lt_of_cell? w1 _ q1
  dsimp only at lp
  by_cases ha : a = 0
  · subst ha
    clear hE h hx
    go_wp2
    go_ret
    exact ⟨_, 2, 2, [b, c], rfl, own_baseK (own_two w1 b c) (hx1.out.size), by decide, hx1.out.alloc_right _⟩
  · have d : (a == 0) = false := by rw [beq_eq_false_iff_ne]; exact ha
    go_wp2_with fail
    refine (hE.out _ (h.out.ext hx1.out)).mono ?_
    rintro e w2 ⟨v2, rfl, o2, hx12⟩
    have hx2 := hid (hx1.out.trans hx12)
    have q12 := hx12.cell q1
    obtain ⟨A2, c2, rfl, -⟩ := own_form o2
    have hT : Hid (RdT w2 A2 l.length c2 l) := Rd.of_own o2
    have hmx := Rd.max hT.out
    clear o2 hx1 hE h q1 q2 q3 hx12 lp
    go_wp2_with fail
    go_loopw [5, 7] (fun o i wr => ∃ (k m : Nat) (u : List Int), k ≤ l.length ∧ m ≤ k ∧ i = .int .i64 k ∧ Hid (wr.ownsRow w2.heap.size 3 1 o m (ints u)) ∧ Hid (Ext w2 wr)) (fun _ i _ => l.length - (intOf i).toNat)
    case atStart => exact ⟨0, 0, [], by omega, by omega, rfl, World.ownsRow_nil _ _ _ _, Ext.refl _⟩
    case round =>
      obtain ⟨k, m, u, hk, hm, rfl, hown, hx4⟩ := hrel
      obtain ⟨Ao, co, rfl, -⟩ := own_form hown.out
      by_cases hlt : k < l.length
      · obtain ⟨ad, rfl, y0, y1, y2⟩ := (hT.out.ext hx4.out).at_ hlt
        have q13 := hx4.out.cell q12
        have hkk : (k : Int) < (l.length : Int) := by omega
        have lp3 := World.block_lt_of_cell? wr _ q13
        dsimp only at lp3
        have la := World.block_lt_of_cell? wr _ y0
        generalize (eth l k).block = z0 at *
        generalize (eth l k).blocks = z1 at *
        generalize lenE (eth l k) = z2 at *
        by_cases hz : z2 < 0
        · have dz : ¬ (0 : Int) ≤ z2 := by omega
          go_upto_region 8 with fail
          go_quiet (fail)
          go_wp2
          go_roundw
          case rel => exact ⟨k + 1, m, u, by omega, by omega, by go_num, hown, hx4.out.drewN_right _⟩
          case measure => simp [intOf]; omega
        · have dz : (0 : Int) ≤ z2 := by omega
          go_upto_region 8 with fail
          go_quiet (fail)
          generalize (z0.tmod a == 0) = rb at *
          replace hx4 : Hid (Ext w2 (wr.drewN nq)) := hx4.out.drewN_right _
          replace hown : Hid ((wr.drewN nq).ownsRow w2.heap.size 3 1 (.slice Ao m co) m (ints u)) := (Ext.drewN wr nq).own hown.out
          replace y0 : (wr.drewN nq).cell? (ad.add (k * 3)) = some (.int .i64 z0) := y0
          clear q13 lp3 la y1 y2 dz hz
          generalize wr.drewN nq = w3 at *
          have la := World.block_lt_of_cell? w3 _ y0
          cases rb with
          | false =>
            go_wp2
            go_roundw
            case rel => exact ⟨k + 1, m, u, by omega, by omega, by go_num, hown, hx4⟩
            case measure => simp [intOf]; omega
          | true =>
            have hxs := hx4.out.size
            go_wp2_with (at_builtin; refine wpList_push _ rfl _ _ 60 rfl w2.heap.size 3 i0 _ 1 8 Try.underlying60 hi0 hz0 hz1 hz2 rfl (by decide) _ _ _ rfl hown.out [.int .i64 z0] rfl rfl (by simp [Value.oneCell']) (by unfold maxLen; omega) (by omega) hxs ?_)
            intro g2 d2 w4 own2 hg2 _
            have hx6 : Hid (Ext w2 w4) := ext_push hx4.out hown.out hg2
            replace own2 : Hid (w4.ownsRow w2.heap.size 3 1 (.slice (some ⟨g2, 0, none⟩) (m + 1) d2) (m + 1) (ints (u ++ [z0]))) := by rw [ints_append]; exact own2
            clear hg2
            go_wp2
            go_roundw
            case rel => exact ⟨k + 1, m + 1, u ++ [z0], by omega, by omega, by go_num, own2, hx6⟩
            case measure => simp [intOf]; omega
      · obtain rfl : k = l.length := by omega
        have hkn : ¬ (l.length : Int) < (l.length : Int) := by omega
        go_wp2
        go_ret
        exact ⟨Ao, m, co, u, rfl, own_baseK hown.out hx2.out.size, by omega, hx2.out.trans hx4.out⟩
end Go.Proofs.Ytcgjhloiokpicaa
