/-
  Entries of the program and of the reference.
-/
import Derived.Test.YtcgjhloiokpicaaMv
namespace Go.Proofs.Ytcgjhloiokpicaa
open Go.RowKit Go.MuLone Go.Shelf
set_option linter.unusedVariables false
set_option linter.unusedSimpArgs false
def lenE (x : En) : Int := if x.kind = 0 then -1 else x.s.size
def ecells (x : En) : List Value := [.int .i64 x.block, .int .i64 x.blocks, .int .i64 (lenE x)]
def ecs : List En → List Value
  | [] => []
  | x :: l => ecells x ++ ecs l
theorem ecs_append : ∀ a b : List En, ecs (a ++ b) = ecs a ++ ecs b
  | [], b => rfl
  | x :: a, b => by rw [List.cons_append, ecs, ecs, ecs_append a b, List.append_assoc]
theorem ecs_succ {l : List En} {k : Nat} (h : k < l.length) : ecs (l.take (k + 1)) = ecs (l.take k) ++ ecells (eth l k) := by
  rw [List.take_succ_eq_append_getElem h, ecs_append, eth_get h]
  simp [ecs]
theorem info3i : (Try.prog.info? 90).map (fun i => (i.zero, i.size, i.bytes)) = some (some (.agg #[.int .i64 0, .int .i64 0, .int .i64 0]), 3, 24) := by kernel_rfl
set_option maxRecDepth 100000 in
set_option maxHeartbeats 4000000 in
theorem Entries_any (size : Int) (g : Nat) (v : Value) (l : List En) (w : World) (h : MA 0 w g size v l) (hll : l.length ≤ 5000) : Calls Try.prog 16 #[.pointer (some ⟨g, 0, none⟩)] w fun e w' => ∃ v2, e = .returned v2 ∧ w'.ownsRow w.heap.size 90 3 v2 l.length (ecs l) ∧ MA 0 w' g size v l ∧ MT g v v w w' := by
  obtain ⟨i0, hi0, hz0, hz1, hz2⟩ := info_parts info3i
  have c0 := h.c0
  have f0 := h.free 0
  have h1 := hid (h.lock 1)
  have m0 := hid ((MT.refl g v w).set 0 (.int .i32 1))
  obtain ⟨A, c, rfl, hr⟩ := h1.out.rd
  have hmx := Rd.max hr
  have c3 := h1.out.c3
  replace hr := hid hr
  go_enter_defers Try.func16, Try.ntmps16
  go_wp2_with (go_at_call 40; refine (lock_free muLib ⟨g, 0, none⟩ _ c0 f0).mono ?_; rintro e w' ⟨rfl, rfl⟩)
  have hsz : Hid ((w.setCell ⟨g, 0, none⟩ (.int .i32 1)).heap.size = w.heap.size) := by simp [Hid]
  have lg := h1.out.lt
  generalize (w.setCell ⟨g, 0, none⟩ (.int .i32 1)) = w1 at *
  go_loopw [3, 21] (fun o i wr => ∃ k : Nat, k ≤ l.length ∧ i = .int .i64 k ∧ Hid (wr.ownsRow w1.heap.size 90 3 o k (ecs (l.take k))) ∧ Hid (Ext w1 wr)) (fun _ i _ => l.length - (intOf i).toNat)
  case atStart => exact ⟨0, by omega, rfl, World.ownsRow_nil _ _ _ _, Ext.refl _⟩
  case round =>
    obtain ⟨k, hk, rfl, hown, hx⟩ := hrel
    obtain ⟨Ao, co, rfl, -⟩ := own_form hown.out
    by_cases hlt : k < l.length
    · obtain ⟨ad, rfl, x0, x1, x2, x3⟩ := (hr.out.ext hx.out).at_ hlt
      have hec := hid (ecs_succ hlt)
      unfold ecells at hec
      have hln : Hid (lenE (eth l k) = if (eth l k).kind = 0 then -1 else ((eth l k).s.size : Int)) := rfl
      generalize lenE (eth l k) = ln at *
      generalize (eth l k).block = z0 at *
      generalize (eth l k).blocks = z1 at *
      generalize (eth l k).kind = z2 at *
      generalize (eth l k).s = z3 at *
      have hx2 : Hid (∀ o, Ext w1 (wr.alloc o)) := fun o => hx.out.alloc_right o
      have hown1 : Hid (∀ o, (wr.alloc o).ownsRow w1.heap.size 90 3 (.slice Ao k co) k (ecs (l.take k))) := fun o => hown.out.alloc o
      by_cases q : z2 = 0
      · have d : (z2 == 0) = true := by rw [q]; rfl
        have hln2 : ln = -1 := by rw [hln.out, if_pos q]
        subst hln2
        clear hln
        go_wp2_with (at_builtin; refine wpList_push _ rfl _ _ 36 rfl w1.heap.size 90 i0 _ 3 24 Try.underlying36 hi0 hz0 hz1 hz2 rfl (by decide) _ _ _ rfl (hown1.out _) [.int .i64 z0, .int .i64 z1, .int .i64 (-1)] (by simp [Act.eval]) rfl (by simp [Value.oneCell']) (by unfold maxLen; omega) (by omega) (hx2.out _).size ?_)
        intro g2 d2 w2 own2 hg2 _
        have hx3 : Hid (Ext w1 w2) := ext_push (hx2.out _) (hown1.out _) hg2
        rw [← hec.out] at own2
        replace own2 := hid own2
        clear hg2 hown1 hx2 hec
        go_wp2_with fail
        go_roundw
        case rel => exact ⟨k + 1, by omega, by go_num, own2, hx3⟩
        case measure => simp [intOf]; omega
      · have d : (z2 == 0) = false := by rw [beq_eq_false_iff_ne]; exact q
        have hln2 : ln = (z3.size : Int) := by rw [hln.out, if_neg q]
        subst hln2
        clear hln
        go_wp2_with (at_builtin; refine wpList_push _ rfl _ _ 36 rfl w1.heap.size 90 i0 _ 3 24 Try.underlying36 hi0 hz0 hz1 hz2 rfl (by decide) _ _ _ rfl (hown1.out _) [.int .i64 z0, .int .i64 z1, .int .i64 (z3.size : Int)] (by simp [Act.eval]) rfl (by simp [Value.oneCell']) (by unfold maxLen; omega) (by omega) (hx2.out _).size ?_)
        intro g2 d2 w2 own2 hg2 _
        have hx3 : Hid (Ext w1 w2) := ext_push (hx2.out _) (hown1.out _) hg2
        rw [← hec.out] at own2
        replace own2 := hid own2
        clear hg2 hown1 hx2 hec
        go_wp2_with fail
        go_roundw
        case rel => exact ⟨k + 1, by omega, by go_num, own2, hx3⟩
        case measure => simp [intOf]; omega
    · obtain rfl : k = l.length := by omega
      replace h1 := hid (h1.out.ext hx.out)
      replace m0 := hid (m0.out.right hx.out)
      rw [List.take_length] at hown
      have hown2 : Hid (wr.ownsRow w.heap.size 90 3 (.slice Ao l.length co) l.length (ecs l)) := by rw [← hsz.out]; exact hown.out
      have k0 := hid (h1.out.c0)
      have kf := hid (h1.out.free 0)
      have hgl := hid h.lt
      go_wp2
      refine leaves_cons (f := 41) (args := #[.pointer (some ⟨g, 0, none⟩)]) (by simp) (by simp [go_sem]) ?_
      refine (unlock_deferred muLib ⟨g, 0, none⟩ .returning _ k0.out kf.out).mono ?_
      rintro e u' w'' ⟨rfl, rfl, rfl⟩
      exact ⟨_, results_tmp rfl _ _ _, _, rfl, own_set hown2.out (fun e => by have := own_freshB hown2.out _ e; have := hgl.out; omega) 0 _, h1.out.lock 0, m0.out.set 0 _⟩
end Go.Proofs.Ytcgjhloiokpicaa
