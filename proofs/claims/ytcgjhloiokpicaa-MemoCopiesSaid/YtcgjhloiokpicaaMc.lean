/-
  New and Put; what 'known' of the statements asks.
-/
import Derived.Test.YtcgjhloiokpicaaMb
namespace Go.Proofs.Ytcgjhloiokpicaa
open Go.RowKit Go.MuLone
set_option linter.unusedVariables false
set_option linter.unusedSimpArgs false
def PutB (size : Int) (l : List En) (s : ByteArray) : Int := if 2048 < s.size then 0 else if putO l (needS size s.size) then putB l (needS size s.size) else 0
def PutE (size : Int) (l : List En) (s : ByteArray) : Int := if 2048 < s.size then 3 else if putO l (needS size s.size) then 0 else 3
def PutL (size : Int) (l : List En) (s : ByteArray) : List En := if 2048 < s.size then l else putL l (needS size s.size) s
set_option maxRecDepth 100000 in
set_option maxHeartbeats 4000000 in
theorem New_any (n : Int) (w : World) : Calls Try.prog 19 #[.int .i64 n] w fun e w' => (szB n = false ∧ e = .returned (.tuple #[.pointer none, .int .i64 1]) ∧ w = w') ∨ (szB n = true ∧ e = .returned (.tuple #[.pointer (some ⟨w.heap.size, 0, none⟩), .int .i64 0]) ∧ MA 0 w' w.heap.size n (.slice none 0 0) [] ∧ Ext w w') := by
  cases h1 : szB n with
  | false =>
    have h1 := hid h1
    go_enter Try.func19, Try.ntmps19
    go_wp2_with fail
    refine (isSize_any n _).mono ?_
    rintro e w' ⟨rfl, rfl⟩
    rw [h1.out]
    go_wp2
    go_ret2
    exact .inl ⟨trivial, rfl, rfl⟩
  | true =>
    have h1 := hid h1
    go_enter Try.func19, Try.ntmps19
    go_wp2_with fail
    refine (isSize_any n _).mono ?_
    rintro e w' ⟨rfl, rfl⟩
    rw [h1.out]
    go_wp2
    go_ret2
    exact .inr ⟨trivial, rfl, MA.new w n, (Ext.refl w).alloc_right _⟩
set_option maxRecDepth 100000 in
set_option maxHeartbeats 4000000 in
theorem Put_nil (s : ByteArray) (w : World) : Calls Try.prog 23 #[.pointer none, .string s] w (Give (.tuple #[.int .i64 0, .int .i64 9]) w) := by
  go_enter_defers Try.func23, Try.ntmps23
  go_wp2
  exact ⟨_, results_tmp2 rfl _ _ _, rfl, Ext.refl _⟩
set_option maxRecDepth 100000 in
set_option maxHeartbeats 4000000 in
theorem Put_of (size : Int) (g : Nat) (v : Value) (l : List En) (s : ByteArray) (w : World) (h : MA 0 w g size v l)
    (hP : s.size ≤ 2048 → ∀ w, MA 1 w g size v l → Calls Try.prog 56 #[.pointer (some ⟨g, 0, none⟩), .string s] w fun e w' => e = .returned (.tuple #[.int .i64 (putB l (needS size s.size)), .bool (putO l (needS size s.size))]) ∧ ∃ v', MA 1 w' g size v' (putL l (needS size s.size) s) ∧ MT g v v' w w') :
    Calls Try.prog 23 #[.pointer (some ⟨g, 0, none⟩), .string s] w fun e w' => e = .returned (.tuple #[.int .i64 (PutB size l s), .int .i64 (PutE size l s)]) ∧ ∃ v', MA 0 w' g size v' (PutL size l s) ∧ MT g v v' w w' := by
  have c0 := h.c0
  have f0 := h.free 0
  have h1 := hid (h.lock 1)
  have m0 := hid ((MT.refl g v w).set 0 (.int .i32 1))
  by_cases hz : 2048 < s.size
  · have r1 : Hid (PutB size l s = 0 ∧ PutE size l s = 3 ∧ PutL size l s = l) := by exact ⟨if_pos hz, if_pos hz, if_pos hz⟩
    have dz : (2048 : Int) < (s.size : Int) := by omega
    clear hP hz
    go_enter_defers Try.func23, Try.ntmps23
    go_wp2_with (go_at_call 40; refine (lock_free muLib ⟨g, 0, none⟩ _ c0 f0).mono ?_; rintro e w' ⟨rfl, rfl⟩)
    have k0 := hid (h1.out.c0)
    have kf := hid (h1.out.free 0)
    refine leaves_cons (f := 41) (args := #[.pointer (some ⟨g, 0, none⟩)]) (by simp) (by simp [go_sem]) ?_
    refine (unlock_deferred muLib ⟨g, 0, none⟩ .returning _ k0.out kf.out).mono ?_
    rintro e u' w'' ⟨rfl, rfl, rfl⟩
    exact ⟨_, results_tmp2 rfl _ _ _, by rw [r1.out.1, r1.out.2.1]; rfl, v, by rw [r1.out.2.2]; exact h1.out.lock 0, m0.out.set 0 _⟩
  · have dz : ¬ (2048 : Int) < (s.size : Int) := by omega
    replace hP := hid (hP (by omega))
    have r1 : Hid (PutB size l s = (if putO l (needS size s.size) then putB l (needS size s.size) else 0) ∧ PutE size l s = (if putO l (needS size s.size) then 0 else 3) ∧ PutL size l s = putL l (needS size s.size) s) := by exact ⟨if_neg hz, if_neg hz, if_neg hz⟩
    clear hz
    generalize putB l (needS size s.size) = B at *
    generalize putO l (needS size s.size) = O at *
    generalize putL l (needS size s.size) s = L at *
    go_enter_defers Try.func23, Try.ntmps23
    go_wp2_with (go_at_call 40; refine (lock_free muLib ⟨g, 0, none⟩ _ c0 f0).mono ?_; rintro e w' ⟨rfl, rfl⟩)
    refine (hP.out _ h1.out).mono ?_
    rintro e w2 ⟨rfl, v', h2, m2⟩
    have h3 := hid (h2.lock 0)
    have k0 := hid h2.c0
    have kf := hid (h2.free 0)
    have m3 := hid ((m0.out.trans m2).set 0 (.int .i32 0))
    clear h2 m2 m0 h1 hP c0 f0 h
    cases O with
    | true =>
      go_wp2
      refine leaves_cons (f := 41) (args := #[.pointer (some ⟨g, 0, none⟩)]) (by simp) (by simp [go_sem]) ?_
      refine (unlock_deferred muLib ⟨g, 0, none⟩ .returning _ k0.out kf.out).mono ?_
      rintro e u' w'' ⟨rfl, rfl, rfl⟩
      exact ⟨_, results_tmp2 rfl _ _ _, by rw [r1.out.1, r1.out.2.1]; rfl, v', by rw [r1.out.2.2]; exact h3.out, m3.out⟩
    | false =>
      go_wp2
      refine leaves_cons (f := 41) (args := #[.pointer (some ⟨g, 0, none⟩)]) (by simp) (by simp [go_sem]) ?_
      refine (unlock_deferred muLib ⟨g, 0, none⟩ .returning _ k0.out kf.out).mono ?_
      rintro e u' w'' ⟨rfl, rfl, rfl⟩
      exact ⟨_, results_tmp2 rfl _ _ _, by rw [r1.out.1, r1.out.2.1]; rfl, v', by rw [r1.out.2.2]; exact h3.out, m3.out⟩
/-! ### known -/
def aB : ByteArray := ⟨#[97]⟩
theorem MT.fresh {g : Nat} {v v' : Value} {u w w' : World} (h : MT g v v' w w') (hx : Ext u w) (hg : u.heap.size ≤ g) (hv : ∀ k, v.ownBlock = some k → u.heap.size ≤ k) : Ext u w' ∧ ∀ k, v'.ownBlock = some k → u.heap.size ≤ k := by
  have hs := hx.size
  refine ⟨⟨h.1.symm.trans hx.os, h.2.1.symm.trans hx.tape, h.2.2.1.symm.trans hx.output, Nat.le_trans hs h.2.2.2.1, fun k hk => (h.2.2.2.2.1 k (by omega) (by omega) (fun e => by have := hv k e; omega)).trans (hx.block hk)⟩, fun k hk => ?_⟩
  rcases h.2.2.2.2.2 with e | e
  · exact hv k (e ▸ hk)
  · have := e k hk
    omega
set_option maxRecDepth 100000 in
set_option maxHeartbeats 4000000 in
theorem known_any (w : World) : Calls Try.prog 11 #[] w (Give (.bool true) w) := by
  have hput : Hid (∀ g w, MA 0 w g 16 (.slice none 0 0) [] → Calls Try.prog 23 #[.pointer (some ⟨g, 0, none⟩), .string aB] w fun e w' => e = .returned (.tuple #[.int .i64 1, .int .i64 0]) ∧ ∃ v', MA 0 w' g 16 v' [⟨1, 1, 1, aB⟩] ∧ MT g (.slice none 0 0) v' w w') := by
    intro g w h
    refine (Put_of 16 g _ [] aB w h (fun hz w h => put_none 1 16 g _ [] aB w h (by decide) (by decide) (by decide) (fun k hk => absurd hk (by simp)) (fun k hk => absurd hk (by simp)) (by simp) (fun k hk => absurd hk (by simp)) (by decide))).mono ?_
    rintro e w' ⟨rfl, v', h1, h2⟩
    exact ⟨rfl, v', h1, h2⟩
  have hget : Hid (∀ g v w, MA 0 w g 16 v [⟨1, 1, 1, aB⟩] → Calls Try.prog 26 #[.pointer (some ⟨g, 0, none⟩), .int .i64 1] w fun e w' => e = .returned (.tuple #[.string aB, .int .i64 0]) ∧ ∃ v', MT g v v' w w') := by
    intro g v w h
    refine (Get_any 16 g v _ 1 w h).mono ?_
    rintro e w' ⟨rfl, v', h1, h2⟩
    exact ⟨rfl, v', h2⟩
  have ha : Hid (aB.toList = [97]) := by unfold Hid; kernel_rfl
  have hN4 := hid (fun w => Needs_any 16 4 w)
  have hN5 := hid (fun w => Needs_any 16 5 w)
  have hnew := hid (fun w => New_any 16 w)
  go_enter Try.func11, Try.ntmps11
  go_wp2_with fail
  refine (hN4.out _).mono ?_
  rintro e w' ⟨rfl, rfl⟩
  rw [show ndV 16 4 = 1 by decide, show ndE 16 4 = 0 by decide]
  go_wp2_with fail
  refine (hN5.out _).mono ?_
  rintro e w' ⟨rfl, rfl⟩
  rw [show ndV 16 5 = 2 by decide, show ndE 16 5 = 0 by decide]
  go_wp2_with fail
  refine (hnew.out _).mono ?_
  rintro e w1 (⟨h, _⟩ | ⟨_, rfl, hm, hx⟩)
  · cases h
  replace hx := hid hx
  go_wp2_with fail
  refine (hput.out _ _ hm).mono ?_
  rintro e w2 ⟨rfl, v', hm2, ht2⟩
  replace ht2 := hid ht2
  go_wp2_with fail
  refine (hget.out _ _ _ hm2).mono ?_
  rintro e w3 ⟨rfl, v'', ht3⟩
  replace ht3 := hid ht3
  go_wp2
  all_goals
    go_ret
    have h1 := ht2.out.fresh hx.out (Nat.le_refl _) (fun k e => by cases e)
    exact ⟨rfl, (ht3.out.fresh h1.1 (Nat.le_refl _) h1.2).1⟩
end Go.Proofs.Ytcgjhloiokpicaa
