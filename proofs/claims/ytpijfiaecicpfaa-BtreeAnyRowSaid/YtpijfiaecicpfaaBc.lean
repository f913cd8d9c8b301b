/-
  New, Put, all entries of an index, Len.
-/
import Derived.Test.YtpijfiaecicpfaaBb
import Derived.Test.YtpijfiaecicpfaaBd
import Derived.Test.YtpijfiaecicpfaaLk
namespace Go.Proofs.Ytpijfiaecicpfaa
open Go.RowKit Go.Shelf Go.MuLone
set_option linter.unusedVariables false
set_option linter.unusedSimpArgs false
theorem tree_set0 {w : World} {t : Nat} {a b c d : Value} (h : w.heap[t]? = some (.cells #[a, b, c, d] 91 (0, 0))) (u : Value) : (w.setCell ⟨t, 0, none⟩ u).heap[t]? = some (.cells #[u, b, c, d] 91 (0, 0)) := by
  simp [World.setCell, Array.getElem?_modify, h]
section
variable {lk lk' : Int} {w w' : World} {t h p : Nat} {L : List Te} {T : BT} {fT : Nat → Nat}
theorem TreeAt.ft (H : TreeAt lk w t L h p T fT) : fT t = 0 := by have := H.nd t; rw [one_self] at this; omega
theorem TreeAt.lock (H : TreeAt lk w t L h p T fT) (lk' : Int) : TreeAt lk' (w.setCell ⟨t, 0, none⟩ (.int .i32 lk')) t L h p T fT := by
  obtain ⟨q, hq⟩ := H.ht
  exact ⟨⟨q, tree_set0 hq _⟩, H.tn.setc H.ft, H.nd, H.sh, H.l4, H.l1, H.fl, H.sr, H.ok, H.le⟩
theorem TreeAt.c0 (H : TreeAt lk w t L h p T fT) : w.cell? ⟨t, 0, none⟩ = some (.int .i32 lk) := by obtain ⟨q, hq⟩ := H.ht; rw [Lib.cell_of_heap hq]; rfl
theorem TreeAt.c2 (H : TreeAt lk w t L h p T fT) : w.cell? ⟨t, 2, none⟩ = some (.pointer (some ⟨p, 0, none⟩)) := by obtain ⟨q, hq⟩ := H.ht; rw [Lib.cell_of_heap hq]; rfl
theorem TreeAt.free (H : TreeAt lk w t L h p T fT) (k : Nat) : w.frozen? ⟨t, k, none⟩ = false := by obtain ⟨q, hq⟩ := H.ht; exact Lib.frozen_of_heap hq k
theorem TreeAt.lt (H : TreeAt lk w t L h p T fT) : t < w.heap.size := by obtain ⟨q, hq⟩ := H.ht; exact (Array.getElem?_eq_some_iff.1 hq).1
theorem TreeTurned.unlock {L' : List Te} (H : TreeTurned 1 (w.setCell ⟨t, 0, none⟩ (.int .i32 1)) w' t fT L') : TreeTurned 0 w (w'.setCell ⟨t, 0, none⟩ (.int .i32 0)) t fT L' := by
  obtain ⟨h, p, T, f', H1, H2, H3⟩ := H
  refine ⟨h, p, T, f', H1.lock 0, fun a ha => H2 a (by simpa using ha), ?_⟩
  refine ((fr_set (b := t) (j := 0) (u := .int .i32 1)).mono (fun k _ h0 => ?_)).trans (H3.trans (fr_set (b := t)) (fun k _ h0 => ?_)) (fun k _ h0 => h0)
  · have h1 : one1 t k + fT k = 0 := h0; omega
  · have h1 : one1 t k + fT k = 0 := h0; omega
theorem Ext.of_FR {f : Nat → Nat} (h : FR f w w') (h0 : ∀ a, a < w.heap.size → f a = 0) : Ext w w' := ⟨h.1.symm, h.2.1.symm, h.2.2.1.symm, h.2.2.2.1, fun k hk => h.2.2.2.2 k hk (h0 k hk)⟩
/-- Locked, read, and unlocked again: nothing has turned. -/
theorem TreeAt.back (H : TreeAt 0 w t L h p T fT) {u : Int} (hx : Ext (w.setCell ⟨t, 0, none⟩ (.int .i32 u)) w') : Ext w (w'.setCell ⟨t, 0, none⟩ (.int .i32 0)) := by
  obtain ⟨q, hq⟩ := H.ht
  have hb := (hx.block (k := t) (by simpa using H.lt)).trans (tree_set0 hq (.int .i32 u))
  refine ⟨hx.os, hx.tape, hx.output, ?_, fun k hk => ?_⟩
  · have := hx.size
    simp at this
    simpa using this
  · by_cases e : k = t
    · subst e
      rw [tree_set0 hb, hq]
    · have hne : t ≠ k := fun h => e h.symm
      rw [show (w'.setCell ⟨t, 0, none⟩ (.int .i32 0)).heap[k]? = w'.heap[k]? by simp [World.setCell, Array.getElem?_modify, hne], hx.block (k := k) (by simpa using hk)]
      simp [World.setCell, Array.getElem?_modify, hne]
end
set_option maxRecDepth 100000 in
set_option maxHeartbeats 4000000 in
theorem New_any (w : World) : Calls Try.prog 25 #[] w fun e w' => ∃ t, e = .returned (.pointer (some ⟨t, 0, none⟩)) ∧ w.heap.size ≤ t ∧ Ext w w' ∧ ∃ p fT, TreeAt 0 w' t [] 0 p (.nd [] []) fT ∧ ∀ a, a < w.heap.size → fT a = 0 := by
  have hx := hid (((Ext.refl w).alloc_right (.cells #[.slice none 0 0, .slice none 0 0] 105)).alloc_right (.cells #[.int .i32 0, .int .u32 0, .pointer (some ⟨w.heap.size, 0, none⟩), .int .i64 0] 91))
  have hp0 := heap_alloc_new w (.cells #[.slice none 0 0, .slice none 0 0] 105)
  have ht := heap_alloc_new (w.alloc (.cells #[.slice none 0 0, .slice none 0 0] 105)) (.cells #[.int .i32 0, .int .u32 0, .pointer (some ⟨w.heap.size, 0, none⟩), .int .i64 0] 91)
  have hp := (((Ext.refl (w.alloc (.cells #[.slice none 0 0, .slice none 0 0] 105))).alloc_right (.cells #[.int .i32 0, .int .u32 0, .pointer (some ⟨w.heap.size, 0, none⟩), .int .i64 0] 91)).block (Array.getElem?_eq_some_iff.1 hp0).1).trans hp0
  rw [World.size_alloc] at ht
  have hT : Hid (TreeAt 0 ((w.alloc (.cells #[.slice none 0 0, .slice none 0 0] 105)).alloc (.cells #[.int .i32 0, .int .u32 0, .pointer (some ⟨w.heap.size, 0, none⟩), .int .i64 0] 91)) (w.heap.size + 1) [] 0 w.heap.size (.nd [] []) (one1 w.heap.size)) := by
    have hnil : ∀ a, ob (.slice none 0 0) a = 0 := fun a => if_neg (by intro e; cases e)
    refine ⟨⟨0, ht⟩, ⟨rfl, _, _, hp, World.ownsRow_nil _ _ _ _, World.ownsRow_nil _ _ _ _, fun a => by rw [hnil a]; rfl⟩, fun a => ?_, rfl, Nat.zero_le _, fun h => absurd rfl h, rfl, List.Pairwise.nil, fun e h => (by cases h), Nat.zero_le _⟩
    by_cases e : a = w.heap.size
    · rw [show one1 (w.heap.size + 1) a = 0 from if_neg (by omega), show one1 w.heap.size a = 1 from if_pos e]; omega
    · rw [show one1 w.heap.size a = 0 from if_neg e]; unfold one1; split <;> omega
  clear hp0 ht hp
  go_enter Try.func25, Try.ntmps25
  go_wp2
  go_ret
  exact ⟨w.heap.size + 1, rfl, by omega, hx.out, w.heap.size, one1 w.heap.size, hT.out, fun a ha => if_neg (by omega)⟩
set_option maxRecDepth 100000 in
set_option maxHeartbeats 4000000 in
theorem Put_nil (s : ByteArray) (n : Int) (w : World) : Calls Try.prog 27 #[.pointer none, .string s, .int .i64 n] w (Give (.int .i64 9) w) := by
  go_enter_defers Try.func27, Try.ntmps27
  go_wp2
  exact ⟨_, results_tmp rfl _ _ _, rfl, Ext.refl _⟩
set_option maxRecDepth 100000 in
set_option maxHeartbeats 4000000 in
theorem Put_any (t : Nat) (L : List Te) (h p : Nat) (T : BT) (fT : Nat → Nat) (s : ByteArray) (n : Int) (w : World) (H : TreeAt 0 w t L h p T fT) : Calls Try.prog 27 #[.pointer (some ⟨t, 0, none⟩), .string s, .int .i64 n] w fun e w' => e = .returned (.int .i64 (putEr L ⟨s, n⟩)) ∧ TreeTurned 0 w w' t fT (putLs L ⟨s, n⟩) := by
  have c0 := H.c0
  have f0 := H.free 0
  have h1 := hid (H.lock 1)
  have hP := hid (tput_any 1 t L h p T fT ⟨s, n⟩ _ (H.lock 1))
  generalize putEr L ⟨s, n⟩ = er at *
  generalize putLs L ⟨s, n⟩ = ls at *
  go_enter_defers Try.func27, Try.ntmps27
  go_wp2_with (go_at_call 59; refine (lock_free muLib ⟨t, 0, none⟩ _ c0 f0).mono ?_; rintro e w' ⟨rfl, rfl⟩)
  refine hP.out.mono ?_
  rintro e w2 ⟨rfl, h2⟩
  have h2' := hid h2
  obtain ⟨h', p', T', f', H1, -, -⟩ := h2
  have k0 := hid H1.c0
  have kf := hid (H1.free 0)
  clear H1
  go_wp2
  refine leaves_cons (f := 60) (args := #[.pointer (some ⟨t, 0, none⟩)]) (by simp) (by simp [go_sem]) ?_
  refine (unlock_deferred muLib ⟨t, 0, none⟩ .returning _ k0.out kf.out).mono ?_
  rintro e u' w'' ⟨rfl, rfl, rfl⟩
  exact ⟨_, results_tmp rfl _ _ _, rfl, h2'.out.unlock⟩
set_option maxRecDepth 100000 in
set_option maxHeartbeats 4000000 in
theorem entries_nil (w : World) : Calls Try.prog 65 #[.pointer none] w (Give (.slice none 0 0) w) := by
  go_enter_defers Try.func65, Try.ntmps65
  go_wp2
  exact ⟨_, results_tmp rfl _ _ _, rfl, Ext.refl _⟩
set_option maxRecDepth 100000 in
set_option maxHeartbeats 4000000 in
theorem entries_any (t : Nat) (L : List Te) (h p : Nat) (T : BT) (fT : Nat → Nat) (w : World) (H : TreeAt 0 w t L h p T fT) : Calls Try.prog 65 #[.pointer (some ⟨t, 0, none⟩)] w fun e w' => ∃ v, e = .returned v ∧ w'.ownsRow w.heap.size 71 2 v L.length (tents L) ∧ Ext w w' := by
  have c0 := H.c0
  have f0 := H.free 0
  have h1 := hid (H.lock 1)
  have hnil : ∀ a, ob (.slice none 0 0) a = 0 := fun a => if_neg (by intro e; cases e)
  have hA := hid (all_any h p T fT w.heap.size (.slice none 0 0) [] (w.setCell ⟨t, 0, none⟩ (.int .i32 1)) h1.out.tn h1.out.sh.w (fun a ha => by rw [hnil a] at ha; omega) (World.ownsRow_nil _ _ _ _) (by simp) (by rw [h1.out.fl]; have := h1.out.le; show 0 + L.length ≤ 100000; omega))
  rw [h1.out.fl, List.nil_append] at hA
  have hb := hid (fun w' (hx : Ext (w.setCell ⟨t, 0, none⟩ (.int .i32 1)) w') => H.back hx)
  have hlt := hid H.lt
  have c2 := h1.out.c2
  have l1 : t < (w.setCell ⟨t, 0, none⟩ (.int .i32 1)).heap.size := by simpa using H.lt
  replace hnil := hid hnil
  clear H
  go_enter_defers Try.func65, Try.ntmps65
  go_wp2_with (go_at_call 59; refine (lock_free muLib ⟨t, 0, none⟩ _ c0 f0).mono ?_; rintro e w' ⟨rfl, rfl⟩)
  generalize w.setCell ⟨t, 0, none⟩ (.int .i32 1) = w1 at *
  go_wp2_with fail
  refine hA.out.mono ?_
  rintro e w2 ⟨v, rfl, own2, gr2⟩
  have hx2 := Ext.of_FR gr2.1 (fun a _ => hnil.out a)
  have own2' := hid own2
  have k0 := hid (hx2.cell h1.out.c0)
  have kf : Hid (w2.frozen? ⟨t, 0, none⟩ = false) := (hx2.frozen (p := ⟨t, 0, none⟩) l1).trans (h1.out.free 0)
  have hx3 := hid (hb.out w2 hx2)
  clear own2 gr2 hx2
  go_wp2
  refine leaves_cons (f := 60) (args := #[.pointer (some ⟨t, 0, none⟩)]) (by simp) (by simp [go_sem]) ?_
  refine (unlock_deferred muLib ⟨t, 0, none⟩ .returning _ k0.out kf.out).mono ?_
  rintro e u' w'' ⟨rfl, rfl, rfl⟩
  exact ⟨_, results_tmp rfl _ _ _, _, rfl, own_set own2'.out (fun e => by have := own_freshB own2'.out _ e; have := hlt.out; omega) 0 _, hx3.out⟩
set_option maxRecDepth 100000 in
set_option maxHeartbeats 4000000 in
theorem Len_any (t : Nat) (L : List Te) (h p : Nat) (T : BT) (fT : Nat → Nat) (w : World) (H : TreeAt 0 w t L h p T fT) : Calls Try.prog 30 #[.pointer (some ⟨t, 0, none⟩)] w (Give (.int .i64 L.length) w) := by
  have hE := hid (entries_any t L h p T fT w H)
  clear H
  go_enter Try.func30, Try.ntmps30
  go_wp2_with fail
  refine hE.out.mono ?_
  rintro e w2 ⟨v, rfl, own2, hx⟩
  obtain ⟨A, c, rfl, -⟩ := own_form own2
  clear own2
  go_wp2
  go_ret
  exact ⟨rfl, hx⟩
set_option maxRecDepth 100000 in
set_option maxHeartbeats 4000000 in
theorem Len_nil (w : World) : Calls Try.prog 30 #[.pointer none] w (Give (.int .i64 0) w) := by
  go_enter Try.func30, Try.ntmps30
  go_wp2_with fail
  refine (entries_nil _).mono ?_
  rintro e w2 ⟨rfl, hx⟩
  go_wp2
  go_ret
  exact ⟨rfl, hx⟩
end Go.Proofs.Ytpijfiaecicpfaa
