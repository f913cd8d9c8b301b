/-
  Free, Size, Copy, Replace of the program.
-/
import Derived.Test.YtcgjhloiokpicaaMp
namespace Go.Proofs.Ytcgjhloiokpicaa
open Go.RowKit Go.MuLone Go.Shelf
set_option linter.unusedVariables false
set_option linter.unusedSimpArgs false
theorem find_kind {l : List En} {b : Int} (h : findN l b < l.length) : (eth l (findN l b)).kind = 1 ∧ (eth l (findN l b)).block = b := by
  have h2 : hitE b (l[findN l b]) = true := List.findIdx_getElem (w := h)
  rw [← eth_get h] at h2
  simp only [hitE, Bool.and_eq_true, beq_iff_eq] at h2
  exact ⟨h2.2, h2.1⟩
def FreeL (l : List En) (b : Int) : List En := if findN l b < l.length then dropL l (findN l b) else l
theorem find_cases (l : List En) (b : Int) : (findI l b = -1 ∧ getE l b = 4 ∧ ¬ findN l b < l.length) ∨ (∃ k : Nat, k < l.length ∧ findN l b = k ∧ findI l b = k ∧ getE l b = 0 ∧ (eth l k).kind = 1 ∧ (eth l k).block = b) := by
  unfold findI getE
  by_cases h : findN l b < l.length
  · right
    exact ⟨findN l b, h, rfl, by rw [if_pos h], by rw [if_pos h], (find_kind h).1, (find_kind h).2⟩
  · left
    exact ⟨by rw [if_neg h], by rw [if_neg h], h⟩
theorem good_free {size : Int} {l : List En} (h : Good size l) (b : Int) : Good size (FreeL l b) := by
  unfold FreeL
  by_cases hk : findN l b < l.length
  · rw [if_pos hk]; exact good_drop h hk (find_kind hk).1
  · rw [if_neg hk]; exact h
set_option maxRecDepth 100000 in
set_option maxHeartbeats 4000000 in
theorem Free_any (size : Int) (g : Nat) (v : Value) (l : List En) (b : Int) (w : World) (h : MA 0 w g size v l) (hG : Good size l) : Calls Try.prog 25 #[.pointer (some ⟨g, 0, none⟩), .int .i64 b] w (Mem (.returned (.int .i64 (getE l b))) g size v (FreeL l b) w) := by
  have c0 := h.c0
  have f0 := h.free 0
  have h1 := hid (h.lock 1)
  have m0 := hid ((MT.refl g v w).set 0 (.int .i32 1))
  have hF := hid (fun w (h : MA 1 w g size v l) => find_any 1 size g v l b w h)
  have hD := hid (fun k w (h : MA 1 w g size v l) hk => drop_any 1 size g v l k w h hk (by have := (good_facts hG).1; omega) (fun k hk => by have := (good_facts hG).2.1 k hk; omega))
  have gc := hid (find_cases l b)
  have hFL : Hid (∀ k, findN l b = k → k < l.length → FreeL l b = dropL l k) := fun k e hk => by unfold FreeL; rw [e, if_pos hk]
  have hFN : Hid (¬ findN l b < l.length → FreeL l b = l) := fun hk => by unfold FreeL; rw [if_neg hk]
  generalize FreeL l b = FL at *
  clear hG
  go_enter_defers Try.func25, Try.ntmps25
  go_wp2_with (go_at_call 40; refine (lock_free muLib ⟨g, 0, none⟩ _ c0 f0).mono ?_; rintro e w' ⟨rfl, rfl⟩)
  refine (hF.out _ h1.out).mono ?_
  rintro e w2 ⟨rfl, hx⟩
  replace h1 := hid (h1.out.ext hx)
  replace m0 := hid (m0.out.right hx)
  clear hx hF h c0 f0
  rcases gc.out with ⟨q1, q2, q3⟩ | ⟨k, hk, q0, q1, q2, _⟩
  · rw [q1]
    have hq := hid (hFN.out q3)
    clear gc q1 q3 hFN hFL hD
    have k0 := hid (h1.out.c0)
    have kf := hid (h1.out.free 0)
    go_wp2
    refine leaves_cons (f := 41) (args := #[.pointer (some ⟨g, 0, none⟩)]) (by simp) (by simp [go_sem]) ?_
    refine (unlock_deferred muLib ⟨g, 0, none⟩ .returning _ k0.out kf.out).mono ?_
    rintro e u' w'' ⟨rfl, rfl, rfl⟩
    exact ⟨_, results_tmp rfl _ _ _, by rw [q2]; rfl, v, by rw [hq.out]; exact h1.out.lock 0, m0.out.set 0 _⟩
  · rw [q1]
    have hq := hid (hFL.out k q0 hk)
    clear gc q0 q1 hFN hFL
    go_wp2_with fail
    refine (hD.out k _ h1.out hk).mono ?_
    rintro e w3 ⟨rfl, v', h3, m3⟩
    replace h3 := hid h3
    replace m3 := hid (m0.out.trans m3)
    clear hD m0 h1
    have k0 := hid (h3.out.c0)
    have kf := hid (h3.out.free 0)
    go_wp2
    refine leaves_cons (f := 41) (args := #[.pointer (some ⟨g, 0, none⟩)]) (by simp) (by simp [go_sem]) ?_
    refine (unlock_deferred muLib ⟨g, 0, none⟩ .returning _ k0.out kf.out).mono ?_
    rintro e u' w'' ⟨rfl, rfl, rfl⟩
    exact ⟨_, results_tmp rfl _ _ _, by rw [q2]; rfl, v', by rw [hq.out]; exact h3.out.lock 0, m3.out.set 0 _⟩
set_option maxRecDepth 100000 in
set_option maxHeartbeats 4000000 in
theorem Size_any (size : Int) (g : Nat) (v : Value) (l : List En) (w : World) (h : MA 0 w g size v l) : Calls Try.prog 31 #[.pointer (some ⟨g, 0, none⟩)] w (Mem (.returned (.tuple #[.int .i64 size, .int .i64 (endI l)])) g size v l w) := by
  have c0 := h.c0
  have f0 := h.free 0
  have h1 := hid (h.lock 1)
  have m0 := hid ((MT.refl g v w).set 0 (.int .i32 1))
  have hE := hid (fun w (h : MA 1 w g size v l) => end_any 1 size g v l w h)
  generalize endI l = E at *
  go_enter_defers Try.func31, Try.ntmps31
  go_wp2_with (go_at_call 40; refine (lock_free muLib ⟨g, 0, none⟩ _ c0 f0).mono ?_; rintro e w' ⟨rfl, rfl⟩)
  have c2 := h1.out.c2
  replace h1 := hid (h1.out.ext (Ext.refl _).drew_right)
  replace m0 := hid (m0.out.right (Ext.refl _).drew_right)
  generalize (w.setCell ⟨g, 0, none⟩ (.int .i32 1)) = w1 at *
  have I0 : (fun w' : World => w'.cell? ⟨g, 2, none⟩ = some (.int .i64 size)) w1.drew := c2
  refine region_J (fun w' => w'.cell? ⟨g, 2, none⟩ = some (.int .i64 size)) 7 (by kernel_rfl) ?_
  refine J_take 0 (v := ?va0) rfl (by kernel_rfl) (by kernel_rfl) (by kernel_rfl) (by kernel_rfl) (fun _ _ _ h => h) (Or.inl ⟨by rfl, ?ya0⟩) I0 ?ra0
  case ya0 => (intro w hSw; obtain _ := hSw; (go_simp; with_reducible rfl))
  simp only [Act.put, List.getElem_toArray, List.getElem_cons_zero, List.getElem_cons_succ, List.setIfInBounds_toArray, List.set_cons_zero, List.set_cons_succ]
  refine J_take 1 (v := ?va1) rfl (by kernel_rfl) (by kernel_rfl) (by kernel_rfl) (by kernel_rfl) (fun _ _ _ h => h) (Or.inl ⟨by rfl, ?ya1⟩) I0 ?ra1
  case ya1 => (intro w hSw; obtain _ := hSw; (go_simp; with_reducible rfl))
  simp only [Act.put, List.getElem_toArray, List.getElem_cons_zero, List.getElem_cons_succ, List.setIfInBounds_toArray, List.set_cons_zero, List.set_cons_succ]
  refine J_take 2 (v := ?va2) rfl (by kernel_rfl) (by kernel_rfl) (by kernel_rfl) (by kernel_rfl) (fun _ _ _ h => h) (Or.inl ⟨by rfl, ?ya2⟩) I0 ?ra2
  case ya2 => (intro w hSw; obtain _ := hSw; (go_simp; with_reducible rfl))
  simp only [Act.put, List.getElem_toArray, List.getElem_cons_zero, List.getElem_cons_succ, List.setIfInBounds_toArray, List.set_cons_zero, List.set_cons_succ]
  refine J_take 3 (v := ?va3) rfl (by kernel_rfl) (by kernel_rfl) (by kernel_rfl) (by kernel_rfl) (fun _ _ _ h => h) (Or.inl ⟨by rfl, ?ya3⟩) I0 ?ra3
  case ya3 => (intro w hSw; obtain _ := hSw; (go_simp; with_reducible rfl))
  simp only [Act.put, List.getElem_toArray, List.getElem_cons_zero, List.getElem_cons_succ, List.setIfInBounds_toArray, List.set_cons_zero, List.set_cons_succ]
  refine J_take 4 (v := ?va4) rfl (by kernel_rfl) (by kernel_rfl) (by kernel_rfl) (by kernel_rfl) (fun _ _ _ h => h) (Or.inl ⟨by rfl, ?ya4⟩) I0 ?ra4
  case ya4 => (intro w hSw; obtain _ := hSw; (go_simp; with_reducible rfl))
  simp only [Act.put, List.getElem_toArray, List.getElem_cons_zero, List.getElem_cons_succ, List.setIfInBounds_toArray, List.set_cons_zero, List.set_cons_succ]
  refine J_one 5 rfl (by kernel_rfl) (fun K hK => ?_)
  go_simp
  refine (hE.out _ h1.out).mono ?_
  rintro e w3 ⟨rfl, hx⟩
  have I3 : (fun w' : World => w'.cell? ⟨g, 2, none⟩ = some (.int .i64 size)) w3 := hx.cell I0
  replace h1 := hid (h1.out.ext hx)
  replace m0 := hid (m0.out.right hx)
  refine hK _ _ ⟨fun _ => I3, ?_⟩
  clear hK K
  try simp only [Act.put, List.getElem_toArray, List.getElem_cons_zero, List.getElem_cons_succ, List.setIfInBounds_toArray, List.set_cons_zero, List.set_cons_succ]
  refine J_take 6 (v := ?vb6) rfl (by kernel_rfl) (by kernel_rfl) (by kernel_rfl) (by kernel_rfl) (fun _ _ _ h => h) (Or.inl ⟨by rfl, ?yb6⟩) I3 ?rb6
  case yb6 => (intro w hSw; obtain _ := hSw; (go_simp; with_reducible rfl))
  simp only [Act.put, List.getElem_toArray, List.getElem_cons_zero, List.getElem_cons_succ, List.setIfInBounds_toArray, List.set_cons_zero, List.set_cons_succ]
  refine J_one 7 rfl (by kernel_rfl) (fun K hK => ?_)
  go_simp
  refine hK _ _ ⟨fun h => absurd rfl h, ?_⟩
  clear hK K
  refine J_done (by kernel_rfl) (OnlyOn.normal ?_)
  have k0 := hid (h1.out.c0)
  have kf := hid (h1.out.free 0)
  go_wp2
  refine leaves_cons (f := 41) (args := #[.pointer (some ⟨g, 0, none⟩)]) (by simp) (by simp [go_sem]) ?_
  refine (unlock_deferred muLib ⟨g, 0, none⟩ .returning _ k0.out kf.out).mono ?_
  rintro e u' w'' ⟨rfl, rfl, rfl⟩
  exact ⟨_, results_tmp2 rfl _ _ _, rfl, v, h1.out.lock 0, m0.out.set 0 _⟩
end Go.Proofs.Ytcgjhloiokpicaa
