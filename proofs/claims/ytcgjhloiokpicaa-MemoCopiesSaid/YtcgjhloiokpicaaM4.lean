/-
  What a call on a memo file may turn; Get.
-/
import Derived.Test.YtcgjhloiokpicaaM3
namespace Go.Proofs.Ytcgjhloiokpicaa
open Go.RowKit Go.MuLone
set_option linter.unusedVariables false
set_option linter.unusedSimpArgs false
/-- Only the file's block and its row's block have turned, and the row lies where it lay or in new memory. -/
def MT (g : Nat) (v v' : Value) (w w' : World) : Prop := w.os = w'.os ∧ w.tape = w'.tape ∧ w.output = w'.output ∧ w.heap.size ≤ w'.heap.size ∧ (∀ k, k < w.heap.size → k ≠ g → v.ownBlock ≠ some k → w'.heap[k]? = w.heap[k]?) ∧ (v'.ownBlock = v.ownBlock ∨ ∀ k, v'.ownBlock = some k → w.heap.size ≤ k)
section
variable {g : Nat} {v v' v'' : Value} {u w w' : World}
theorem MT.refl (g : Nat) (v : Value) (w : World) : MT g v v w w := ⟨rfl, rfl, rfl, Nat.le_refl _, fun _ _ _ _ => rfl, .inl rfl⟩
theorem MT.set (h : MT g v v' w w') (i : Nat) (x : Value) : MT g v v' w (w'.setCell ⟨g, i, none⟩ x) :=
  ⟨h.1, h.2.1, h.2.2.1, by simpa using h.2.2.2.1, fun k hk hg hv => (heap_setCell_other _ _ k _ hg).trans (h.2.2.2.2.1 k hk hg hv), h.2.2.2.2.2⟩
theorem MT.right (h : MT g v v' w w') {w'' : World} (hx : Ext w' w'') : MT g v v' w w'' :=
  ⟨h.1.trans hx.os.symm, h.2.1.trans hx.tape.symm, h.2.2.1.trans hx.output.symm, Nat.le_trans h.2.2.2.1 hx.size, fun k hk hg hv => (hx.block (by have := h.2.2.2.1; omega)).trans (h.2.2.2.2.1 k hk hg hv), h.2.2.2.2.2⟩
theorem MT.trans (h : MT g v v' u w) (k : MT g v' v'' w w') : MT g v v'' u w' := by
  refine ⟨h.1.trans k.1, h.2.1.trans k.2.1, h.2.2.1.trans k.2.2.1, Nat.le_trans h.2.2.2.1 k.2.2.2.1, fun i hi hg hv => ?_, ?_⟩
  · refine (k.2.2.2.2.1 i (by have := h.2.2.2.1; omega) hg ?_).trans (h.2.2.2.2.1 i hi hg hv)
    rcases h.2.2.2.2.2 with e | e
    · rw [e]; exact hv
    · intro e2
      have := e i e2
      omega
  · rcases k.2.2.2.2.2 with e | e
    · rcases h.2.2.2.2.2 with e2 | e2
      · exact .inl (e.trans e2)
      · exact .inr (fun i hi => e2 i (e ▸ hi))
    · exact .inr (fun i hi => by have := e i hi; have := h.2.2.2.1; omega)
/-- A block that the file does not hold is as it was. -/
theorem MT.block (h : MT g v v' w w') {k : Nat} (hk : k < w.heap.size) (hg : k ≠ g) (hv : v.ownBlock ≠ some k) : w'.heap[k]? = w.heap[k]? := h.2.2.2.2.1 k hk hg hv
theorem MT.own (h : MT g v v' w w') {k : Nat} (hk : k < w.heap.size) (hv : v.ownBlock ≠ some k) : v'.ownBlock ≠ some k := by
  rcases h.2.2.2.2.2 with e | e
  · rw [e]; exact hv
  · intro e2
    have := e k e2
    omega
theorem MT.size (h : MT g v v' w w') : w.heap.size ≤ w'.heap.size := h.2.2.2.1
theorem MT.left (h : MT g v v' w w') (hx : Ext u w) : MT g v v' u w' := by
  refine ⟨(hx.os).symm.trans h.1, (hx.tape).symm.trans h.2.1, (hx.output).symm.trans h.2.2.1, Nat.le_trans hx.size h.2.2.2.1, fun i hi hg hv => (h.2.2.2.2.1 i (by have := hx.size; omega) hg hv).trans (hx.block hi), ?_⟩
  rcases h.2.2.2.2.2 with e | e
  · exact .inl e
  · exact .inr (fun i hi => by have := e i hi; have := hx.size; omega)
end
/-- A method's end: what it gives, the file behind it, what may have turned. -/
def Mem (e0 : Ending) (g : Nat) (size : Int) (v : Value) (l' : List En) (w : World) (e : Ending) (w' : World) : Prop := e = e0 ∧ ∃ v', MA 0 w' g size v' l' ∧ MT g v v' w w'
set_option maxRecDepth 100000 in
set_option maxHeartbeats 4000000 in
theorem Get_nil (b : Int) (w : World) : Calls Try.prog 26 #[.pointer none, .int .i64 b] w (Give (.tuple #[.string ⟨#[]⟩, .int .i64 9]) w) := by
  go_enter_defers Try.func26, Try.ntmps26
  go_wp2
  exact ⟨_, results_tmp2 rfl _ _ _, rfl, Ext.refl _⟩
set_option maxRecDepth 100000 in
set_option maxHeartbeats 4000000 in
theorem Get_any (size : Int) (g : Nat) (v : Value) (l : List En) (b : Int) (w : World) (h : MA 0 w g size v l) : Calls Try.prog 26 #[.pointer (some ⟨g, 0, none⟩), .int .i64 b] w (Mem (.returned (.tuple #[.string (getS l b), .int .i64 (getE l b)])) g size v l w) := by
  have c0 := h.c0
  have f0 := h.free 0
  have hF := hid (fun w (h : MA 1 w g size v l) => find_any 1 size g v l b w h)
  have h1 := hid (h.lock 1)
  have gc := hid (get_cases l b)
  go_enter_defers Try.func26, Try.ntmps26
  go_wp2_with (go_at_call 40; refine (lock_free muLib ⟨g, 0, none⟩ _ c0 f0).mono ?_; rintro e w' ⟨rfl, rfl⟩)
  refine (hF.out _ h1.out).mono ?_
  rintro e w2 ⟨rfl, hx⟩
  have m0 : MT g v v w (w.setCell ⟨g, 0, none⟩ (.int .i32 1)) := (MT.refl g v w).set 0 _
  replace m0 := hid (m0.right hx)
  have h2 := hid (h1.out.ext hx)
  clear hx h1 h hF
  have k0 := hid (h2.out.c0)
  have kf := hid (h2.out.free 0)
  have fin : ∀ w3, w3 = w2.setCell ⟨g, 0, none⟩ (.int .i32 0) → ∃ v', MA 0 w3 g size v' l ∧ MT g v v' w w3 := fun w3 e => ⟨v, e ▸ h2.out.lock 0, e ▸ m0.out.set 0 _⟩
  rcases gc.out with ⟨q1, q2, q3⟩ | ⟨k, hk, q1, q2, q3⟩
  · rw [q1]
    clear gc q1
    go_wp2
    refine leaves_cons (f := 41) (args := #[.pointer (some ⟨g, 0, none⟩)]) (by simp) (by simp [go_sem]) ?_
    refine (unlock_deferred muLib ⟨g, 0, none⟩ .returning _ k0.out kf.out).mono ?_
    rintro e u' w'' ⟨rfl, rfl, rfl⟩
    exact ⟨_, results_tmp2 rfl _ _ _, by rw [q2, q3]; rfl, fin _ rfl⟩
  · rw [q1]
    clear gc q1
    have c3 := h2.out.c3
    obtain ⟨A, c, rfl, hr⟩ := h2.out.rd
    have hm := Rd.max hr
    obtain ⟨ad, rfl, x0, x1, x2, x3⟩ := hr.at_ hk
    clear hr
    have d1 : (k : Int) < (l.length : Int) := by omega
    go_wp2
    refine leaves_cons (f := 41) (args := #[.pointer (some ⟨g, 0, none⟩)]) (by simp) (by simp [go_sem]) ?_
    refine (unlock_deferred muLib ⟨g, 0, none⟩ .returning _ k0.out kf.out).mono ?_
    rintro e u' w'' ⟨rfl, rfl, rfl⟩
    exact ⟨_, results_tmp2 rfl _ _ _, by rw [q2, q3]; rfl, fin _ rfl⟩
end Go.Proofs.Ytcgjhloiokpicaa
