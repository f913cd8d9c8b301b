/-
  Copy and Replace of the program.
-/
import Derived.Test.YtcgjhloiokpicaaMh
namespace Go.Proofs.Ytcgjhloiokpicaa
open Go.RowKit Go.MuLone Go.Shelf
set_option linter.unusedVariables false
set_option linter.unusedSimpArgs false
section
variable {P : Program} {ops : Array Oper} {Q : Exit → Act → World → Prop} {md : Region.Mode} {S : World → Prop} {last : Nat}
theorem wpAnyJ_firstO {i : Nat} {oi : Oper} {v : Value} (hi : ops[i]? = some oi) (hsel : ∀ (j : Nat) (o : Oper) cs b, ops[j]? = some o → o.op ≠ .select cs b)
    (hQ : ∀ c a w, Q (.panic c) (a.put oi.dst v) w → Q (.panic c) a w) (hw : ops.size ≤ last) :
    ∀ (fuel : Nat) (listed : Array Bool) (a : Act) (w : World),
      (∀ j oj, ops[j]? = some oj → j ≠ i → listed.getD j true = false → (∀ e ∈ oj.after, Region.binds md e = true → e.on ≠ i) → oi.apart ops oj = true) →
      i ∈ Region.ready md ops listed → YieldsIf P ops S oi v a → S w →
      wpAnyJ P md ops Q S last fuel (listed.setIfInBounds i true) (a.put oi.dst v) w → wpAnyJ P md ops Q S last (fuel + 1) listed a w := by
  intro fuel
  induction fuel with
  | zero =>
    intro listed a w _ hr hy hS H
    refine ⟨fun h => (by rw [h] at hr; cases hr), fun j hj => ?_⟩
    by_cases hji : j = i
    · subst hji; exact hy.wpOp hi hS ⟨fun _ => hS, H⟩
    · have := ready_mono hj hji
      rw [H.1] at this
      cases this
  | succ fuel ih =>
    intro listed a w hfree hr hy hS H
    refine ⟨fun h => (by rw [h] at hr; cases hr), fun j hj => ?_⟩
    by_cases hji : j = i
    · subst hji; exact hy.wpOp hi hS ⟨fun _ => hS, H⟩
    · have h1 := H.2 j (ready_mono hj hji)
      obtain ⟨hjun, oj, hoj, hall⟩ := mem_ready.1 hj
      have hjl : j ≠ last := fun e => by
        have := (Array.getElem?_eq_some_iff.1 hoj).1
        omega
      have hnot : ∀ e ∈ oj.after, Region.binds md e = true → e.on ≠ i := fun e he hb heq => by
        have h1 := hall e he hb
        have h0 := (mem_ready.1 hr).1
        rw [heq] at h1
        rcases Nat.lt_or_ge i listed.size with h' | h'
        · simp [h'] at h0 h1; rw [h0] at h1; cases h1
        · simp [Array.getElem?_eq_none h'] at h1
      have h2 := wpOp_putIf hoj (hfree j oj hoj hji hjun hnot) (fun cs b => hsel i oi cs b hi) (fun cs b => hsel j oj cs b hoj) hQ hy h1
      have hfree' : ∀ k ok, ops[k]? = some ok → k ≠ i → (listed.setIfInBounds j true).getD k true = false →
          (∀ e ∈ ok.after, Region.binds md e = true → e.on ≠ i) → oi.apart ops ok = true := fun k ok hk hki hun hno => by
        refine hfree k ok hk hki ?_ hno
        by_cases hjk : j = k
        · subst hjk; exact hjun
        · rw [getD_set_ne true hjk] at hun; exact hun
      refine wpOp_mono (fun a' w' h3 => ⟨h3.2.1, ih (listed.setIfInBounds j true) a' w' hfree' (ready_mono hr (Ne.symm hji)) h3.1 (h3.2.1 hjl) ?_⟩) h2
      rw [Array.setIfInBounds_comm _ _ hji]
      exact h3.2.2
/-- The same where what is asked of the world holds behind every operation. -/
theorem J_takeO (i : Nat) {oi : Oper} {v : Value} {fuel : Nat} {listed : Array Bool} {a : Act} {w : World} (hi : ops[i]? = some oi)
    (hs : Region.noSelect ops = true) (hf : Region.free md ops listed i = true) (hr : (Region.ready md ops listed).contains i = true) (hw : decide (ops.size ≤ last) = true)
    (hQ : ∀ c a w, Q (.panic c) (a.put oi.dst v) w → Q (.panic c) a w) (hy : YieldsIf P ops S oi v a) (hS : S w)
    (h : wpAnyJ P md ops Q S last fuel (listed.setIfInBounds i true) (a.put oi.dst v) w) : wpAnyJ P md ops Q S last (fuel + 1) listed a w :=
  wpAnyJ_firstO hi (Region.noSelect_spec hs) hQ (of_decide_eq_true hw) fuel listed a w (Region.free_spec hi hf) (by simpa using hr) hy hS h
end
/-- A copy lies in new memory. -/
def Copied (g : Nat) (size : Int) (v : Value) (l : List En) (w : World) (e : Ending) (w' : World) : Prop := ∃ (gn : Nat) (v2 : Value), e = .returned (.pointer (some ⟨gn, 0, none⟩)) ∧ MA 0 w' gn size v2 l ∧ MA 0 w' g size v l ∧ MT g v v w w' ∧ w.heap.size ≤ gn ∧ ∀ k, v2.ownBlock = some k → w.heap.size ≤ k
theorem MA.newOf {w : World} {size : Int} {v2 : Value} {l : List En} {b : Nat} (h : w.ownsRow b 78 4 v2 l.length (ents l)) : MA 0 (w.alloc (.cells #[.int .i32 0, .int .u32 0, .int .i64 size, v2] 76)) w.heap.size size v2 l :=
  ⟨0, heap_alloc_new w _, own_base (h.alloc _) (Nat.zero_le _), fun e => by have := (h.lt _ e).2; omega⟩
set_option maxRecDepth 100000 in
set_option maxHeartbeats 4000000 in
theorem Copy_any (size : Int) (g : Nat) (v : Value) (l : List En) (w : World) (h : MA 0 w g size v l) (hl : l.length ≤ 5000) : Calls Try.prog 28 #[.pointer (some ⟨g, 0, none⟩)] w (Copied g size v l w) := by
  have c0 := h.c0
  have f0 := h.free 0
  have h1 := hid (h.lock 1)
  have m0 := hid ((MT.refl g v w).set 0 (.int .i32 1))
  have hC := hid (fun w (h : MA 1 w g size v l) => clone_any l v w (by omega) h.own)
  go_enter_defers Try.func28, Try.ntmps28
  go_wp2_with (go_at_call 40; refine (lock_free muLib ⟨g, 0, none⟩ _ c0 f0).mono ?_; rintro e w' ⟨rfl, rfl⟩)
  have c2 := h1.out.c2
  have c3 := h1.out.c3
  replace h1 := hid (h1.out.ext (Ext.refl _).drew_right)
  replace m0 := hid (m0.out.right (Ext.refl _).drew_right)
  have hsz : Hid ((w.setCell ⟨g, 0, none⟩ (.int .i32 1)).heap.size = w.heap.size) := by simp [Hid]
  generalize (w.setCell ⟨g, 0, none⟩ (.int .i32 1)) = w1 at *
  have I0 : (fun w' : World => w'.cell? ⟨g, 2, none⟩ = some (.int .i64 size) ∧ w'.cell? ⟨g, 3, none⟩ = some v) w1.drew := ⟨c2, c3⟩
  have lg := hid h1.out.lt
  refine region_J (fun w' => w'.cell? ⟨g, 2, none⟩ = some (.int .i64 size) ∧ w'.cell? ⟨g, 3, none⟩ = some v) 11 (by kernel_rfl) ?_
  refine J_take 0 (v := ?va0) rfl (by kernel_rfl) (by kernel_rfl) (by kernel_rfl) (by kernel_rfl) (fun _ _ _ h => h) (Or.inl ⟨by rfl, ?ya0⟩) I0 ?ra0
  case ya0 => (intro w hSw; obtain ⟨_, _⟩ := hSw; (go_simp; with_reducible rfl))
  simp only [Act.put, List.getElem_toArray, List.getElem_cons_zero, List.getElem_cons_succ, List.setIfInBounds_toArray, List.set_cons_zero, List.set_cons_succ]
  refine J_take 1 (v := ?va1) rfl (by kernel_rfl) (by kernel_rfl) (by kernel_rfl) (by kernel_rfl) (fun _ _ _ h => h) (Or.inl ⟨by rfl, ?ya1⟩) I0 ?ra1
  case ya1 => (intro w hSw; obtain ⟨_, _⟩ := hSw; (go_simp; with_reducible rfl))
  simp only [Act.put, List.getElem_toArray, List.getElem_cons_zero, List.getElem_cons_succ, List.setIfInBounds_toArray, List.set_cons_zero, List.set_cons_succ]
  refine J_take 2 (v := ?va2) rfl (by kernel_rfl) (by kernel_rfl) (by kernel_rfl) (by kernel_rfl) (fun _ _ _ h => h) (Or.inl ⟨by rfl, ?ya2⟩) I0 ?ra2
  case ya2 => (intro w hSw; obtain ⟨_, _⟩ := hSw; (go_simp; with_reducible rfl))
  simp only [Act.put, List.getElem_toArray, List.getElem_cons_zero, List.getElem_cons_succ, List.setIfInBounds_toArray, List.set_cons_zero, List.set_cons_succ]
  refine J_take 3 (v := ?va3) rfl (by kernel_rfl) (by kernel_rfl) (by kernel_rfl) (by kernel_rfl) (fun _ _ _ h => h) (Or.inl ⟨by rfl, ?ya3⟩) I0 ?ra3
  case ya3 => (intro w hSw; obtain ⟨_, _⟩ := hSw; (go_simp; with_reducible rfl))
  simp only [Act.put, List.getElem_toArray, List.getElem_cons_zero, List.getElem_cons_succ, List.setIfInBounds_toArray, List.set_cons_zero, List.set_cons_succ]
  refine J_take 4 (v := ?va4) rfl (by kernel_rfl) (by kernel_rfl) (by kernel_rfl) (by kernel_rfl) (fun _ _ _ h => h) (Or.inl ⟨by rfl, ?ya4⟩) I0 ?ra4
  case ya4 => (intro w hSw; obtain ⟨_, _⟩ := hSw; (go_simp; with_reducible rfl))
  simp only [Act.put, List.getElem_toArray, List.getElem_cons_zero, List.getElem_cons_succ, List.setIfInBounds_toArray, List.set_cons_zero, List.set_cons_succ]
  refine J_take 5 (v := ?va5) rfl (by kernel_rfl) (by kernel_rfl) (by kernel_rfl) (by kernel_rfl) (fun _ _ _ h => h) (Or.inl ⟨by rfl, ?ya5⟩) I0 ?ra5
  case ya5 => (intro w hSw; obtain ⟨_, _⟩ := hSw; (go_simp; with_reducible rfl))
  simp only [Act.put, List.getElem_toArray, List.getElem_cons_zero, List.getElem_cons_succ, List.setIfInBounds_toArray, List.set_cons_zero, List.set_cons_succ]
  refine J_take 6 (v := ?va6) rfl (by kernel_rfl) (by kernel_rfl) (by kernel_rfl) (by kernel_rfl) (fun _ _ _ h => h) (Or.inl ⟨by rfl, ?ya6⟩) I0 ?ra6
  case ya6 => (intro w hSw; obtain ⟨_, _⟩ := hSw; (go_simp; with_reducible rfl))
  simp only [Act.put, List.getElem_toArray, List.getElem_cons_zero, List.getElem_cons_succ, List.setIfInBounds_toArray, List.set_cons_zero, List.set_cons_succ]
  refine J_take 7 (v := ?va7) rfl (by kernel_rfl) (by kernel_rfl) (by kernel_rfl) (by kernel_rfl) (fun _ _ _ h => h) (Or.inl ⟨by rfl, ?ya7⟩) I0 ?ra7
  case ya7 => (intro w hSw; obtain ⟨_, _⟩ := hSw; (go_simp; with_reducible rfl))
  simp only [Act.put, List.getElem_toArray, List.getElem_cons_zero, List.getElem_cons_succ, List.setIfInBounds_toArray, List.set_cons_zero, List.set_cons_succ]
  refine J_one 8 rfl (by kernel_rfl) (fun K hK => ?_)
  go_simp
  refine (hC.out _ h1.out).mono ?_
  rintro e w3 ⟨v2, rfl, ho2, hx⟩
  obtain ⟨A2, d2, hv2, _⟩ := own_form ho2
  subst hv2
  have I3 : (fun w' : World => w'.cell? ⟨g, 2, none⟩ = some (.int .i64 size) ∧ w'.cell? ⟨g, 3, none⟩ = some v) w3 := ⟨hx.cell c2, hx.cell c3⟩
  refine hK _ _ ⟨fun _ => I3, ?_⟩
  clear hK K
  try simp only [Act.put, List.getElem_toArray, List.getElem_cons_zero, List.getElem_cons_succ, List.setIfInBounds_toArray, List.set_cons_zero, List.set_cons_succ]
  have I4 : ∀ o : Obj, (fun w' : World => w'.cell? ⟨g, 2, none⟩ = some (.int .i64 size) ∧ w'.cell? ⟨g, 3, none⟩ = some v) (w3.alloc o) := fun o => ⟨((Ext.refl w3).alloc_right o).cell I3.1, ((Ext.refl w3).alloc_right o).cell I3.2⟩
  refine J_one 9 rfl (by kernel_rfl) (fun K hK => ?_)
  go_simp
  refine hK _ _ ⟨fun _ => I3, ?_⟩
  clear hK K
  try simp only [Act.put, List.setIfInBounds_toArray, List.set_cons_zero, List.set_cons_succ]
  refine J_one 10 rfl (by kernel_rfl) (fun K hK => ?_)
  go_simp
  refine hK _ _ ⟨fun _ => I4 _, ?_⟩
  clear hK K
  try simp only [Act.put, List.setIfInBounds_toArray, List.set_cons_zero, List.set_cons_succ]
  refine J_one 11 rfl (by kernel_rfl) (fun K hK => ?_)
  go_simp
  refine hK _ _ ⟨fun h => absurd rfl h, ?_⟩
  clear hK K
  refine J_done (by kernel_rfl) (OnlyOn.normal ?_)
  have hn := hid (MA.newOf (size := size) ho2)
  replace h1 := hid (h1.out.ext (hx.alloc_right (.cells #[.int .i32 0, .int .u32 0, .int .i64 size, Value.slice A2 l.length d2] 76)))
  replace m0 := hid (m0.out.right (hx.alloc_right (.cells #[.int .i32 0, .int .u32 0, .int .i64 size, Value.slice A2 l.length d2] 76)))
  have hge : Hid (w.heap.size ≤ w3.heap.size) := by have := hx.size; have := hsz.out; have e : w1.drew.heap.size = w1.heap.size := rfl; unfold Hid; omega
  have hvf : Hid (∀ k, (Value.slice A2 l.length d2).ownBlock = some k → w.heap.size ≤ k) := fun k hk => by have := (ho2.lt k hk).1; have := hsz.out; have e : w1.drew.heap.size = w1.heap.size := rfl; omega
  have hgn : Hid (g < w3.heap.size) := by have := lg.out; have := hx.size; unfold Hid; omega
  clear I0 I3 I4 c2 c3 hx ho2 hC
  generalize Value.slice A2 l.length d2 = v2 at *
  generalize w3.heap.size = gn at *
  generalize w3.alloc (.cells #[.int .i32 0, .int .u32 0, .int .i64 size, v2] 76) = w4 at *
  have k0 := hid (h1.out.c0)
  have kf := hid (h1.out.free 0)
  go_wp2
  refine leaves_cons (f := 41) (args := #[.pointer (some ⟨g, 0, none⟩)]) (by simp) (by simp [go_sem]) ?_
  refine (unlock_deferred muLib ⟨g, 0, none⟩ .returning _ k0.out kf.out).mono ?_
  rintro e u' w'' ⟨rfl, rfl, rfl⟩
  exact ⟨_, results_tmp rfl _ _ _, gn, v2, rfl, hn.out.other (by have := hgn.out; omega) (fun e => by have := hvf.out g e; have := h.lt; omega) 0 _, h1.out.lock 0, m0.out.set 0 _, hge.out, hvf.out⟩
/-! ### Replace -/
def setS (l : List En) (k : Nat) (s : ByteArray) : List En := l.set k ⟨(eth l k).block, (eth l k).blocks, (eth l k).kind, s⟩
def RepB (size : Int) (l : List En) (b : Int) (s : ByteArray) : Int :=
  if findN l b < l.length then if 2048 < s.size then 0 else if needS size s.size = (eth l (findN l b)).blocks then b else if putO (dropL l (findN l b)) (needS size s.size) then putB (dropL l (findN l b)) (needS size s.size) else 0 else 0
def RepE (size : Int) (l : List En) (b : Int) (s : ByteArray) : Int :=
  if findN l b < l.length then if 2048 < s.size then 3 else if needS size s.size = (eth l (findN l b)).blocks then 0 else if putO (dropL l (findN l b)) (needS size s.size) then 0 else 3 else 4
def RepL (size : Int) (l : List En) (b : Int) (s : ByteArray) : List En :=
  if findN l b < l.length then if 2048 < s.size then l else if needS size s.size = (eth l (findN l b)).blocks then setS l (findN l b) s else if putO (dropL l (findN l b)) (needS size s.size) then putL (dropL l (findN l b)) (needS size s.size) s else l else l
theorem good_set {size : Int} {l : List En} (h : Good size l) {k : Nat} (hk : k < l.length) (h1 : (eth l k).kind = 1) {s : ByteArray} (hs : s.size ≤ 2048) (hn : needS size s.size = (eth l k).blocks) : Good size (setS l k s) := by
  obtain ⟨e, fm, g1, g2, g3, g4, g5⟩ := good_at h hk
  unfold setS
  have hpl : (l.take k).length = k := by rw [List.length_take]; omega
  have hs2 := set_mid (l.take k) (l.drop (k + 1)) (eth l k) ⟨(eth l k).block, (eth l k).blocks, (eth l k).kind, s⟩
  rw [hpl, ← split_at hk] at hs2
  rw [hs2]
  exact ⟨e, run_append.2 ⟨_, fm, g1, rfl, ⟨g2.1, .inr ⟨h1, hs, hn.symm⟩⟩, g3, g4⟩, g5⟩
theorem good_rep {size : Int} {l : List En} (h : Good size l) (hsz : 16 ≤ size ∧ size ≤ 256) (b : Int) (s : ByteArray) : Good size (RepL size l b s) := by
  unfold RepL
  by_cases hk : findN l b < l.length
  · rw [if_pos hk]
    by_cases h1 : 2048 < s.size
    · rw [if_pos h1]; exact h
    · rw [if_neg h1]
      by_cases h2 : needS size s.size = (eth l (findN l b)).blocks
      · rw [if_pos h2]; exact good_set h hk (find_kind hk).1 (by omega) h2
      · rw [if_neg h2]
        by_cases h3 : putO (dropL l (findN l b)) (needS size s.size) = true
        · rw [if_pos h3]; exact good_put (good_drop h hk (find_kind hk).1) hsz (by omega)
        · rw [if_neg h3]; exact h
  · rw [if_neg hk]; exact h
/-- A row that a memo file's call does not touch. -/
theorem MT.row {g b n : Nat} {e : TypeId} {v v' vo : Value} {w w' : World} {xs : List Value} (h : MT g v v' w w') (ho : w.ownsRow b e 4 vo n xs) (hg : vo.ownBlock ≠ some g) (hv : ∀ k, vo.ownBlock = some k → v.ownBlock ≠ some k) : w'.ownsRow b e 4 vo n xs := by
  refine ⟨ho.1, ?_⟩
  rcases ho.2 with h2 | ⟨g', cap, cur, rfl, e2, e3, e4⟩
  · exact .inl h2
  · exact .inr ⟨g', cap, cur, rfl, e2, (h.block (Array.getElem?_eq_some_iff.1 e3).1 (fun e => hg (by rw [← e]; rfl)) (hv g' rfl)).trans e3, e4⟩
set_option maxRecDepth 100000 in
set_option maxHeartbeats 4000000 in
theorem Replace_any (size : Int) (g : Nat) (v : Value) (l : List En) (b : Int) (s : ByteArray) (w : World) (h : MA 0 w g size v l) (hG : Good size l) (hs1 : 16 ≤ size) (hs2 : size ≤ 256) : Calls Try.prog 24 #[.pointer (some ⟨g, 0, none⟩), .int .i64 b, .string s] w (Mem (.returned (.tuple #[.int .i64 (RepB size l b s), .int .i64 (RepE size l b s)])) g size v (RepL size l b s) w) := by
  have gf := hid (good_facts hG)
  have c0 := h.c0
  have f0 := h.free 0
  have h1 := hid (h.lock 1)
  have m0 := hid ((MT.refl g v w).set 0 (.int .i32 1))
  have hF := hid (fun w (h : MA 1 w g size v l) => find_any 1 size g v l b w h)
  rcases find_cases l b with ⟨q1, q2, q3⟩ | ⟨k, hk, q0, q1, q2, q4, q5⟩
  · have r : Hid (RepB size l b s = 0 ∧ RepE size l b s = 4 ∧ RepL size l b s = l) := ⟨if_neg q3, if_neg q3, if_neg q3⟩
    rw [q1] at hF
    clear q1 q2 q3 hG h
    go_enter_defers Try.func24, Try.ntmps24
    go_wp2_with (go_at_call 40; refine (lock_free muLib ⟨g, 0, none⟩ _ c0 f0).mono ?_; rintro e w' ⟨rfl, rfl⟩)
    refine (hF.out _ h1.out).mono ?_
    rintro e w2 ⟨rfl, hx⟩
    replace h1 := hid (h1.out.ext hx)
    replace m0 := hid (m0.out.right hx)
    clear hx hF
    have k0 := hid (h1.out.c0)
    have kf := hid (h1.out.free 0)
    go_wp2
    refine leaves_cons (f := 41) (args := #[.pointer (some ⟨g, 0, none⟩)]) (by simp) (by simp [go_sem]) ?_
    refine (unlock_deferred muLib ⟨g, 0, none⟩ .returning _ k0.out kf.out).mono ?_
    rintro e u' w'' ⟨rfl, rfl, rfl⟩
    exact ⟨_, results_tmp2 rfl _ _ _, by rw [r.out.1, r.out.2.1]; rfl, v, by rw [r.out.2.2]; exact h1.out.lock 0, m0.out.set 0 _⟩
  · have hkl : findN l b < l.length := by rw [q0]; exact hk
    by_cases hz : 2048 < s.size
    · have r : Hid (RepB size l b s = 0 ∧ RepE size l b s = 3 ∧ RepL size l b s = l) := ⟨(if_pos hkl).trans (if_pos hz), (if_pos hkl).trans (if_pos hz), (if_pos hkl).trans (if_pos hz)⟩
      have dz : (2048 : Int) < (s.size : Int) := by omega
      rw [q1] at hF
      clear q0 q1 q2 q4 q5 hG h hkl hz
      go_enter_defers Try.func24, Try.ntmps24
      go_wp2_with (go_at_call 40; refine (lock_free muLib ⟨g, 0, none⟩ _ c0 f0).mono ?_; rintro e w' ⟨rfl, rfl⟩)
      refine (hF.out _ h1.out).mono ?_
      rintro e w2 ⟨rfl, hx⟩
      replace h1 := hid (h1.out.ext hx)
      replace m0 := hid (m0.out.right hx)
      clear hx hF
      have k0 := hid (h1.out.c0)
      have kf := hid (h1.out.free 0)
      go_wp2
      refine leaves_cons (f := 41) (args := #[.pointer (some ⟨g, 0, none⟩)]) (by simp) (by simp [go_sem]) ?_
      refine (unlock_deferred muLib ⟨g, 0, none⟩ .returning _ k0.out kf.out).mono ?_
      rintro e u' w'' ⟨rfl, rfl, rfl⟩
      exact ⟨_, results_tmp2 rfl _ _ _, by rw [r.out.1, r.out.2.1]; rfl, v, by rw [r.out.2.2]; exact h1.out.lock 0, m0.out.set 0 _⟩
    · have dz : ¬ (2048 : Int) < (s.size : Int) := by omega
      have hzz : s.size ≤ 2048 := by omega
      have hN := hid (fun w => needs_any size s.size w hs1 hs2 (by omega) (by omega))
      have hP := hid (fun v' l' (hg' : Good size l') w (h : MA 1 w g size v' l') => put_any 1 size g v' l' s w h hs1 hs2 hzz (fun k hk => by have := (good_facts hg').2.1 k hk; omega) (good_facts hg').2.2.1 (by have := (good_facts hg').1; omega) (good_facts hg').2.2.2)
      have hD := hid (fun w (h : MA 1 w g size v l) => drop_any 1 size g v l k w h hk (by have := (good_facts hG).1; omega) (fun k hk => by have := (good_facts hG).2.1 k hk; omega))
      have hC := hid (fun w (h : MA 1 w g size v l) => clone_any l v w (by have := (good_facts hG).1; omega) h.own)
      have hGd := hid (good_drop hG hk q4)
      have hR : Hid (RepB size l b s = (if needS size s.size = (eth l k).blocks then b else if putO (dropL l k) (needS size s.size) then putB (dropL l k) (needS size s.size) else 0) ∧ RepE size l b s = (if needS size s.size = (eth l k).blocks then 0 else if putO (dropL l k) (needS size s.size) then 0 else 3) ∧ RepL size l b s = (if needS size s.size = (eth l k).blocks then setS l k s else if putO (dropL l k) (needS size s.size) then putL (dropL l k) (needS size s.size) s else l)) := by
        subst q0
        exact ⟨(if_pos hkl).trans (if_neg hz), (if_pos hkl).trans (if_neg hz), (if_pos hkl).trans (if_neg hz)⟩
      rw [q1] at hF
      clear hz hkl q0 q1 q2 q4 q5 hG
      generalize needS size s.size = n at *
      obtain ⟨bb, c, rfl, hnc, hc, hbg, hbl⟩ := h1.out.slice (by omega)
      go_enter_defers Try.func24, Try.ntmps24
      go_wp2_with (go_at_call 40; refine (lock_free muLib ⟨g, 0, none⟩ _ c0 f0).mono ?_; rintro e w' ⟨rfl, rfl⟩)
      refine (hF.out _ h1.out).mono ?_
      rintro e w2 ⟨rfl, hx⟩
      replace h1 := hid (h1.out.ext hx)
      replace m0 := hid (m0.out.right hx)
      have hbl2 : bb < w2.heap.size := Nat.lt_of_lt_of_le hbl hx.size
      clear hx hF c0 f0
      generalize w.setCell ⟨g, 0, none⟩ (.int .i32 1) = w1 at *
      go_upto_region 10 with fail
      replace h1 := hid (h1.out.ext (Ext.refl _).drew_right)
      replace m0 := hid (m0.out.right (Ext.refl _).drew_right)
      have c2 := h1.out.c2
      have c3 := h1.out.c3
      obtain ⟨x0, x1, x2, x3⟩ := h1.out.ent hk
      have fx := h1.out.rowfree (k * 4 + 3)
      have fg := h1.out.free 3
      have lg := h1.out.lt
      have hkk : (k : Int) < (l.length : Int) := by omega
      have hM3 : Hid (∀ W, MA 1 W g size (.slice (some ⟨bb, 0, none⟩) l.length c) l → MA 1 (W.setCell ⟨bb, k * 4 + 3, none⟩ (.string s)) g size (.slice (some ⟨bb, 0, none⟩) l.length c) (setS l k s)) := fun W hW => hW.setE hk (j := 3) (by decide) _ _ (fun i hi => by rcases i with _ | _ | _ | _ | i <;> first | rfl | omega)
      generalize hE : (eth l k).blocks = eb at *
      have I0 : (fun w' : World => w'.cell? ⟨g, 2, none⟩ = some (.int .i64 size) ∧ w'.cell? ⟨g, 3, none⟩ = some (.slice (some ⟨bb, 0, none⟩) l.length c) ∧ w'.cell? ⟨bb, k * 4 + 1, none⟩ = some (.int .i64 eb)) w2.drew := ⟨c2, c3, x1⟩
      refine region_J (fun w' => w'.cell? ⟨g, 2, none⟩ = some (.int .i64 size) ∧ w'.cell? ⟨g, 3, none⟩ = some (.slice (some ⟨bb, 0, none⟩) l.length c) ∧ w'.cell? ⟨bb, k * 4 + 1, none⟩ = some (.int .i64 eb)) 17 (by kernel_rfl) ?_
      refine J_takeO 0 (v := ?va0) rfl (by kernel_rfl) (by kernel_rfl) (by kernel_rfl) (by kernel_rfl) (fun _ _ _ h => h) (Or.inl ⟨by rfl, ?ya0⟩) I0 ?ra0
      case ya0 => (intro w hSw; obtain ⟨_, _, _⟩ := hSw; (go_simp; with_reducible rfl))
      simp only [Act.put, List.getElem_toArray, List.getElem_cons_zero, List.getElem_cons_succ, List.setIfInBounds_toArray, List.set_cons_zero, List.set_cons_succ]
      refine J_takeO 1 (v := ?va1) rfl (by kernel_rfl) (by kernel_rfl) (by kernel_rfl) (by kernel_rfl) (fun _ _ _ h => h) (Or.inl ⟨by rfl, ?ya1⟩) I0 ?ra1
      case ya1 => (intro w hSw; obtain ⟨_, _, _⟩ := hSw; (go_simp; with_reducible rfl))
      simp only [Act.put, List.getElem_toArray, List.getElem_cons_zero, List.getElem_cons_succ, List.setIfInBounds_toArray, List.set_cons_zero, List.set_cons_succ]
      refine J_takeO 2 (v := ?va2) rfl (by kernel_rfl) (by kernel_rfl) (by kernel_rfl) (by kernel_rfl) (fun _ _ _ h => h) (Or.inl ⟨by rfl, ?ya2⟩) I0 ?ra2
      case ya2 => (intro w hSw; obtain ⟨_, _, _⟩ := hSw; (go_simp; with_reducible rfl))
      simp only [Act.put, List.getElem_toArray, List.getElem_cons_zero, List.getElem_cons_succ, List.setIfInBounds_toArray, List.set_cons_zero, List.set_cons_succ]
      refine J_takeO 3 (v := ?va3) rfl (by kernel_rfl) (by kernel_rfl) (by kernel_rfl) (by kernel_rfl) (fun _ _ _ h => h) (Or.inl ⟨by rfl, ?ya3⟩) I0 ?ra3
      case ya3 => (intro w hSw; obtain ⟨_, _, _⟩ := hSw; (go_simp; with_reducible rfl))
      simp only [Act.put, List.getElem_toArray, List.getElem_cons_zero, List.getElem_cons_succ, List.setIfInBounds_toArray, List.set_cons_zero, List.set_cons_succ]
      refine J_takeO 4 (v := ?va4) rfl (by kernel_rfl) (by kernel_rfl) (by kernel_rfl) (by kernel_rfl) (fun _ _ _ h => h) (Or.inl ⟨by rfl, ?ya4⟩) I0 ?ra4
      case ya4 => (intro w hSw; obtain ⟨_, _, _⟩ := hSw; (go_simp; with_reducible rfl))
      simp only [Act.put, List.getElem_toArray, List.getElem_cons_zero, List.getElem_cons_succ, List.setIfInBounds_toArray, List.set_cons_zero, List.set_cons_succ]
      refine J_takeO 5 (v := ?va5) rfl (by kernel_rfl) (by kernel_rfl) (by kernel_rfl) (by kernel_rfl) (fun _ _ _ h => h) (Or.inl ⟨by rfl, ?ya5⟩) I0 ?ra5
      case ya5 => (intro w hSw; obtain ⟨_, _, _⟩ := hSw; (go_simp; with_reducible rfl))
      simp only [Act.put, List.getElem_toArray, List.getElem_cons_zero, List.getElem_cons_succ, List.setIfInBounds_toArray, List.set_cons_zero, List.set_cons_succ]
      refine J_takeO 7 (v := ?va7) rfl (by kernel_rfl) (by kernel_rfl) (by kernel_rfl) (by kernel_rfl) (fun _ _ _ h => h) (Or.inl ⟨by rfl, ?ya7⟩) I0 ?ra7
      case ya7 => (intro w hSw; obtain ⟨_, _, _⟩ := hSw; (go_simp; with_reducible rfl))
      simp only [Act.put, List.getElem_toArray, List.getElem_cons_zero, List.getElem_cons_succ, List.setIfInBounds_toArray, List.set_cons_zero, List.set_cons_succ]
      refine J_takeO 8 (v := ?va8) rfl (by kernel_rfl) (by kernel_rfl) (by kernel_rfl) (by kernel_rfl) (fun _ _ _ h => h) (Or.inl ⟨by rfl, ?ya8⟩) I0 ?ra8
      case ya8 => (intro w hSw; obtain ⟨_, _, _⟩ := hSw; (go_simp; with_reducible rfl))
      simp only [Act.put, List.getElem_toArray, List.getElem_cons_zero, List.getElem_cons_succ, List.setIfInBounds_toArray, List.set_cons_zero, List.set_cons_succ]
      refine J_takeO 9 (v := ?va9) rfl (by kernel_rfl) (by kernel_rfl) (by kernel_rfl) (by kernel_rfl) (fun _ _ _ h => h) (Or.inl ⟨by rfl, ?ya9⟩) I0 ?ra9
      case ya9 => (intro w hSw; obtain ⟨_, _, _⟩ := hSw; (go_simp; with_reducible rfl))
      simp only [Act.put, List.getElem_toArray, List.getElem_cons_zero, List.getElem_cons_succ, List.setIfInBounds_toArray, List.set_cons_zero, List.set_cons_succ]
      refine J_takeO 10 (v := ?va10) rfl (by kernel_rfl) (by kernel_rfl) (by kernel_rfl) (by kernel_rfl) (fun _ _ _ h => h) (Or.inl ⟨by rfl, ?ya10⟩) I0 ?ra10
      case ya10 => (intro w hSw; obtain ⟨_, _, _⟩ := hSw; (go_simp; with_reducible rfl))
      simp only [Act.put, List.getElem_toArray, List.getElem_cons_zero, List.getElem_cons_succ, List.setIfInBounds_toArray, List.set_cons_zero, List.set_cons_succ]
      refine J_takeO 11 (v := ?va11) rfl (by kernel_rfl) (by kernel_rfl) (by kernel_rfl) (by kernel_rfl) (fun _ _ _ h => h) (Or.inl ⟨by rfl, ?ya11⟩) I0 ?ra11
      case ya11 => (intro w hSw; obtain ⟨_, _, _⟩ := hSw; (go_simp; with_reducible rfl))
      simp only [Act.put, List.getElem_toArray, List.getElem_cons_zero, List.getElem_cons_succ, List.setIfInBounds_toArray, List.set_cons_zero, List.set_cons_succ]
      refine J_takeO 12 (v := ?va12) rfl (by kernel_rfl) (by kernel_rfl) (by kernel_rfl) (by kernel_rfl) (fun _ _ _ h => h) (Or.inl ⟨by rfl, ?ya12⟩) I0 ?ra12
      case ya12 => (intro w hSw; obtain ⟨_, _, _⟩ := hSw; (go_simp; with_reducible rfl))
      simp only [Act.put, List.getElem_toArray, List.getElem_cons_zero, List.getElem_cons_succ, List.setIfInBounds_toArray, List.set_cons_zero, List.set_cons_succ]
      refine J_takeO 13 (v := ?va13) rfl (by kernel_rfl) (by kernel_rfl) (by kernel_rfl) (by kernel_rfl) (fun _ _ _ h => h) (Or.inl ⟨by rfl, ?ya13⟩) I0 ?ra13
      case ya13 => (intro w hSw; obtain ⟨_, _, _⟩ := hSw; (go_simp; with_reducible rfl))
      simp only [Act.put, List.getElem_toArray, List.getElem_cons_zero, List.getElem_cons_succ, List.setIfInBounds_toArray, List.set_cons_zero, List.set_cons_succ]
      refine J_takeO 14 (v := ?va14) rfl (by kernel_rfl) (by kernel_rfl) (by kernel_rfl) (by kernel_rfl) (fun _ _ _ h => h) (Or.inl ⟨by rfl, ?ya14⟩) I0 ?ra14
      case ya14 => (intro w hSw; obtain ⟨_, _, _⟩ := hSw; (go_simp; with_reducible rfl))
      simp only [Act.put, List.getElem_toArray, List.getElem_cons_zero, List.getElem_cons_succ, List.setIfInBounds_toArray, List.set_cons_zero, List.set_cons_succ]
      refine J_one 6 rfl (by kernel_rfl) (fun K hK => ?_)
      go_simp
      refine (hN.out _).mono ?_
      rintro e w3 ⟨rfl, rfl⟩
      refine hK _ _ ⟨fun _ => I0, ?_⟩
      clear hK K
      try simp only [Act.put, List.getElem_toArray, List.getElem_cons_zero, List.getElem_cons_succ, List.setIfInBounds_toArray, List.set_cons_zero, List.set_cons_succ]
      refine J_one 15 rfl (by kernel_rfl) (fun K hK => ?_)
      go_simp
      refine hK _ _ ⟨fun _ => I0, ?_⟩
      clear hK K
      try simp only [Act.put, List.setIfInBounds_toArray, List.set_cons_zero, List.set_cons_succ]
      refine J_one 16 rfl (by kernel_rfl) (fun K hK => ?_)
      go_simp
      refine hK _ _ ⟨fun _ => I0, ?_⟩
      clear hK K
      try simp only [Act.put, List.setIfInBounds_toArray, List.set_cons_zero, List.set_cons_succ]
      refine J_done (by kernel_rfl) (OnlyOn.normal ?_)
      replace fx : w2.drew.frozen? ⟨bb, k * 4 + 3, none⟩ = false := fx
      replace fg : w2.drew.frozen? ⟨g, 3, none⟩ = false := fg
      replace hbl2 : bb < w2.drew.heap.size := hbl2
      clear I0 x0 x2 hN
      generalize w2.drew = w3 at *
      by_cases heq : n = eb
      · have db : (n == eb) = true := by rw [heq]; exact beq_self_eq_true eb
        have r : Hid (RepB size l b s = b ∧ RepE size l b s = 0 ∧ RepL size l b s = setS l k s) := ⟨hR.out.1.trans (if_pos heq), hR.out.2.1.trans (if_pos heq), hR.out.2.2.trans (if_pos heq)⟩
        replace h1 := hid (hM3.out _ h1.out)
        replace m0 := hid (m0.out.setE rfl (k * 4 + 3) (.string s))
        clear hR hM3 heq hP hD hC hGd
        have k0 := hid (h1.out.c0)
        have kf := hid (h1.out.free 0)
        go_wp2
        refine leaves_cons (f := 41) (args := #[.pointer (some ⟨g, 0, none⟩)]) (by simp) (by simp [go_sem]) ?_
        refine (unlock_deferred muLib ⟨g, 0, none⟩ .returning _ k0.out kf.out).mono ?_
        rintro e u' w'' ⟨rfl, rfl, rfl⟩
        exact ⟨_, results_tmp2 rfl _ _ _, by rw [r.out.1, r.out.2.1]; rfl, _, by rw [r.out.2.2]; exact h1.out.lock 0, m0.out.set 0 _⟩
      · have db : (n == eb) = false := by rw [beq_eq_false_iff_ne]; exact heq
        have r0 : Hid (RepB size l b s = (if putO (dropL l k) n then putB (dropL l k) n else 0) ∧ RepE size l b s = (if putO (dropL l k) n then 0 else 3) ∧ RepL size l b s = (if putO (dropL l k) n then putL (dropL l k) n s else l)) := ⟨hR.out.1.trans (if_neg heq), hR.out.2.1.trans (if_neg heq), hR.out.2.2.trans (if_neg heq)⟩
        clear hR hM3 heq x1 x3 fx c2
        go_wp2_with fail
        refine (hC.out _ h1.out).mono ?_
        rintro e w4 ⟨vo, rfl, ho, hx4⟩
        obtain ⟨Ao, co, hvo, _⟩ := own_form ho
        subst hvo
        have how : Hid (∀ k, (Value.slice Ao l.length co).ownBlock = some k → w.heap.size ≤ k) := fun k e => by have := (ho.lt k e).1; have := m0.out.size; omega
        replace h1 := hid (h1.out.ext hx4)
        replace m0 := hid (m0.out.right hx4)
        have hog : Hid ((Value.slice Ao l.length co).ownBlock ≠ some g) := fun e => by have := (ho.lt _ e).1; omega
        have hov : Hid (∀ k, (Value.slice Ao l.length co).ownBlock = some k → (Value.slice (some ⟨bb, 0, none⟩) l.length c).ownBlock ≠ some k) := fun k e e2 => by
          have h5 := (ho.lt _ e).1
          have h6 : bb = k := by simpa [Value.ownBlock] using e2
          omega
        have hol : Hid (∀ k, (Value.slice Ao l.length co).ownBlock = some k → k < w4.heap.size) := fun k e => (ho.lt k e).2
        replace ho := hid (own_base ho (Nat.zero_le _))
        clear hx4 hC c3 fg lg hbl2
        go_wp2_with fail
        refine (hD.out _ h1.out).mono ?_
        rintro e w5 ⟨rfl, v5, h5, m5⟩
        replace ho := hid (m5.row ho.out hog.out hov.out)
        have hov5 : Hid (∀ k, (Value.slice Ao l.length co).ownBlock = some k → v5.ownBlock ≠ some k) := fun k e => m5.own (hol.out k e) (hov.out k e)
        have hol5 : Hid (∀ k, (Value.slice Ao l.length co).ownBlock = some k → k < w5.heap.size) := fun k e => Nat.lt_of_lt_of_le (hol.out k e) m5.size
        replace m5 := hid (m0.out.trans m5)
        replace h5 := hid h5
        clear m0 h1 hD hov hol
        go_wp2_with fail
        refine (hP.out _ _ hGd.out _ h5.out).mono ?_
        rintro e w6 ⟨rfl, v6, h6, m6⟩
        replace ho := hid (m6.row ho.out hog.out hov5.out)
        replace m6 := hid (m5.out.trans m6)
        replace h6 := hid h6
        clear h5 m5 hP hGd hov5 hol5
        have fg := h6.out.free 3
        have c3 := h6.out.c3
        have lg := h6.out.lt
        generalize putO (dropL l k) n = O at *
        generalize putB (dropL l k) n = B at *
        generalize putL (dropL l k) n s = L at *
        cases O with
        | true =>
          have k0 := hid (h6.out.c0)
          have kf := hid (h6.out.free 0)
          go_wp2
          refine leaves_cons (f := 41) (args := #[.pointer (some ⟨g, 0, none⟩)]) (by simp) (by simp [go_sem]) ?_
          refine (unlock_deferred muLib ⟨g, 0, none⟩ .returning _ k0.out kf.out).mono ?_
          rintro e u' w'' ⟨rfl, rfl, rfl⟩
          exact ⟨_, results_tmp2 rfl _ _ _, by rw [r0.out.1, r0.out.2.1]; rfl, _, by rw [r0.out.2.2]; exact h6.out.lock 0, m6.out.set 0 _⟩
        | false =>
          have h7 : Hid (MA 1 (w6.setCell ⟨g, 3, none⟩ (Value.slice Ao l.length co)) g size (.slice Ao l.length co) l) := by
            obtain ⟨q, e1, _, _⟩ := h6.out
            exact ⟨q, by simp [World.setCell, Array.getElem?_modify, e1], own_set ho.out hog.out 3 _, hog.out⟩
          have m7 : Hid (MT g (.slice (some ⟨bb, 0, none⟩) l.length c) (.slice Ao l.length co) w (w6.setCell ⟨g, 3, none⟩ (Value.slice Ao l.length co))) := by
            have := m6.out.set 3 (.slice Ao l.length co)
            exact ⟨this.1, this.2.1, this.2.2.1, this.2.2.2.1, this.2.2.2.2.1, .inr how.out⟩
          clear h6 m6 ho
          have k0 := hid (h7.out.c0)
          have kf := hid (h7.out.free 0)
          go_wp2
          refine leaves_cons (f := 41) (args := #[.pointer (some ⟨g, 0, none⟩)]) (by simp) (by simp [go_sem]) ?_
          refine (unlock_deferred muLib ⟨g, 0, none⟩ .returning _ k0.out kf.out).mono ?_
          rintro e u' w'' ⟨rfl, rfl, rfl⟩
          exact ⟨_, results_tmp2 rfl _ _ _, by rw [r0.out.1, r0.out.2.1]; rfl, _, by rw [r0.out.2.2]; exact h7.out.lock 0, m7.out.set 0 _⟩
end Go.Proofs.Ytcgjhloiokpicaa
