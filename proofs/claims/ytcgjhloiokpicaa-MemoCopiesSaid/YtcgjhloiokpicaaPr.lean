/-
  Put whole; Size and Copy of the reference; over and used of the law.
-/
import Derived.Test.YtcgjhloiokpicaaPs
import Derived.Test.YtcgjhloiokpicaaRB
namespace Go.Proofs.Ytcgjhloiokpicaa
open Go.RowKit Go.Shelf
set_option linter.unusedVariables false
set_option linter.unusedSimpArgs false
theorem Put_any (size : Int) (g : Nat) (v : Value) (l : List En) (s : ByteArray) (w : World) (h : MA 0 w g size v l) (hG : Good size l) (hs1 : 16 ≤ size) (hs2 : size ≤ 256) :
    Calls Try.prog 23 #[.pointer (some ⟨g, 0, none⟩), .string s] w fun e w' => e = .returned (.tuple #[.int .i64 (PutB size l s), .int .i64 (PutE size l s)]) ∧ ∃ v', MA 0 w' g size v' (PutL size l s) ∧ MT g v v' w w' :=
  Put_of size g v l s w h (fun hz w h => put_any 1 size g v l s w h hs1 hs2 hz (fun k hk => by have := (good_facts hG).2.1 k hk; omega) (good_facts hG).2.2.1 (by have := (good_facts hG).1; omega) (good_facts hG).2.2.2)
theorem good_PutL {size : Int} {l : List En} (hG : Good size l) (hs : 16 ≤ size ∧ size ≤ 256) (s : ByteArray) : Good size (PutL size l s) := by
  unfold PutL
  by_cases h : 2048 < s.size
  · rw [if_pos h]; exact hG
  · rw [if_neg h]; exact good_put hG hs (by omega)
set_option maxRecDepth 100000 in
set_option maxHeartbeats 4000000 in
theorem rSize_any (size : Int) (r : Nat) (v : Value) (l : List En) (w : World) (h : RA w r size v l) (hG : Good size l) : Calls Try.prog 52 #[.pointer (some ⟨r, 0, none⟩)] w fun e w' => e = .returned (.tuple #[.int .i64 size, .int .i64 (endI l)]) ∧ Dr w w' := by
  obtain ⟨_, h2, h3⟩ := beg_good hG
  have hB := hid (fun w (h : RA w r size v l) => blocks_any size r v l w h (fun k hk => by have := h3 k hk; omega))
  rw [h2] at hB
  have c0 := h.c0
  have lg := h.lt
  replace h := hid h
  clear h2 h3 hG
  go_enter Try.func52, Try.ntmps52
  go_upto_region 1 with fail
  go_quiet ((go_at_call 55; exact quiet_left (hB.out _ (h.out.ext (Ext.drewN _ _)))))
  go_wp2
  go_ret2
  exact ⟨rfl, .mk1 _ _⟩
theorem step_appendAny {P : Program} (w : World) {ops : Array Oper} {o : Oper} {a : Act} {K : Act → World → Prop} {Q : Exit → Act → World → Prop} {E : Prop} (hgd : o.guard = none) (s x : Operand) (t : TypeId)
    (ho : o.op = .call { callee := .builtin .append, args := #[s, x], argTypes := #[t, t] })
    (base : Nat) (e : TypeId) (i : TypeInfo) (z : Value) (size bytes : Nat) (ht : P.underlying t = some (.slice e)) (hi : P.info? e = some i) (hz : i.zero = some z)
    (hsize : i.size = size) (hby : i.bytes = bytes) (hzs : z.cells.size = size) (hsz : 0 < size)
    (v : Value) (n : Nat) (xs : List Value) (hs : a.eval s = v) (hown : w.ownsRow base e size v n xs)
    (A : Option Addr) (m c : Nat) (es : List Value) (hx : a.eval x = .slice A m c) (hr : Rd w size A m c es) (h1 : ∀ u ∈ es, u.oneCell' = true)
    (h63 : n + m ≤ maxLen) (hbytes : (n + m) * bytes ≤ 140737488355328) (hbase : base ≤ w.heap.size)
    (h : ∀ v' w', w'.ownsRow base e size v' (n + m) (xs ++ es) → w.grownBy w' v.ownBlock → K (a.put o.dst v') w') :
    if Region.wanted o (yielded ops a.tmps) = true then Oper.wp P o a w K Q else E := by
  have hw : Region.wanted o (yielded ops a.tmps) = true := by simp [Region.wanted, hgd]
  rw [if_pos hw]
  rcases A with _ | ad
  · have hm : m = 0 := by
      rcases Nat.eq_zero_or_pos m with h0 | h0
      · exact h0
      · obtain ⟨ad, h, _⟩ := hr.2.2.2 h0
        cases h
    subst hm
    have hn : es = [] := List.eq_nil_of_length_eq_zero (by simpa using hr.1)
    subst hn
    have hrun := run_append_nilsrc (P := P) w base t o.type e i size ht hi v n xs hown c
    unfold Oper.wp
    simp [execOp, ho, resolve, invoke, builtin, hs, hx, hrun, Result.andThen]
    exact h v w (by simpa using hown) (World.grownBy.refl w _)
  · refine wp_append_own w s x t ho base e i z size bytes ht hi hz hsize hby hzs hsz v n xs hs hown ad m c es hx hr.1 ?_ h1 h63 hbytes hbase fun v' w' h2 h3 _ => h v' w' h2 h3
    intro j u hu
    rcases Nat.eq_zero_or_pos m with h0 | h0
    · subst h0
      have hn : es = [] := List.eq_nil_of_length_eq_zero (by simpa using hr.1)
      subst hn
      simp at hu
    · obtain ⟨ad', e', hc⟩ := hr.2.2.2 h0
      injection e' with e'
      subst e'
      exact hc j u hu
theorem RA.newOf {w : World} {size : Int} {v2 : Value} {l : List En} {b : Nat} (h : w.ownsRow b 87 3 v2 l.length (rents l)) : RA (w.alloc (.cells #[.int .i64 size, v2] 85)) w.heap.size size v2 l :=
  ⟨heap_alloc_new w _, own_baseK (h.alloc _) (Nat.zero_le _), fun e => by have := (h.lt _ e).2; omega⟩
def RCopied (size : Int) (l : List En) (w : World) (e : Ending) (w' : World) : Prop := ∃ (rn : Nat) (v2 : Value), e = .returned (.pointer (some ⟨rn, 0, none⟩)) ∧ RA w' rn size v2 l ∧ Ext w w' ∧ w.heap.size ≤ rn ∧ ∀ k, v2.ownBlock = some k → w.heap.size ≤ k
set_option maxRecDepth 100000 in
set_option maxHeartbeats 4000000 in
theorem rCopy_any (size : Int) (r : Nat) (v : Value) (l : List En) (w : World) (h : RA w r size v l) (hl : l.length ≤ 5000) : Calls Try.prog 29 #[.pointer (some ⟨r, 0, none⟩)] w (RCopied size l w) := by
  obtain ⟨i0, hi0, hz0, hz1, hz2⟩ := info_parts infoRe
  have c0 := h.c0
  have c1 := h.c1
  have lg := h.lt
  obtain ⟨Am, cm, rfl, hr⟩ := h.rd
  have hmx := Rd.max hr
  replace hr := hid hr
  go_enter Try.func29, Try.ntmps29
  go_upto_region 1 with fail
  have I0 : (fun w' : World => w'.cell? ⟨r, 0, none⟩ = some (.int .i64 size) ∧ w'.cell? ⟨r, 1, none⟩ = some (.slice Am l.length cm)) w.drew := ⟨c0, c1⟩
  refine region_J (fun w' : World => w'.cell? ⟨r, 0, none⟩ = some (.int .i64 size) ∧ w'.cell? ⟨r, 1, none⟩ = some (.slice Am l.length cm)) 12 (by kernel_rfl) ?_
  refine J_takeO 0 (v := ?vc0) rfl (by kernel_rfl) (by kernel_rfl) (by kernel_rfl) (by kernel_rfl) (fun _ _ _ h => h) (Or.inl ⟨by rfl, ?yc0⟩) I0 ?rc0
  case yc0 => (intro w hSw; obtain ⟨_, _⟩ := hSw; (go_simp; with_reducible rfl))
  simp only [Act.put, List.getElem_toArray, List.getElem_cons_zero, List.getElem_cons_succ, List.setIfInBounds_toArray, List.set_cons_zero, List.set_cons_succ]
  refine J_takeO 1 (v := ?vc1) rfl (by kernel_rfl) (by kernel_rfl) (by kernel_rfl) (by kernel_rfl) (fun _ _ _ h => h) (Or.inl ⟨by rfl, ?yc1⟩) I0 ?rc1
  case yc1 => (intro w hSw; obtain ⟨_, _⟩ := hSw; (go_simp; with_reducible rfl))
  simp only [Act.put, List.getElem_toArray, List.getElem_cons_zero, List.getElem_cons_succ, List.setIfInBounds_toArray, List.set_cons_zero, List.set_cons_succ]
  refine J_takeO 2 (v := ?vc2) rfl (by kernel_rfl) (by kernel_rfl) (by kernel_rfl) (by kernel_rfl) (fun _ _ _ h => h) (Or.inl ⟨by rfl, ?yc2⟩) I0 ?rc2
  case yc2 => (intro w hSw; obtain ⟨_, _⟩ := hSw; (go_simp; with_reducible rfl))
  simp only [Act.put, List.getElem_toArray, List.getElem_cons_zero, List.getElem_cons_succ, List.setIfInBounds_toArray, List.set_cons_zero, List.set_cons_succ]
  refine J_takeO 3 (v := ?vc3) rfl (by kernel_rfl) (by kernel_rfl) (by kernel_rfl) (by kernel_rfl) (fun _ _ _ h => h) (Or.inl ⟨by rfl, ?yc3⟩) I0 ?rc3
  case yc3 => (intro w hSw; obtain ⟨_, _⟩ := hSw; (go_simp; with_reducible rfl))
  simp only [Act.put, List.getElem_toArray, List.getElem_cons_zero, List.getElem_cons_succ, List.setIfInBounds_toArray, List.set_cons_zero, List.set_cons_succ]
  refine J_takeO 4 (v := ?vc4) rfl (by kernel_rfl) (by kernel_rfl) (by kernel_rfl) (by kernel_rfl) (fun _ _ _ h => h) (Or.inl ⟨by rfl, ?yc4⟩) I0 ?rc4
  case yc4 => (intro w hSw; obtain ⟨_, _⟩ := hSw; (go_simp; with_reducible rfl))
  simp only [Act.put, List.getElem_toArray, List.getElem_cons_zero, List.getElem_cons_succ, List.setIfInBounds_toArray, List.set_cons_zero, List.set_cons_succ]
  refine J_takeO 5 (v := ?vc5) rfl (by kernel_rfl) (by kernel_rfl) (by kernel_rfl) (by kernel_rfl) (fun _ _ _ h => h) (Or.inl ⟨by rfl, ?yc5⟩) I0 ?rc5
  case yc5 => (intro w hSw; obtain ⟨_, _⟩ := hSw; (go_simp; with_reducible rfl))
  simp only [Act.put, List.getElem_toArray, List.getElem_cons_zero, List.getElem_cons_succ, List.setIfInBounds_toArray, List.set_cons_zero, List.set_cons_succ]
  refine J_takeO 6 (v := ?vc6) rfl (by kernel_rfl) (by kernel_rfl) (by kernel_rfl) (by kernel_rfl) (fun _ _ _ h => h) (Or.inl ⟨by rfl, ?yc6⟩) I0 ?rc6
  case yc6 => (intro w hSw; obtain ⟨_, _⟩ := hSw; (go_simp; with_reducible rfl))
  simp only [Act.put, List.getElem_toArray, List.getElem_cons_zero, List.getElem_cons_succ, List.setIfInBounds_toArray, List.set_cons_zero, List.set_cons_succ]
  refine J_takeO 7 (v := ?vc7) rfl (by kernel_rfl) (by kernel_rfl) (by kernel_rfl) (by kernel_rfl) (fun _ _ _ h => h) (Or.inl ⟨by rfl, ?yc7⟩) I0 ?rc7
  case yc7 => (intro w hSw; obtain ⟨_, _⟩ := hSw; (go_simp; with_reducible rfl))
  simp only [Act.put, List.getElem_toArray, List.getElem_cons_zero, List.getElem_cons_succ, List.setIfInBounds_toArray, List.set_cons_zero, List.set_cons_succ]
  refine J_one 8 rfl (by kernel_rfl) (fun K hK => ?_)
  refine step_appendAny _ rfl _ _ 83 rfl w.heap.size 87 i0 _ 3 32 Try.underlying83 hi0 hz0 hz1 hz2 rfl (by decide) (.slice none 0 0) 0 [] (by simp [Act.eval, Act.put]) (World.ownsRow_nil _ _ _ _) Am l.length cm (rents l) (by simp [Act.eval, Act.put]) hr.out (rents_one _) (by unfold maxLen; omega) (by omega) (by simp) ?_
  intro v2 w3 ho3 hgr3
  have hx3 : Hid (Ext w w3) := ext_push ((Ext.refl w).drew_right) (World.ownsRow_nil w.drew w.heap.size 87 3) hgr3
  try simp only [List.nil_append, Nat.zero_add] at ho3
  obtain ⟨Av, cv, rfl, -⟩ := own_form ho3
  have I3 : (fun w' : World => w'.cell? ⟨r, 0, none⟩ = some (.int .i64 size) ∧ w'.cell? ⟨r, 1, none⟩ = some (.slice Am l.length cm)) w3 := ⟨hx3.out.cell I0.1, hx3.out.cell I0.2⟩
  replace ho3 := hid ho3
  clear hgr3
  refine hK _ _ ⟨fun _ => I3, ?_⟩
  clear hK K
  try simp only [Act.put, List.getElem_toArray, List.getElem_cons_zero, List.getElem_cons_succ, List.setIfInBounds_toArray, List.set_cons_zero, List.set_cons_succ]
  refine J_one 9 rfl (by kernel_rfl) (fun K hK => ?_)
  go_simp
  refine hK _ _ ⟨fun _ => I3, ?_⟩
  clear hK K
  try simp only [Act.put, List.setIfInBounds_toArray, List.set_cons_zero, List.set_cons_succ]
  refine J_one 10 rfl (by kernel_rfl) (fun K hK => ?_)
  go_simp
  have hM := hid (RA.newOf (size := size) ho3.out)
  have hx4 := hid (hx3.out.alloc_right (.cells #[.int .i64 size, .slice Av l.length cv] 85))
  have hgw : Hid (w.heap.size ≤ w3.heap.size) := hx3.out.size
  have hfv : Hid (∀ k, (Value.slice Av l.length cv).ownBlock = some k → w.heap.size ≤ k) := own_freshB ho3.out
  have I4 : (fun w' : World => w'.cell? ⟨r, 0, none⟩ = some (.int .i64 size) ∧ w'.cell? ⟨r, 1, none⟩ = some (.slice Am l.length cm)) (w3.alloc (.cells #[.int .i64 size, .slice Av l.length cv] 85)) := ⟨((Ext.refl w3).alloc_right _).cell I3.1, ((Ext.refl w3).alloc_right _).cell I3.2⟩
  clear I3
  generalize w3.heap.size = rn at *
  generalize w3.alloc (.cells #[.int .i64 size, .slice Av l.length cv] 85) = w4 at *
  refine hK _ _ ⟨fun _ => I4, ?_⟩
  clear hK K
  try simp only [Act.put, List.getElem_toArray, List.getElem_cons_zero, List.getElem_cons_succ, List.setIfInBounds_toArray, List.set_cons_zero, List.set_cons_succ]
  refine J_one 11 rfl (by kernel_rfl) (fun K hK => ?_)
  go_simp
  refine hK _ _ ⟨fun _ => I4, ?_⟩
  clear hK K
  try simp only [Act.put, List.setIfInBounds_toArray, List.set_cons_zero, List.set_cons_succ]
  refine J_done (by kernel_rfl) (OnlyOn.normal ?_)
  go_wp2
  go_ret
  exact ⟨_, _, rfl, hM.out, hx4.out, hgw.out, hfv.out⟩
theorem RdA.at_ {w : World} {A : Option Addr} {n c : Nat} {l : List Ac} (h : RdA w A n c l) {k : Nat} (hk : k < n) : ∃ (ad : Addr) (x : Ac), A = some ad ∧ l[k]? = some x ∧ okA x ∧ w.cell? (ad.add (k * 6)) = some (.int .i64 x.op) ∧ w.cell? ⟨(ad.add (k * 6)).block, (ad.add (k * 6)).off + 1, none⟩ = some (.int .i64 x.a) ∧ w.cell? ⟨(ad.add (k * 6)).block, (ad.add (k * 6)).off + 2, none⟩ = some (.int .i64 x.b) ∧ w.cell? ⟨(ad.add (k * 6)).block, (ad.add (k * 6)).off + 3, none⟩ = some (.int .i64 x.c) ∧ w.cell? ⟨(ad.add (k * 6)).block, (ad.add (k * 6)).off + 4, none⟩ = some (.string x.s) ∧ w.cell? ⟨(ad.add (k * 6)).block, (ad.add (k * 6)).off + 5, none⟩ = some (.string x.t) := by
  obtain ⟨ad, hA, hc⟩ := h.1.2.2.2 (by omega)
  have hl : k < l.length := by rw [h.len]; exact hk
  refine ⟨ad, l[k], hA, List.getElem?_eq_getElem hl, h.2 _ (List.getElem_mem hl), ?_, ?_, ?_, ?_, ?_, ?_⟩
  · exact hc (k * 6 + 0) _ (by rw [acs_at l k hl 0 (by decide)]; rfl)
  · exact cell_fk (hc (k * 6 + 1) _ (by rw [acs_at l k hl 1 (by decide)]; rfl)) (by decide)
  · exact cell_fk (hc (k * 6 + 2) _ (by rw [acs_at l k hl 2 (by decide)]; rfl)) (by decide)
  · exact cell_fk (hc (k * 6 + 3) _ (by rw [acs_at l k hl 3 (by decide)]; rfl)) (by decide)
  · exact cell_fk (hc (k * 6 + 4) _ (by rw [acs_at l k hl 4 (by decide)]; rfl)) (by decide)
  · exact cell_fk (hc (k * 6 + 5) _ (by rw [acs_at l k hl 5 (by decide)]; rfl)) (by decide)
def OverP (n : Nat) (w : World) (e : Ending) (w' : World) : Prop := ∃ b : Bool, e = .returned (.bool b) ∧ (b = false → n ≤ 400) ∧ Ext w w'
set_option maxRecDepth 100000 in
set_option maxHeartbeats 4000000 in
theorem over_any (A : Option Addr) (n c : Nat) (l : List Ac) (w : World) (h : RdA w A n c l) : Calls Try.prog 18 #[.slice A n c] w (OverP n w) := by
  have hmx := Rd.max h.1
  replace h := hid h
  go_enter Try.func18, Try.ntmps18
  go_wp2_with fail
  go_loopw [3, 4] (fun s i wr => ∃ (k : Nat) (m : Int), k ≤ n ∧ i = .int .i64 k ∧ s = .int .i64 m ∧ Ext w wr) (fun _ i _ => n - (intOf i).toNat)
  case atStart => exact ⟨0, 0, by omega, rfl, rfl, Ext.refl _⟩
  case round =>
    obtain ⟨k, m, hk, rfl, rfl, hx⟩ := hrel
    by_cases hlt : k < n
    · obtain ⟨ad, x, rfl, _, _, _, _, _, _, x4, _⟩ := (h.out.ext hx).at_ hlt
      have hkk : (k : Int) < (n : Int) := by omega
      generalize x.s = xs at *
      go_wp2_with fail
      go_roundw
      case rel => exact ⟨k + 1, _, by omega, by go_num, rfl, hx⟩
      case measure => simp [intOf]; omega
    · obtain rfl : k = n := by omega
      have hkn : ¬ (k : Int) < (k : Int) := by omega
      by_cases h4 : 400 < k
      · have d : (400 : Int) < (k : Int) := by omega
        go_wp2
        go_ret
        exact ⟨true, rfl, fun h => (by cases h), hx⟩
      · have d : ¬ (400 : Int) < (k : Int) := by omega
        go_wp2
        go_ret
        exact ⟨_, rfl, fun _ => by omega, hx⟩
end Go.Proofs.Ytcgjhloiokpicaa
