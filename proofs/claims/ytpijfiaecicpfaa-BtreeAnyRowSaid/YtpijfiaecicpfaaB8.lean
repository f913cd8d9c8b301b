/-
  split: a kid of five entries becomes two.
-/
import Derived.Test.YtpijfiaecicpfaaB7
namespace Go.Proofs.Ytpijfiaecicpfaa
open Go.RowKit Go.Shelf
set_option linter.unusedVariables false
set_option linter.unusedSimpArgs false
set_option maxRecDepth 100000 in
set_option maxHeartbeats 4000000 in
theorem split_any (f : Nat → Nat) (p q i : Nat) (l lk : List Te) (ps pk : List Nat) (lv kv lq kq : Value) (w : World) (hp : w.heap[p]? = some (.cells #[lv, kv] 105 (0, 0))) (hq : w.heap[q]? = some (.cells #[lq, kq] 105 (0, 0)))
    (h1 : w.ownsRow 0 71 2 lv l.length (tents l)) (h2 : w.ownsRow 0 81 1 kv ps.length (ptrs ps)) (h3 : w.ownsRow 0 71 2 lq 5 (tents lk)) (h4 : w.ownsRow 0 81 1 kq pk.length (ptrs pk))
    (hpq : ps[i]? = some q) (hi : i ≤ l.length) (hl : l.length ≤ 10) (hps : ps.length ≤ 10) (hlk : lk.length = 5) (hpk : pk.length = 0 ∨ pk.length = 6)
    (hf : ∀ a, one1 p a + ob lv a + ob kv a + one1 q a + ob lq a + ob kq a ≤ 1) (hff : ∀ a, f a = one1 p a + ob lv a + ob kv a + one1 q a + ob lq a + ob kq a) :
    Calls Try.prog 77 #[.pointer (some ⟨p, 0, none⟩), .int .i64 i] w fun e w' => e = .returned (.tuple #[]) ∧ ∃ (r : Nat) (lv' kv' lq' kq' lr kr : Value),
      Tri f w w' p q r lv' kv' lq' kq' lr kr (l.length + 1) (ps.length + 1) 2 (pk.take 3).length 2 (pk.drop 3).length (tents (l.take i ++ tth lk 2 :: l.drop i)) (ptrs (ps.take (i + 1) ++ r :: ps.drop (i + 1))) (tents (lk.take 2)) (ptrs (pk.take 3)) (tents (lk.drop 3)) (ptrs (pk.drop 3)) := by
  obtain ⟨gl, cl, curl, rfl, -, hcl1, hcl2, -, -⟩ := row_open h3 (by omega)
  obtain ⟨A2, kc, rfl, hkr⟩ := own_rd h2
  have hil : i < ps.length := (List.getElem?_eq_some_iff.1 hpq).1
  obtain ⟨kad, rfl, hkc⟩ := hkr.2.2.2 (by omega)
  have ck := hkc i _ (show (ptrs ps)[i]? = some (.pointer (some ⟨q, 0, none⟩)) by unfold ptrs; rw [List.getElem?_map, hpq]; rfl)
  have hkm := Rd.max hkr
  have cp1 := node_c1 hp
  have cq0 := node_c0 hq
  have cq1 := node_c1 hq
  have hki : (i : Int) < (ps.length : Int) := by omega
  have hce : Hid (∀ W : World, W.ownsRow 0 71 2 (.slice (some ⟨gl, 0, none⟩) 5 cl) 5 (tents lk) → W.cell? ⟨gl, 4, none⟩ = some (.string (tth lk 2).key) ∧ W.cell? ⟨gl, 5, none⟩ = some (.int .i64 (tth lk 2).no)) := fun W h => by
    have hc := h.cells (g := gl) rfl
    have e1 := hc (2 * 2 + 0) _ (by rw [tents_at lk 2 (by omega) 0 (by decide)]; rfl)
    have e2 := hc (2 * 2 + 1) _ (by rw [tents_at lk 2 (by omega) 1 (by decide)]; rfl)
    rw [lit_add] at e1 e2
    rw [tth_get (by omega)]
    exact ⟨e1, e2⟩
  have hR1 : Rd w 2 (some ⟨gl, 6, none⟩) 2 (cl - 3) (tents (lk.drop 3)) := by
    have := (Rd.of_own h3).sub (a := 3) (b := 5) (by omega) (by omega)
    rw [tents_drop, List.take_of_length_le (by rw [tents_len, List.length_drop]; omega)] at this
    exact this
  go_enter Try.func77, Try.ntmps77
  go_wp2_with fail
  refine (clone_N (some ⟨gl, 6, none⟩) 2 (cl - 3) (tents (lk.drop 3)) w (by omega) hR1 (tents_one _)).mono ?_
  rintro e w1 ⟨vr, rfl, olr, hx1⟩
  obtain ⟨Ar, cr, rfl, -⟩ := own_form olr
  have hb := heap_alloc_new w1 (.cells #[.slice Ar 2 cr, .slice none 0 0] 105)
  have hxa := (Ext.refl w1).alloc_right (.cells #[.slice Ar 2 cr, .slice none 0 0] 105)
  have hx2 := hid (hx1.trans hxa)
  have tri : Hid (Tri f w (w1.alloc (.cells #[.slice Ar 2 cr, .slice none 0 0] 105)) p q w1.heap.size lv (.slice (some kad) ps.length kc) (.slice (some ⟨gl, 0, none⟩) 5 cl) kq (.slice Ar 2 cr) (.slice none 0 0) l.length ps.length 5 pk.length 2 0 (tents l) (ptrs ps) (tents lk) (ptrs pk) (tents (lk.drop 3)) []) := by
    have hsz := hx1.size
    have hr0 : ∀ a, a < w.heap.size → one1 w1.heap.size a + ob (.slice Ar 2 cr) a = 0 := fun a ha => by
      have e1 : one1 w1.heap.size a = 0 := if_neg (by omega)
      have e2 : ob (.slice Ar 2 cr) a = 0 := if_neg (fun e => by have := own_freshB olr a e; omega)
      omega
    have hr1 : ∀ a, one1 w1.heap.size a + ob (.slice Ar 2 cr) a ≤ 1 := fun a => by
      by_cases e : a = w1.heap.size
      · have e2 : ob (.slice Ar 2 cr) a = 0 := if_neg (fun e3 => by have := (olr.lt a e3).2; omega)
        have : one1 w1.heap.size a ≤ 1 := by unfold one1; split <;> omega
        omega
      · have e1 : one1 w1.heap.size a = 0 := if_neg e
        have : ob (.slice Ar 2 cr) a ≤ 1 := by unfold ob; split <;> omega
        omega
    have hn0 : ∀ a, ob (.slice none 0 0) a = 0 := fun a => if_neg (fun e => by cases e)
    refine ⟨(hx2.out.block (Array.getElem?_eq_some_iff.1 hp).1).trans hp, (hx2.out.block (Array.getElem?_eq_some_iff.1 hq).1).trans hq, hb, hx2.out.own h1, hx2.out.own h2, hx2.out.own h3, hx2.out.own h4, own_baseK (hxa.own olr) (Nat.zero_le _), World.ownsRow_nil _ _ _ _, fun a => ?_, FR.of_ext hx2.out, fun a ha => ?_⟩
    · rw [hn0 a]
      by_cases ha : a < w.heap.size
      · have := hr0 a ha; have := hf a; omega
      · have := hr1 a
        rw [one_bound hp (Nat.le_of_not_lt ha), one_bound hq (Nat.le_of_not_lt ha), own_bound h1 (Nat.le_of_not_lt ha), own_bound h2 (Nat.le_of_not_lt ha), own_bound h3 (Nat.le_of_not_lt ha), own_bound h4 (Nat.le_of_not_lt ha)]
        omega
    · rw [hn0 a, hff a]; have := hr0 a ha; omega
  replace cp1 := hx2.out.cell cp1
  replace cq0 := hx2.out.cell cq0
  replace cq1 := hx2.out.cell cq1
  have hcr1 := node_c1 tri.out.hr
  have hcr2 := Lib.frozen_of_heap tri.out.hr 1
  have hcq2 := Lib.frozen_of_heap tri.out.hq 1
  have hrw1 : w1.heap.size < (w1.alloc (.cells #[.slice Ar 2 cr, .slice none 0 0] 105)).heap.size := by simp
  clear hb hxa hx1 olr hR1 hp hq h1 h2 h3 ck hkc hkr
  rcases hpk with h0 | h6
  · obtain rfl : pk = [] := List.eq_nil_of_length_eq_zero h0
    obtain ⟨Aq, cq3, rfl, -⟩ := own_rd tri.out.o4
    go_upto_region 6 with fail
    generalize w1.heap.size = r at *
    generalize w1.alloc (.cells #[.slice Ar 2 cr, .slice none 0 0] 105) = W at *
    clear hcr1 hcr2 hcq2 hrw1 hx2 cp1 cq0 cq1
    obtain ⟨Al, cl2, rfl, hrl⟩ := own_rd tri.out.o1
    have hml := Rd.max hrl
    have tri' := hid (tri.out.ext (Ext.refl W).drew_right)
    have I0 : (fun w' : World => w'.cell? ⟨p, 0, none⟩ = some (.slice Al l.length cl2) ∧ w'.cell? ⟨q, 0, none⟩ = some (.slice (some ⟨gl, 0, none⟩) 5 cl) ∧ w'.cell? ⟨gl, 4, none⟩ = some (.string (tth lk 2).key) ∧ w'.cell? ⟨gl, 5, none⟩ = some (.int .i64 (tth lk 2).no)) W.drew := ⟨node_c0 tri'.out.hp, node_c0 tri'.out.hq, (hce.out _ tri'.out.o3).1, (hce.out _ tri'.out.o3).2⟩
    refine region_J (fun w' : World => w'.cell? ⟨p, 0, none⟩ = some (.slice Al l.length cl2) ∧ w'.cell? ⟨q, 0, none⟩ = some (.slice (some ⟨gl, 0, none⟩) 5 cl) ∧ w'.cell? ⟨gl, 4, none⟩ = some (.string (tth lk 2).key) ∧ w'.cell? ⟨gl, 5, none⟩ = some (.int .i64 (tth lk 2).no)) 17 (by kernel_rfl) ?_
    clear tri hrl
    generalize W.drew = W at *
    refine J_take 0 (v := ?vax0) rfl (by kernel_rfl) (by kernel_rfl) (by kernel_rfl) (by kernel_rfl) (fun _ _ _ h => h) (Or.inl ⟨by rfl, ?yax0⟩) I0 ?rax0
    case yax0 => (intro w hSw; obtain ⟨_, _, _, _⟩ := hSw; (go_simp; with_reducible rfl))
    simp only [Act.put, List.getElem_toArray, List.getElem_cons_zero, List.getElem_cons_succ, List.setIfInBounds_toArray, List.set_cons_zero, List.set_cons_succ]
    refine J_take 1 (v := ?vax1) rfl (by kernel_rfl) (by kernel_rfl) (by kernel_rfl) (by kernel_rfl) (fun _ _ _ h => h) (Or.inl ⟨by rfl, ?yax1⟩) I0 ?rax1
    case yax1 => (intro w hSw; obtain ⟨_, _, _, _⟩ := hSw; (go_simp; with_reducible rfl))
    simp only [Act.put, List.getElem_toArray, List.getElem_cons_zero, List.getElem_cons_succ, List.setIfInBounds_toArray, List.set_cons_zero, List.set_cons_succ]
    refine J_take 2 (v := ?vax2) rfl (by kernel_rfl) (by kernel_rfl) (by kernel_rfl) (by kernel_rfl) (fun _ _ _ h => h) (Or.inl ⟨by rfl, ?yax2⟩) I0 ?rax2
    case yax2 => (intro w hSw; obtain ⟨_, _, _, _⟩ := hSw; (go_simp; with_reducible rfl))
    simp only [Act.put, List.getElem_toArray, List.getElem_cons_zero, List.getElem_cons_succ, List.setIfInBounds_toArray, List.set_cons_zero, List.set_cons_succ]
    refine J_take 3 (v := ?vax3) rfl (by kernel_rfl) (by kernel_rfl) (by kernel_rfl) (by kernel_rfl) (fun _ _ _ h => h) (Or.inl ⟨by rfl, ?yax3⟩) I0 ?rax3
    case yax3 => (intro w hSw; obtain ⟨_, _, _, _⟩ := hSw; (go_simp; with_reducible rfl))
    simp only [Act.put, List.getElem_toArray, List.getElem_cons_zero, List.getElem_cons_succ, List.setIfInBounds_toArray, List.set_cons_zero, List.set_cons_succ]
    refine J_take 4 (v := ?vax4) rfl (by kernel_rfl) (by kernel_rfl) (by kernel_rfl) (by kernel_rfl) (fun _ _ _ h => h) (Or.inl ⟨by rfl, ?yax4⟩) I0 ?rax4
    case yax4 => (intro w hSw; obtain ⟨_, _, _, _⟩ := hSw; (go_simp; with_reducible rfl))
    simp only [Act.put, List.getElem_toArray, List.getElem_cons_zero, List.getElem_cons_succ, List.setIfInBounds_toArray, List.set_cons_zero, List.set_cons_succ]
    refine J_take 5 (v := ?vax5) rfl (by kernel_rfl) (by kernel_rfl) (by kernel_rfl) (by kernel_rfl) (fun _ _ _ h => h) (Or.inl ⟨by rfl, ?yax5⟩) I0 ?rax5
    case yax5 => (intro w hSw; obtain ⟨_, _, _, _⟩ := hSw; (go_simp; with_reducible rfl))
    simp only [Act.put, List.getElem_toArray, List.getElem_cons_zero, List.getElem_cons_succ, List.setIfInBounds_toArray, List.set_cons_zero, List.set_cons_succ]
    refine J_take 6 (v := ?vax6) rfl (by kernel_rfl) (by kernel_rfl) (by kernel_rfl) (by kernel_rfl) (fun _ _ _ h => h) (Or.inl ⟨by rfl, ?yax6⟩) I0 ?rax6
    case yax6 => (intro w hSw; obtain ⟨_, _, _, _⟩ := hSw; (go_simp; with_reducible rfl))
    simp only [Act.put, List.getElem_toArray, List.getElem_cons_zero, List.getElem_cons_succ, List.setIfInBounds_toArray, List.set_cons_zero, List.set_cons_succ]
    refine J_take 7 (v := ?vax7) rfl (by kernel_rfl) (by kernel_rfl) (by kernel_rfl) (by kernel_rfl) (fun _ _ _ h => h) (Or.inl ⟨by rfl, ?yax7⟩) I0 ?rax7
    case yax7 => (intro w hSw; obtain ⟨_, _, _, _⟩ := hSw; (go_simp; with_reducible rfl))
    simp only [Act.put, List.getElem_toArray, List.getElem_cons_zero, List.getElem_cons_succ, List.setIfInBounds_toArray, List.set_cons_zero, List.set_cons_succ]
    refine J_take 8 (v := ?vax8) rfl (by kernel_rfl) (by kernel_rfl) (by kernel_rfl) (by kernel_rfl) (fun _ _ _ h => h) (Or.inl ⟨by rfl, ?yax8⟩) I0 ?rax8
    case yax8 => (intro w hSw; obtain ⟨_, _, _, _⟩ := hSw; (go_simp; with_reducible rfl))
    simp only [Act.put, List.getElem_toArray, List.getElem_cons_zero, List.getElem_cons_succ, List.setIfInBounds_toArray, List.set_cons_zero, List.set_cons_succ]
    refine J_take 9 (v := ?vax9) rfl (by kernel_rfl) (by kernel_rfl) (by kernel_rfl) (by kernel_rfl) (fun _ _ _ h => h) (Or.inl ⟨by rfl, ?yax9⟩) I0 ?rax9
    case yax9 => (intro w hSw; obtain ⟨_, _, _, _⟩ := hSw; (go_simp; with_reducible rfl))
    simp only [Act.put, List.getElem_toArray, List.getElem_cons_zero, List.getElem_cons_succ, List.setIfInBounds_toArray, List.set_cons_zero, List.set_cons_succ]
    refine J_take 10 (v := ?vax10) rfl (by kernel_rfl) (by kernel_rfl) (by kernel_rfl) (by kernel_rfl) (fun _ _ _ h => h) (Or.inl ⟨by rfl, ?yax10⟩) I0 ?rax10
    case yax10 => (intro w hSw; obtain ⟨_, _, _, _⟩ := hSw; (go_simp; with_reducible rfl))
    simp only [Act.put, List.getElem_toArray, List.getElem_cons_zero, List.getElem_cons_succ, List.setIfInBounds_toArray, List.set_cons_zero, List.set_cons_succ]
    refine J_take 11 (v := ?vax11) rfl (by kernel_rfl) (by kernel_rfl) (by kernel_rfl) (by kernel_rfl) (fun _ _ _ h => h) (Or.inl ⟨by rfl, ?yax11⟩) I0 ?rax11
    case yax11 => (intro w hSw; obtain ⟨_, _, _, _⟩ := hSw; (go_simp; with_reducible rfl))
    simp only [Act.put, List.getElem_toArray, List.getElem_cons_zero, List.getElem_cons_succ, List.setIfInBounds_toArray, List.set_cons_zero, List.set_cons_succ]
    refine J_take 12 (v := ?vax12) rfl (by kernel_rfl) (by kernel_rfl) (by kernel_rfl) (by kernel_rfl) (fun _ _ _ h => h) (Or.inl ⟨by rfl, ?yax12⟩) I0 ?rax12
    case yax12 => (intro w hSw; obtain ⟨_, _, _, _⟩ := hSw; (go_simp; with_reducible rfl))
    simp only [Act.put, List.getElem_toArray, List.getElem_cons_zero, List.getElem_cons_succ, List.setIfInBounds_toArray, List.set_cons_zero, List.set_cons_succ]
    refine J_one 13 rfl (by kernel_rfl) (fun K hK => ?_)
    go_simp
    have tri2 := hid (tri'.out.ext ((Ext.refl W).alloc_right (.cells #[.string (tth lk 2).key, .int .i64 (tth lk 2).no] 71)))
    have hva := hid (heap_alloc_new W (.cells #[.string (tth lk 2).key, .int .i64 (tth lk 2).no] 71))
    have hne : Hid ((Value.slice Al l.length cl2).ownBlock ≠ some W.heap.size) := fun e => by have := (tri'.out.o1.lt _ e).2; omega
    have I1 : (fun w' : World => w'.cell? ⟨p, 0, none⟩ = some (.slice Al l.length cl2) ∧ w'.cell? ⟨q, 0, none⟩ = some (.slice (some ⟨gl, 0, none⟩) 5 cl) ∧ w'.cell? ⟨gl, 4, none⟩ = some (.string (tth lk 2).key) ∧ w'.cell? ⟨gl, 5, none⟩ = some (.int .i64 (tth lk 2).no)) (W.alloc (.cells #[.string (tth lk 2).key, .int .i64 (tth lk 2).no] 71)) := ⟨((Ext.refl W).alloc_right _).cell I0.1, ((Ext.refl W).alloc_right _).cell I0.2.1, ((Ext.refl W).alloc_right _).cell I0.2.2.1, ((Ext.refl W).alloc_right _).cell I0.2.2.2⟩
    clear tri'
    generalize W.heap.size = va at *
    generalize W.alloc (.cells #[.string (tth lk 2).key, .int .i64 (tth lk 2).no] 71) = W1 at *
    refine hK _ _ ⟨fun _ => I1, ?_⟩
    clear hK K
    try simp only [Act.put, List.getElem_toArray, List.getElem_cons_zero, List.getElem_cons_succ, List.setIfInBounds_toArray, List.set_cons_zero, List.set_cons_succ]
    refine J_one 14 rfl (by kernel_rfl) (fun K hK => ?_)
    go_simp
    refine (ins_N l.length i _ (tents l) [.string (tth lk 2).key, .int .i64 (tth lk 2).no] va W1 hi (by omega) tri2.out.o1 (tents_one _) hva.out rfl (tents_one [tth lk 2]) hne.out).mono ?_
    rintro e W2 ⟨v', rfl, ho', hrw⟩
    have tri3 : ∀ u, u = v' → Tri f w (W2.setCell ⟨p, 0, none⟩ u) p q r u (.slice (some kad) ps.length kc) (.slice (some ⟨gl, 0, none⟩) 5 cl) (.slice Aq 0 cq3) (.slice Ar 2 cr) (.slice none 0 0) (l.length + 1) ps.length 5 0 2 0 ((tents l).take (i * 2) ++ ([.string (tth lk 2).key, .int .i64 (tth lk 2).no] ++ (tents l).drop (i * 2))) (ptrs ps) (tents lk) (ptrs []) (tents (lk.drop 3)) [] := fun u e => by rw [e]; exact tri2.out.rep0 hrw.1 ho' hrw.2
    replace tri3 := hid tri3
    have hp2 : W2.cell? ⟨p, 0, none⟩ = some (.slice Al l.length cl2) := node_c0 ((hrw.1.block p (Array.getElem?_eq_some_iff.1 tri2.out.hp).1 (fun e0 => by have := tri2.out.nd p; rw [ob_some e0.symm, one_self] at this; omega)).trans tri2.out.hp)
    have hf2 : W2.frozen? ⟨p, 0, none⟩ = false := Lib.frozen_of_heap ((hrw.1.block p (Array.getElem?_eq_some_iff.1 tri2.out.hp).1 (fun e0 => by have := tri2.out.nd p; rw [ob_some e0.symm, one_self] at this; omega)).trans tri2.out.hp) 0
    have I2 : (fun w' : World => w'.cell? ⟨p, 0, none⟩ = some (.slice Al l.length cl2) ∧ w'.cell? ⟨q, 0, none⟩ = some (.slice (some ⟨gl, 0, none⟩) 5 cl) ∧ w'.cell? ⟨gl, 4, none⟩ = some (.string (tth lk 2).key) ∧ w'.cell? ⟨gl, 5, none⟩ = some (.int .i64 (tth lk 2).no)) W2 := by
      refine ⟨hp2, node_c0 ((hrw.1.block q (Array.getElem?_eq_some_iff.1 tri2.out.hq).1 (fun e0 => by have := tri2.out.nd q; rw [ob_some e0.symm, one_self] at this; omega)).trans tri2.out.hq), ?_, ?_⟩
      · exact (hce.out _ (own_ne tri2.out.o3 hrw.1 (fun k e e2 => by have := tri2.out.nd k; rw [ob_some e, ob_some e2] at this; omega))).1
      · exact (hce.out _ (own_ne tri2.out.o3 hrw.1 (fun k e e2 => by have := tri2.out.nd k; rw [ob_some e, ob_some e2] at this; omega))).2
    obtain ⟨Av, cv, rfl, -⟩ := own_form ho'
    clear ho' hrw tri2 hva hne I1 I0
    refine hK _ _ ⟨fun _ => I2, ?_⟩
    clear hK K
    try simp only [Act.put, List.getElem_toArray, List.getElem_cons_zero, List.getElem_cons_succ, List.setIfInBounds_toArray, List.set_cons_zero, List.set_cons_succ]
    refine J_one 15 rfl (by kernel_rfl) (fun K hK => ?_)
    go_simp
    refine hK _ _ ⟨fun _ => I2, ?_⟩
    clear hK K
    try simp only [Act.put, List.setIfInBounds_toArray, List.set_cons_zero, List.set_cons_succ]
    refine J_one 16 rfl (by kernel_rfl) (fun K hK => ?_)
    go_simp
    refine hK _ _ ⟨fun _ => I2, ?_⟩
    clear hK K
    try simp only [Act.put, List.setIfInBounds_toArray, List.set_cons_zero, List.set_cons_succ]
    refine J_one 17 rfl (by kernel_rfl) (fun K hK => ?_)
    go_simp
    refine hK _ _ ⟨fun h => absurd rfl h, ?_⟩
    clear hK K
    refine J_done (by kernel_rfl) (OnlyOn.normal ?_)
    replace tri3 := hid (tri3.out _ rfl)
    clear I2 hp2 hf2
    generalize W2.setCell ⟨p, 0, none⟩ (.slice Av (l.length + 1) cv) = W3 at *
    have cp1 := node_c1 tri3.out.hp
    have cq0 := node_c0 tri3.out.hq
    have hw9 : IntKind.i64.wrap ((i : Int) + 1) = ((i + 1 : Nat) : Int) := by rw [IntWalk.i64_in _ (by omega)]; omega
    have lpW := World.block_lt_of_cell? _ _ cp1
    dsimp only at lpW
    have lqW := World.block_lt_of_cell? _ _ cq0
    dsimp only at lqW
    obtain ⟨j, hj⟩ : ∃ j, j = i + 1 := ⟨_, rfl⟩
    rw [← hj] at hw9
    replace hj := hid hj
    have tri4 := hid (tri3.out.ext ((Ext.refl W3).alloc_right (.cells #[.pointer (some ⟨r, 0, none⟩)] 81)))
    have hva := hid (heap_alloc_new W3 (.cells #[.pointer (some ⟨r, 0, none⟩)] 81))
    have hne : Hid ((Value.slice (some kad) ps.length kc).ownBlock ≠ some W3.heap.size) := fun e => by have := (tri3.out.o2.lt _ e).2; omega
    have hx9 := (Ext.refl W3).alloc_right (.cells #[.pointer (some ⟨r, 0, none⟩)] 81)
    clear tri3
    go_wp2_with fail
    replace cp1 := hx9.cell cp1
    replace cq0 := hx9.cell cq0
    clear hx9
    generalize W3.heap.size = va at *
    generalize W3.alloc (.cells #[.pointer (some ⟨r, 0, none⟩)] 81) = W4 at *
    refine (ins_K ps.length j _ (ptrs ps) [.pointer (some ⟨r, 0, none⟩)] va W4 (by have := hj.out; omega) (by omega) tri4.out.o2 (ptrs_one _) hva.out rfl (ptrs_one [r]) hne.out).mono ?_
    rintro e W5 ⟨v', rfl, ho', hrw⟩
    have tri5 : ∀ u, u = v' → Tri f w (W5.setCell ⟨p, 1, none⟩ u) p q r (.slice Av (l.length + 1) cv) u (.slice (some ⟨gl, 0, none⟩) 5 cl) (.slice Aq 0 cq3) (.slice Ar 2 cr) (.slice none 0 0) (l.length + 1) (ps.length + 1) 5 0 2 0 ((tents l).take (i * 2) ++ ([.string (tth lk 2).key, .int .i64 (tth lk 2).no] ++ (tents l).drop (i * 2))) ((ptrs ps).take (j * 1) ++ ([.pointer (some ⟨r, 0, none⟩)] ++ (ptrs ps).drop (j * 1))) (tents lk) (ptrs []) (tents (lk.drop 3)) [] := fun u e => by rw [e]; exact tri4.out.rep1 hrw.1 ho' hrw.2
    replace tri5 := hid tri5
    have bp := hid ((hrw.1.block p (Array.getElem?_eq_some_iff.1 tri4.out.hp).1 (fun e0 => by have := tri4.out.nd p; rw [ob_some e0.symm, one_self] at this; omega)).trans tri4.out.hp)
    have hp2 := node_c1 bp.out
    have hf2 := Lib.frozen_of_heap bp.out 1
    obtain ⟨Aw, cw, rfl, -⟩ := own_form ho'
    have cq0' : (W5.setCell ⟨p, 1, none⟩ (.slice Aw (ps.length + 1) cw)).cell? ⟨q, 0, none⟩ = some (.slice (some ⟨gl, 0, none⟩) 5 cl) := node_c0 (tri5.out _ rfl).hq
    have cfq : (W5.setCell ⟨p, 1, none⟩ (.slice Aw (ps.length + 1) cw)).frozen? ⟨q, 0, none⟩ = false := Lib.frozen_of_heap (tri5.out _ rfl).hq 0
    have hRl : Hid (∀ W, W.ownsRow 0 71 2 (.slice (some ⟨gl, 0, none⟩) 5 cl) 5 (tents lk) → Rd W 2 (some ⟨gl, 0, none⟩) 2 cl (tents (lk.take 2))) := fun W h => by have := (Rd.of_own h).takeK (m := 2) (by omega); rw [tents_take] at this; exact this
    replace tri5 := hid (tri5.out _ rfl)
    clear ho' hrw tri4 hva hne bp cp1 cq0
    go_wp2_with fail
    clear hp2 hf2
    generalize W5.setCell ⟨p, 1, none⟩ (.slice Aw (ps.length + 1) cw) = W6 at *
    refine (clone_N (some ⟨gl, 0, none⟩) 2 cl (tents (lk.take 2)) W6 (by omega) (hRl.out W6 tri5.out.o3) (tents_one _)).mono ?_
    rintro e W7 ⟨v7, rfl, ho7, hx7⟩
    obtain ⟨A7, c7, rfl, -⟩ := own_form ho7
    have tri7 : ∀ u, u = Value.slice A7 2 c7 → Tri f w (W7.setCell ⟨q, 0, none⟩ u) p q r (.slice Av (l.length + 1) cv) (.slice Aw (ps.length + 1) cw) u (.slice Aq 0 cq3) (.slice Ar 2 cr) (.slice none 0 0) (l.length + 1) (ps.length + 1) 2 0 2 0 ((tents l).take (i * 2) ++ ([.string (tth lk 2).key, .int .i64 (tth lk 2).no] ++ (tents l).drop (i * 2))) ((ptrs ps).take (j * 1) ++ ([.pointer (some ⟨r, 0, none⟩)] ++ (ptrs ps).drop (j * 1))) (tents (lk.take 2)) (ptrs []) (tents (lk.drop 3)) [] := fun u e => by rw [e]; exact (tri5.out.rot.rep0 (W' := W7) (Ext.grown hx7 _) (own_baseK ho7 (Nat.zero_le _)) (.inr (own_freshB ho7))).rot.rot
    replace tri7 := hid (tri7 _ rfl)
    replace cq0' := hx7.cell cq0'
    have cfq7 : W7.frozen? ⟨q, 0, none⟩ = false := Lib.frozen_of_heap ((hx7.block (Array.getElem?_eq_some_iff.1 tri5.out.hq).1).trans tri5.out.hq) 0
    have eL : Hid ((tents l).take (i * 2) ++ ([.string (tth lk 2).key, .int .i64 (tth lk 2).no] ++ (tents l).drop (i * 2)) = tents (l.take i ++ tth lk 2 :: l.drop i)) := by unfold Hid; rw [tents_take, tents_drop, tents_append]; rfl
    have eK : Hid ((ptrs ps).take (j * 1) ++ ([.pointer (some ⟨r, 0, none⟩)] ++ (ptrs ps).drop (j * 1)) = ptrs (ps.take (i + 1) ++ r :: ps.drop (i + 1))) := by
      unfold Hid; rw [hj.out, Nat.mul_one]; unfold ptrs; rw [List.map_append, List.map_cons, List.map_take, List.map_drop]; rfl
    clear ho7 hx7 tri5 cfq
    go_wp2_with fail
    go_end0
    refine ⟨rfl, r, .slice Av (l.length + 1) cv, .slice Aw (ps.length + 1) cw, .slice A7 2 c7, (.slice Aq 0 cq3), .slice Ar 2 cr, (.slice none 0 0), ?_⟩
    have hfin := tri7.out
    rw [eL.out, eK.out] at hfin
    exact hfin
  · rw [h6] at tri
    obtain ⟨gk, ck3, curk, rfl, -, hck1, hck2, -, -⟩ := row_open tri.out.o4 (by omega)
    have hRa : Hid (∀ W : World, W.ownsRow 0 81 1 (.slice (some ⟨gk, 0, none⟩) 6 ck3) 6 (ptrs pk) → Rd W 1 (some ⟨gk, 3, none⟩) 3 (ck3 - 3) (ptrs (pk.drop 3))) := fun W h => by
      have := (Rd.of_own h).sub (a := 3) (b := 6) (by omega) (by omega)
      rw [show (ptrs pk).drop (3 * 1) = ptrs (pk.drop 3) by unfold ptrs; rw [List.map_drop], List.take_of_length_le (by rw [ptrs_len, List.length_drop]; omega)] at this
      exact this
    have hRb : Hid (∀ W : World, W.ownsRow 0 81 1 (.slice (some ⟨gk, 0, none⟩) 6 ck3) 6 (ptrs pk) → Rd W 1 (some ⟨gk, 0, none⟩) 3 ck3 (ptrs (pk.take 3))) := fun W h => by
      have := (Rd.of_own h).takeK (m := 3) (by omega)
      rw [show (ptrs pk).take (3 * 1) = ptrs (pk.take 3) by unfold ptrs; rw [List.map_take]] at this
      exact this
    have hnk : ¬ ck3 = 3 := by omega
    go_wp2_with fail
    generalize w1.heap.size = r at *
    generalize w1.alloc (.cells #[.slice Ar 2 cr, .slice none 0 0] 105) = W0 at *
    refine (clone_K (some ⟨gk, 3, none⟩) 3 (ck3 - 3) (ptrs (pk.drop 3)) W0 (by omega) (hRa.out W0 tri.out.o4) (ptrs_one _)).mono ?_
    rintro e W1 ⟨v1, rfl, ho1, hx1⟩
    obtain ⟨A1, c1, rfl, -⟩ := own_form ho1
    have tri1 : ∀ u, u = Value.slice A1 3 c1 → Tri f w (W1.setCell ⟨r, 1, none⟩ u) p q r lv (.slice (some kad) ps.length kc) (.slice (some ⟨gl, 0, none⟩) 5 cl) (.slice (some ⟨gk, 0, none⟩) 6 ck3) (.slice Ar 2 cr) u l.length ps.length 5 6 2 3 (tents l) (ptrs ps) (tents lk) (ptrs pk) (tents (lk.drop 3)) (ptrs (pk.drop 3)) := fun u e => by rw [e]; exact (tri.out.rot.rot.rep1 (W' := W1) (Ext.grown hx1 _) (own_baseK ho1 (Nat.zero_le _)) (.inr (own_freshB ho1))).rot
    replace tri1 := hid (tri1 _ rfl)
    replace hcr1 := hx1.cell hcr1
    have hcr3 : W1.frozen? ⟨r, 1, none⟩ = false := Lib.frozen_of_heap ((hx1.block (Array.getElem?_eq_some_iff.1 tri.out.hr).1).trans tri.out.hr) 1
    replace cq1 := node_c1 tri1.out.hq
    have hcq3 := Lib.frozen_of_heap tri1.out.hq 1
    clear ho1 hx1 tri hcr2 hcq2 hRa hx2 cp1 cq0
    go_wp2_with fail
    clear hcr1 hcr3
    generalize W1.setCell ⟨r, 1, none⟩ (.slice A1 3 c1) = W2 at *
    refine (clone_K (some ⟨gk, 0, none⟩) 3 ck3 (ptrs (pk.take 3)) W2 (by omega) (hRb.out W2 tri1.out.o4) (ptrs_one _)).mono ?_
    rintro e W3 ⟨v3, rfl, ho3, hx3⟩
    obtain ⟨A3, c3, rfl, -⟩ := own_form ho3
    have tri3 : ∀ u, u = Value.slice A3 3 c3 → Tri f w (W3.setCell ⟨q, 1, none⟩ u) p q r lv (.slice (some kad) ps.length kc) (.slice (some ⟨gl, 0, none⟩) 5 cl) u (.slice Ar 2 cr) (.slice A1 3 c1) l.length ps.length 5 3 2 3 (tents l) (ptrs ps) (tents lk) (ptrs (pk.take 3)) (tents (lk.drop 3)) (ptrs (pk.drop 3)) := fun u e => by rw [e]; exact (tri1.out.rot.rep1 (W' := W3) (Ext.grown hx3 _) (own_baseK ho3 (Nat.zero_le _)) (.inr (own_freshB ho3))).rot.rot
    have tri := hid (tri3 _ rfl)
    replace cq1 := hx3.cell cq1
    have hcq4 : W3.frozen? ⟨q, 1, none⟩ = false := Lib.frozen_of_heap ((hx3.block (Array.getElem?_eq_some_iff.1 tri1.out.hq).1).trans tri1.out.hq) 1
    clear ho3 hx3 tri1 tri3 hRb hcq3
    go_upto_region 6 with fail
    generalize W3.setCell ⟨q, 1, none⟩ (.slice A3 3 c3) = W at *
    clear hcq4 cq1
    obtain ⟨Al, cl2, rfl, hrl⟩ := own_rd tri.out.o1
    have hml := Rd.max hrl
    have tri' := hid (tri.out.ext (Ext.refl W).drew_right)
    have I0 : (fun w' : World => w'.cell? ⟨p, 0, none⟩ = some (.slice Al l.length cl2) ∧ w'.cell? ⟨q, 0, none⟩ = some (.slice (some ⟨gl, 0, none⟩) 5 cl) ∧ w'.cell? ⟨gl, 4, none⟩ = some (.string (tth lk 2).key) ∧ w'.cell? ⟨gl, 5, none⟩ = some (.int .i64 (tth lk 2).no)) W.drew := ⟨node_c0 tri'.out.hp, node_c0 tri'.out.hq, (hce.out _ tri'.out.o3).1, (hce.out _ tri'.out.o3).2⟩
    refine region_J (fun w' : World => w'.cell? ⟨p, 0, none⟩ = some (.slice Al l.length cl2) ∧ w'.cell? ⟨q, 0, none⟩ = some (.slice (some ⟨gl, 0, none⟩) 5 cl) ∧ w'.cell? ⟨gl, 4, none⟩ = some (.string (tth lk 2).key) ∧ w'.cell? ⟨gl, 5, none⟩ = some (.int .i64 (tth lk 2).no)) 17 (by kernel_rfl) ?_
    clear tri hrl
    generalize W.drew = W at *
    refine J_take 0 (v := ?vbx0) rfl (by kernel_rfl) (by kernel_rfl) (by kernel_rfl) (by kernel_rfl) (fun _ _ _ h => h) (Or.inl ⟨by rfl, ?ybx0⟩) I0 ?rbx0
    case ybx0 => (intro w hSw; obtain ⟨_, _, _, _⟩ := hSw; (go_simp; with_reducible rfl))
    simp only [Act.put, List.getElem_toArray, List.getElem_cons_zero, List.getElem_cons_succ, List.setIfInBounds_toArray, List.set_cons_zero, List.set_cons_succ]
    refine J_take 1 (v := ?vbx1) rfl (by kernel_rfl) (by kernel_rfl) (by kernel_rfl) (by kernel_rfl) (fun _ _ _ h => h) (Or.inl ⟨by rfl, ?ybx1⟩) I0 ?rbx1
    case ybx1 => (intro w hSw; obtain ⟨_, _, _, _⟩ := hSw; (go_simp; with_reducible rfl))
    simp only [Act.put, List.getElem_toArray, List.getElem_cons_zero, List.getElem_cons_succ, List.setIfInBounds_toArray, List.set_cons_zero, List.set_cons_succ]
    refine J_take 2 (v := ?vbx2) rfl (by kernel_rfl) (by kernel_rfl) (by kernel_rfl) (by kernel_rfl) (fun _ _ _ h => h) (Or.inl ⟨by rfl, ?ybx2⟩) I0 ?rbx2
    case ybx2 => (intro w hSw; obtain ⟨_, _, _, _⟩ := hSw; (go_simp; with_reducible rfl))
    simp only [Act.put, List.getElem_toArray, List.getElem_cons_zero, List.getElem_cons_succ, List.setIfInBounds_toArray, List.set_cons_zero, List.set_cons_succ]
    refine J_take 3 (v := ?vbx3) rfl (by kernel_rfl) (by kernel_rfl) (by kernel_rfl) (by kernel_rfl) (fun _ _ _ h => h) (Or.inl ⟨by rfl, ?ybx3⟩) I0 ?rbx3
    case ybx3 => (intro w hSw; obtain ⟨_, _, _, _⟩ := hSw; (go_simp; with_reducible rfl))
    simp only [Act.put, List.getElem_toArray, List.getElem_cons_zero, List.getElem_cons_succ, List.setIfInBounds_toArray, List.set_cons_zero, List.set_cons_succ]
    refine J_take 4 (v := ?vbx4) rfl (by kernel_rfl) (by kernel_rfl) (by kernel_rfl) (by kernel_rfl) (fun _ _ _ h => h) (Or.inl ⟨by rfl, ?ybx4⟩) I0 ?rbx4
    case ybx4 => (intro w hSw; obtain ⟨_, _, _, _⟩ := hSw; (go_simp; with_reducible rfl))
    simp only [Act.put, List.getElem_toArray, List.getElem_cons_zero, List.getElem_cons_succ, List.setIfInBounds_toArray, List.set_cons_zero, List.set_cons_succ]
    refine J_take 5 (v := ?vbx5) rfl (by kernel_rfl) (by kernel_rfl) (by kernel_rfl) (by kernel_rfl) (fun _ _ _ h => h) (Or.inl ⟨by rfl, ?ybx5⟩) I0 ?rbx5
    case ybx5 => (intro w hSw; obtain ⟨_, _, _, _⟩ := hSw; (go_simp; with_reducible rfl))
    simp only [Act.put, List.getElem_toArray, List.getElem_cons_zero, List.getElem_cons_succ, List.setIfInBounds_toArray, List.set_cons_zero, List.set_cons_succ]
    refine J_take 6 (v := ?vbx6) rfl (by kernel_rfl) (by kernel_rfl) (by kernel_rfl) (by kernel_rfl) (fun _ _ _ h => h) (Or.inl ⟨by rfl, ?ybx6⟩) I0 ?rbx6
    case ybx6 => (intro w hSw; obtain ⟨_, _, _, _⟩ := hSw; (go_simp; with_reducible rfl))
    simp only [Act.put, List.getElem_toArray, List.getElem_cons_zero, List.getElem_cons_succ, List.setIfInBounds_toArray, List.set_cons_zero, List.set_cons_succ]
    refine J_take 7 (v := ?vbx7) rfl (by kernel_rfl) (by kernel_rfl) (by kernel_rfl) (by kernel_rfl) (fun _ _ _ h => h) (Or.inl ⟨by rfl, ?ybx7⟩) I0 ?rbx7
    case ybx7 => (intro w hSw; obtain ⟨_, _, _, _⟩ := hSw; (go_simp; with_reducible rfl))
    simp only [Act.put, List.getElem_toArray, List.getElem_cons_zero, List.getElem_cons_succ, List.setIfInBounds_toArray, List.set_cons_zero, List.set_cons_succ]
    refine J_take 8 (v := ?vbx8) rfl (by kernel_rfl) (by kernel_rfl) (by kernel_rfl) (by kernel_rfl) (fun _ _ _ h => h) (Or.inl ⟨by rfl, ?ybx8⟩) I0 ?rbx8
    case ybx8 => (intro w hSw; obtain ⟨_, _, _, _⟩ := hSw; (go_simp; with_reducible rfl))
    simp only [Act.put, List.getElem_toArray, List.getElem_cons_zero, List.getElem_cons_succ, List.setIfInBounds_toArray, List.set_cons_zero, List.set_cons_succ]
    refine J_take 9 (v := ?vbx9) rfl (by kernel_rfl) (by kernel_rfl) (by kernel_rfl) (by kernel_rfl) (fun _ _ _ h => h) (Or.inl ⟨by rfl, ?ybx9⟩) I0 ?rbx9
    case ybx9 => (intro w hSw; obtain ⟨_, _, _, _⟩ := hSw; (go_simp; with_reducible rfl))
    simp only [Act.put, List.getElem_toArray, List.getElem_cons_zero, List.getElem_cons_succ, List.setIfInBounds_toArray, List.set_cons_zero, List.set_cons_succ]
    refine J_take 10 (v := ?vbx10) rfl (by kernel_rfl) (by kernel_rfl) (by kernel_rfl) (by kernel_rfl) (fun _ _ _ h => h) (Or.inl ⟨by rfl, ?ybx10⟩) I0 ?rbx10
    case ybx10 => (intro w hSw; obtain ⟨_, _, _, _⟩ := hSw; (go_simp; with_reducible rfl))
    simp only [Act.put, List.getElem_toArray, List.getElem_cons_zero, List.getElem_cons_succ, List.setIfInBounds_toArray, List.set_cons_zero, List.set_cons_succ]
    refine J_take 11 (v := ?vbx11) rfl (by kernel_rfl) (by kernel_rfl) (by kernel_rfl) (by kernel_rfl) (fun _ _ _ h => h) (Or.inl ⟨by rfl, ?ybx11⟩) I0 ?rbx11
    case ybx11 => (intro w hSw; obtain ⟨_, _, _, _⟩ := hSw; (go_simp; with_reducible rfl))
    simp only [Act.put, List.getElem_toArray, List.getElem_cons_zero, List.getElem_cons_succ, List.setIfInBounds_toArray, List.set_cons_zero, List.set_cons_succ]
    refine J_take 12 (v := ?vbx12) rfl (by kernel_rfl) (by kernel_rfl) (by kernel_rfl) (by kernel_rfl) (fun _ _ _ h => h) (Or.inl ⟨by rfl, ?ybx12⟩) I0 ?rbx12
    case ybx12 => (intro w hSw; obtain ⟨_, _, _, _⟩ := hSw; (go_simp; with_reducible rfl))
    simp only [Act.put, List.getElem_toArray, List.getElem_cons_zero, List.getElem_cons_succ, List.setIfInBounds_toArray, List.set_cons_zero, List.set_cons_succ]
    refine J_one 13 rfl (by kernel_rfl) (fun K hK => ?_)
    go_simp
    have tri2 := hid (tri'.out.ext ((Ext.refl W).alloc_right (.cells #[.string (tth lk 2).key, .int .i64 (tth lk 2).no] 71)))
    have hva := hid (heap_alloc_new W (.cells #[.string (tth lk 2).key, .int .i64 (tth lk 2).no] 71))
    have hne : Hid ((Value.slice Al l.length cl2).ownBlock ≠ some W.heap.size) := fun e => by have := (tri'.out.o1.lt _ e).2; omega
    have I1 : (fun w' : World => w'.cell? ⟨p, 0, none⟩ = some (.slice Al l.length cl2) ∧ w'.cell? ⟨q, 0, none⟩ = some (.slice (some ⟨gl, 0, none⟩) 5 cl) ∧ w'.cell? ⟨gl, 4, none⟩ = some (.string (tth lk 2).key) ∧ w'.cell? ⟨gl, 5, none⟩ = some (.int .i64 (tth lk 2).no)) (W.alloc (.cells #[.string (tth lk 2).key, .int .i64 (tth lk 2).no] 71)) := ⟨((Ext.refl W).alloc_right _).cell I0.1, ((Ext.refl W).alloc_right _).cell I0.2.1, ((Ext.refl W).alloc_right _).cell I0.2.2.1, ((Ext.refl W).alloc_right _).cell I0.2.2.2⟩
    clear tri'
    generalize W.heap.size = va at *
    generalize W.alloc (.cells #[.string (tth lk 2).key, .int .i64 (tth lk 2).no] 71) = W1 at *
    refine hK _ _ ⟨fun _ => I1, ?_⟩
    clear hK K
    try simp only [Act.put, List.getElem_toArray, List.getElem_cons_zero, List.getElem_cons_succ, List.setIfInBounds_toArray, List.set_cons_zero, List.set_cons_succ]
    refine J_one 14 rfl (by kernel_rfl) (fun K hK => ?_)
    go_simp
    refine (ins_N l.length i _ (tents l) [.string (tth lk 2).key, .int .i64 (tth lk 2).no] va W1 hi (by omega) tri2.out.o1 (tents_one _) hva.out rfl (tents_one [tth lk 2]) hne.out).mono ?_
    rintro e W2 ⟨v', rfl, ho', hrw⟩
    have tri3 : ∀ u, u = v' → Tri f w (W2.setCell ⟨p, 0, none⟩ u) p q r u (.slice (some kad) ps.length kc) (.slice (some ⟨gl, 0, none⟩) 5 cl) (.slice A3 3 c3) (.slice Ar 2 cr) (.slice A1 3 c1) (l.length + 1) ps.length 5 3 2 3 ((tents l).take (i * 2) ++ ([.string (tth lk 2).key, .int .i64 (tth lk 2).no] ++ (tents l).drop (i * 2))) (ptrs ps) (tents lk) (ptrs (pk.take 3)) (tents (lk.drop 3)) (ptrs (pk.drop 3)) := fun u e => by rw [e]; exact tri2.out.rep0 hrw.1 ho' hrw.2
    replace tri3 := hid tri3
    have hp2 : W2.cell? ⟨p, 0, none⟩ = some (.slice Al l.length cl2) := node_c0 ((hrw.1.block p (Array.getElem?_eq_some_iff.1 tri2.out.hp).1 (fun e0 => by have := tri2.out.nd p; rw [ob_some e0.symm, one_self] at this; omega)).trans tri2.out.hp)
    have hf2 : W2.frozen? ⟨p, 0, none⟩ = false := Lib.frozen_of_heap ((hrw.1.block p (Array.getElem?_eq_some_iff.1 tri2.out.hp).1 (fun e0 => by have := tri2.out.nd p; rw [ob_some e0.symm, one_self] at this; omega)).trans tri2.out.hp) 0
    have I2 : (fun w' : World => w'.cell? ⟨p, 0, none⟩ = some (.slice Al l.length cl2) ∧ w'.cell? ⟨q, 0, none⟩ = some (.slice (some ⟨gl, 0, none⟩) 5 cl) ∧ w'.cell? ⟨gl, 4, none⟩ = some (.string (tth lk 2).key) ∧ w'.cell? ⟨gl, 5, none⟩ = some (.int .i64 (tth lk 2).no)) W2 := by
      refine ⟨hp2, node_c0 ((hrw.1.block q (Array.getElem?_eq_some_iff.1 tri2.out.hq).1 (fun e0 => by have := tri2.out.nd q; rw [ob_some e0.symm, one_self] at this; omega)).trans tri2.out.hq), ?_, ?_⟩
      · exact (hce.out _ (own_ne tri2.out.o3 hrw.1 (fun k e e2 => by have := tri2.out.nd k; rw [ob_some e, ob_some e2] at this; omega))).1
      · exact (hce.out _ (own_ne tri2.out.o3 hrw.1 (fun k e e2 => by have := tri2.out.nd k; rw [ob_some e, ob_some e2] at this; omega))).2
    obtain ⟨Av, cv, rfl, -⟩ := own_form ho'
    clear ho' hrw tri2 hva hne I1 I0
    refine hK _ _ ⟨fun _ => I2, ?_⟩
    clear hK K
    try simp only [Act.put, List.getElem_toArray, List.getElem_cons_zero, List.getElem_cons_succ, List.setIfInBounds_toArray, List.set_cons_zero, List.set_cons_succ]
    refine J_one 15 rfl (by kernel_rfl) (fun K hK => ?_)
    go_simp
    refine hK _ _ ⟨fun _ => I2, ?_⟩
    clear hK K
    try simp only [Act.put, List.setIfInBounds_toArray, List.set_cons_zero, List.set_cons_succ]
    refine J_one 16 rfl (by kernel_rfl) (fun K hK => ?_)
    go_simp
    refine hK _ _ ⟨fun _ => I2, ?_⟩
    clear hK K
    try simp only [Act.put, List.setIfInBounds_toArray, List.set_cons_zero, List.set_cons_succ]
    refine J_one 17 rfl (by kernel_rfl) (fun K hK => ?_)
    go_simp
    refine hK _ _ ⟨fun h => absurd rfl h, ?_⟩
    clear hK K
    refine J_done (by kernel_rfl) (OnlyOn.normal ?_)
    replace tri3 := hid (tri3.out _ rfl)
    clear I2 hp2 hf2
    generalize W2.setCell ⟨p, 0, none⟩ (.slice Av (l.length + 1) cv) = W3 at *
    have cp1 := node_c1 tri3.out.hp
    have cq0 := node_c0 tri3.out.hq
    have hw9 : IntKind.i64.wrap ((i : Int) + 1) = ((i + 1 : Nat) : Int) := by rw [IntWalk.i64_in _ (by omega)]; omega
    have lpW := World.block_lt_of_cell? _ _ cp1
    dsimp only at lpW
    have lqW := World.block_lt_of_cell? _ _ cq0
    dsimp only at lqW
    obtain ⟨j, hj⟩ : ∃ j, j = i + 1 := ⟨_, rfl⟩
    rw [← hj] at hw9
    replace hj := hid hj
    have tri4 := hid (tri3.out.ext ((Ext.refl W3).alloc_right (.cells #[.pointer (some ⟨r, 0, none⟩)] 81)))
    have hva := hid (heap_alloc_new W3 (.cells #[.pointer (some ⟨r, 0, none⟩)] 81))
    have hne : Hid ((Value.slice (some kad) ps.length kc).ownBlock ≠ some W3.heap.size) := fun e => by have := (tri3.out.o2.lt _ e).2; omega
    have hx9 := (Ext.refl W3).alloc_right (.cells #[.pointer (some ⟨r, 0, none⟩)] 81)
    clear tri3
    go_wp2_with fail
    replace cp1 := hx9.cell cp1
    replace cq0 := hx9.cell cq0
    clear hx9
    generalize W3.heap.size = va at *
    generalize W3.alloc (.cells #[.pointer (some ⟨r, 0, none⟩)] 81) = W4 at *
    refine (ins_K ps.length j _ (ptrs ps) [.pointer (some ⟨r, 0, none⟩)] va W4 (by have := hj.out; omega) (by omega) tri4.out.o2 (ptrs_one _) hva.out rfl (ptrs_one [r]) hne.out).mono ?_
    rintro e W5 ⟨v', rfl, ho', hrw⟩
    have tri5 : ∀ u, u = v' → Tri f w (W5.setCell ⟨p, 1, none⟩ u) p q r (.slice Av (l.length + 1) cv) u (.slice (some ⟨gl, 0, none⟩) 5 cl) (.slice A3 3 c3) (.slice Ar 2 cr) (.slice A1 3 c1) (l.length + 1) (ps.length + 1) 5 3 2 3 ((tents l).take (i * 2) ++ ([.string (tth lk 2).key, .int .i64 (tth lk 2).no] ++ (tents l).drop (i * 2))) ((ptrs ps).take (j * 1) ++ ([.pointer (some ⟨r, 0, none⟩)] ++ (ptrs ps).drop (j * 1))) (tents lk) (ptrs (pk.take 3)) (tents (lk.drop 3)) (ptrs (pk.drop 3)) := fun u e => by rw [e]; exact tri4.out.rep1 hrw.1 ho' hrw.2
    replace tri5 := hid tri5
    have bp := hid ((hrw.1.block p (Array.getElem?_eq_some_iff.1 tri4.out.hp).1 (fun e0 => by have := tri4.out.nd p; rw [ob_some e0.symm, one_self] at this; omega)).trans tri4.out.hp)
    have hp2 := node_c1 bp.out
    have hf2 := Lib.frozen_of_heap bp.out 1
    obtain ⟨Aw, cw, rfl, -⟩ := own_form ho'
    have cq0' : (W5.setCell ⟨p, 1, none⟩ (.slice Aw (ps.length + 1) cw)).cell? ⟨q, 0, none⟩ = some (.slice (some ⟨gl, 0, none⟩) 5 cl) := node_c0 (tri5.out _ rfl).hq
    have cfq : (W5.setCell ⟨p, 1, none⟩ (.slice Aw (ps.length + 1) cw)).frozen? ⟨q, 0, none⟩ = false := Lib.frozen_of_heap (tri5.out _ rfl).hq 0
    have hRl : Hid (∀ W, W.ownsRow 0 71 2 (.slice (some ⟨gl, 0, none⟩) 5 cl) 5 (tents lk) → Rd W 2 (some ⟨gl, 0, none⟩) 2 cl (tents (lk.take 2))) := fun W h => by have := (Rd.of_own h).takeK (m := 2) (by omega); rw [tents_take] at this; exact this
    replace tri5 := hid (tri5.out _ rfl)
    clear ho' hrw tri4 hva hne bp cp1 cq0
    go_wp2_with fail
    clear hp2 hf2
    generalize W5.setCell ⟨p, 1, none⟩ (.slice Aw (ps.length + 1) cw) = W6 at *
    refine (clone_N (some ⟨gl, 0, none⟩) 2 cl (tents (lk.take 2)) W6 (by omega) (hRl.out W6 tri5.out.o3) (tents_one _)).mono ?_
    rintro e W7 ⟨v7, rfl, ho7, hx7⟩
    obtain ⟨A7, c7, rfl, -⟩ := own_form ho7
    have tri7 : ∀ u, u = Value.slice A7 2 c7 → Tri f w (W7.setCell ⟨q, 0, none⟩ u) p q r (.slice Av (l.length + 1) cv) (.slice Aw (ps.length + 1) cw) u (.slice A3 3 c3) (.slice Ar 2 cr) (.slice A1 3 c1) (l.length + 1) (ps.length + 1) 2 3 2 3 ((tents l).take (i * 2) ++ ([.string (tth lk 2).key, .int .i64 (tth lk 2).no] ++ (tents l).drop (i * 2))) ((ptrs ps).take (j * 1) ++ ([.pointer (some ⟨r, 0, none⟩)] ++ (ptrs ps).drop (j * 1))) (tents (lk.take 2)) (ptrs (pk.take 3)) (tents (lk.drop 3)) (ptrs (pk.drop 3)) := fun u e => by rw [e]; exact (tri5.out.rot.rep0 (W' := W7) (Ext.grown hx7 _) (own_baseK ho7 (Nat.zero_le _)) (.inr (own_freshB ho7))).rot.rot
    replace tri7 := hid (tri7 _ rfl)
    replace cq0' := hx7.cell cq0'
    have cfq7 : W7.frozen? ⟨q, 0, none⟩ = false := Lib.frozen_of_heap ((hx7.block (Array.getElem?_eq_some_iff.1 tri5.out.hq).1).trans tri5.out.hq) 0
    have eL : Hid ((tents l).take (i * 2) ++ ([.string (tth lk 2).key, .int .i64 (tth lk 2).no] ++ (tents l).drop (i * 2)) = tents (l.take i ++ tth lk 2 :: l.drop i)) := by unfold Hid; rw [tents_take, tents_drop, tents_append]; rfl
    have eK : Hid ((ptrs ps).take (j * 1) ++ ([.pointer (some ⟨r, 0, none⟩)] ++ (ptrs ps).drop (j * 1)) = ptrs (ps.take (i + 1) ++ r :: ps.drop (i + 1))) := by
      unfold Hid; rw [hj.out, Nat.mul_one]; unfold ptrs; rw [List.map_append, List.map_cons, List.map_take, List.map_drop]; rfl
    clear ho7 hx7 tri5 cfq
    go_wp2_with fail
    go_end0
    refine ⟨rfl, r, .slice Av (l.length + 1) cv, .slice Aw (ps.length + 1) cw, .slice A7 2 c7, (.slice A3 3 c3), .slice Ar 2 cr, (.slice A1 3 c1), ?_⟩
    have hfin := tri7.out
    rw [eL.out, eK.out] at hfin
    have k3 : (pk.take 3).length = 3 := by rw [List.length_take]; omega
    have k4 : (pk.drop 3).length = 3 := by rw [List.length_drop]; omega
    rw [k3, k4]
    exact hfin
end Go.Proofs.Ytpijfiaecicpfaa
