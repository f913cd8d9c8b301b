/-
  Putting an entry into a node; Rows of one's own: cut short, one element turned, appended to; Trees in memory: opened, shut, cut; split: a kid of five entries becomes two.
-/
import Derived.Test.YtjjikkhhlpikbaaGreatDoorQ4
import Derived.Maps.AppendAt
import Derived.Deep.AppendLies
set_option maxRecDepth 100000
set_option maxHeartbeats 40000000
set_option linter.unusedVariables false
set_option linter.unusedSimpArgs false
namespace Go.Proofs.YtjjikkhhlpikbaaGreatDoor
open Go.RowKit Go.Shelf
theorem split_any (f : Nat → Nat) (p q i : Nat) (l lk : List Te) (ps pk : List Nat) (lv kv lq kq : Value) (w : World) (hp : w.heap[p]? = some (.cells #[lv, kv] 48 (0, 0))) (hq : w.heap[q]? = some (.cells #[lq, kq] 48 (0, 0)))
    (h1 : w.ownsRow 0 65 2 lv l.length (tents l)) (h2 : w.ownsRow 0 44 1 kv ps.length (ptrs ps)) (h3 : w.ownsRow 0 65 2 lq 5 (tents lk)) (h4 : w.ownsRow 0 44 1 kq pk.length (ptrs pk))
    (hpq : ps[i]? = some q) (hi : i ≤ l.length) (hl : l.length ≤ 10) (hps : ps.length ≤ 10) (hlk : lk.length = 5) (hpk : pk.length = 0 ∨ pk.length = 6)
    (hf : ∀ a, one1 p a + ob lv a + ob kv a + one1 q a + ob lq a + ob kq a ≤ 1) (hff : ∀ a, f a = one1 p a + ob lv a + ob kv a + one1 q a + ob lq a + ob kq a) :
    Calls Tryz.prog 49 #[.pointer (some ⟨p, 0, none⟩), .int .i64 i] w fun e w' => e = .returned (.tuple #[]) ∧ ∃ (r : Nat) (lv' kv' lq' kq' lr kr : Value),
      Tri f w w' p q r lv' kv' lq' kq' lr kr (l.length + 1) (ps.length + 1) 2 (pk.take 3).length 2 (pk.drop 3).length (tents (l.take i ++ tth lk 2 :: l.drop i)) (ptrs (ps.take (i + 1) ++ r :: ps.drop (i + 1))) (tents (lk.take 2)) (ptrs (pk.take 3)) (tents (lk.drop 3)) (ptrs (pk.drop 3)) := by
  obtain ⟨gl, cl, curl, rfl, -, hcl1, hcl2, -, -⟩ := row_open h3 (by omega)
  obtain ⟨A2, kc, rfl, hkr⟩ := own_rd h2
  have hil : i < ps.length := (List.getElem?_eq_some_iff.1 hpq).1
  obtain ⟨kad, rfl, hkc⟩ := hkr.2.2.2 (by omega)
  have ck := hkc i _ (show (ptrs ps)[i]? = some (.pointer (some ⟨q, 0, none⟩)) by unfold ptrs; rw [List.getElem?_map, hpq]; rfl)
  have hkm := Rd.max hkr
  have cp1 := node_c1 hp
  have cq0 := node_c0 hq
  have cq1 := node_c1 hq
  have hki : (i : Int) < (ps.length : Int) := by omega
  have hce : Hid (∀ W : World, W.ownsRow 0 65 2 (.slice (some ⟨gl, 0, none⟩) 5 cl) 5 (tents lk) → W.cell? ⟨gl, 4, none⟩ = some (.string (tth lk 2).key) ∧ W.cell? ⟨gl, 5, none⟩ = some (.int .i64 (tth lk 2).no)) := fun W h => by
    have hc := h.cells (g := gl) rfl
    have e1 := hc (2 * 2 + 0) _ (by rw [tents_at lk 2 (by omega) 0 (by decide)]; rfl)
    have e2 := hc (2 * 2 + 1) _ (by rw [tents_at lk 2 (by omega) 1 (by decide)]; rfl)
    rw [lit_add] at e1 e2
    rw [tth_get (by omega)]
    exact ⟨e1, e2⟩
  have hR1 : Rd w 2 (some ⟨gl, 6, none⟩) 2 (cl - 3) (tents (lk.drop 3)) := by
    have := (Rd.of_own h3).sub (a := 3) (b := 5) (by omega) (by omega)
    rw [tents_drop, List.take_of_length_le (by rw [tents_len, List.length_drop]; omega)] at this
    exact this
  go_enter Tryz.func49, Tryz.ntmps49
  go_wp2_with fail
  refine (clone_N (some ⟨gl, 6, none⟩) 2 (cl - 3) (tents (lk.drop 3)) w (by omega) hR1 (tents_one _)).mono ?_
  rintro e w1 ⟨vr, rfl, olr, hx1⟩
  obtain ⟨Ar, cr, rfl, -⟩ := own_form olr
  have hb := heap_alloc_new w1 (.cells #[.slice Ar 2 cr, .slice none 0 0] 48)
  have hxa := (Ext.refl w1).alloc_right (.cells #[.slice Ar 2 cr, .slice none 0 0] 48)
  have hx2 := hid (hx1.trans hxa)
  have tri : Hid (Tri f w (w1.alloc (.cells #[.slice Ar 2 cr, .slice none 0 0] 48)) p q w1.heap.size lv (.slice (some kad) ps.length kc) (.slice (some ⟨gl, 0, none⟩) 5 cl) kq (.slice Ar 2 cr) (.slice none 0 0) l.length ps.length 5 pk.length 2 0 (tents l) (ptrs ps) (tents lk) (ptrs pk) (tents (lk.drop 3)) []) := by
    have hsz := hx1.size
    have hr0 : ∀ a, a < w.heap.size → one1 w1.heap.size a + ob (.slice Ar 2 cr) a = 0 := fun a ha => by
      have e1 : one1 w1.heap.size a = 0 := if_neg (by omega)
      have e2 : ob (.slice Ar 2 cr) a = 0 := if_neg (fun e => by have := own_freshB olr a e; omega)
      omega
    have hr1 : ∀ a, one1 w1.heap.size a + ob (.slice Ar 2 cr) a ≤ 1 := fun a => by
      by_cases e : a = w1.heap.size
      · have e2 : ob (.slice Ar 2 cr) a = 0 := if_neg (fun e3 => by have := (olr.lt a e3).2; omega)
        have : one1 w1.heap.size a ≤ 1 := by unfold one1; split <;> omega
        omega
      · have e1 : one1 w1.heap.size a = 0 := if_neg e
        have : ob (.slice Ar 2 cr) a ≤ 1 := by unfold ob; split <;> omega
        omega
    have hn0 : ∀ a, ob (.slice none 0 0) a = 0 := fun a => if_neg (fun e => by cases e)
    refine ⟨(hx2.out.block (Array.getElem?_eq_some_iff.1 hp).1).trans hp, (hx2.out.block (Array.getElem?_eq_some_iff.1 hq).1).trans hq, hb, hx2.out.own h1, hx2.out.own h2, hx2.out.own h3, hx2.out.own h4, own_baseK (hxa.own olr) (Nat.zero_le _), World.ownsRow_nil _ _ _ _, fun a => ?_, FR.of_ext hx2.out, fun a ha => ?_⟩
    · rw [hn0 a]
      by_cases ha : a < w.heap.size
      · have := hr0 a ha; have := hf a; omega
      · have := hr1 a
        rw [one_bound hp (Nat.le_of_not_lt ha), one_bound hq (Nat.le_of_not_lt ha), own_bound h1 (Nat.le_of_not_lt ha), own_bound h2 (Nat.le_of_not_lt ha), own_bound h3 (Nat.le_of_not_lt ha), own_bound h4 (Nat.le_of_not_lt ha)]
        omega
    · rw [hn0 a, hff a]; have := hr0 a ha; omega
  replace cp1 := hx2.out.cell cp1
  replace cq0 := hx2.out.cell cq0
  replace cq1 := hx2.out.cell cq1
  have hcr1 := node_c1 tri.out.hr
  have hcr2 := Lib.frozen_of_heap tri.out.hr 1
  have hcq2 := Lib.frozen_of_heap tri.out.hq 1
  have hrw1 : w1.heap.size < (w1.alloc (.cells #[.slice Ar 2 cr, .slice none 0 0] 48)).heap.size := by simp
  clear hb hxa hx1 olr hR1 hp hq h1 h2 h3 ck hkc hkr
  rcases hpk with h0 | h6
  · obtain rfl : pk = [] := List.eq_nil_of_length_eq_zero h0
    obtain ⟨Aq, cq3, rfl, -⟩ := own_rd tri.out.o4
    go_upto_region 6 with fail
    generalize w1.heap.size = r at *
    generalize w1.alloc (.cells #[.slice Ar 2 cr, .slice none 0 0] 48) = W at *
    clear hcr1 hcr2 hcq2 hrw1 hx2 cp1 cq0 cq1
    obtain ⟨Al, cl2, rfl, hrl⟩ := own_rd tri.out.o1
    have hml := Rd.max hrl
    have tri' := hid (tri.out.ext (Ext.refl W).drew_right)
    have I0 : (fun w' : World => w'.cell? ⟨p, 0, none⟩ = some (.slice Al l.length cl2) ∧ w'.cell? ⟨q, 0, none⟩ = some (.slice (some ⟨gl, 0, none⟩) 5 cl) ∧ w'.cell? ⟨gl, 4, none⟩ = some (.string (tth lk 2).key) ∧ w'.cell? ⟨gl, 5, none⟩ = some (.int .i64 (tth lk 2).no)) W.drew := ⟨node_c0 tri'.out.hp, node_c0 tri'.out.hq, (hce.out _ tri'.out.o3).1, (hce.out _ tri'.out.o3).2⟩
    refine region_J (fun w' : World => w'.cell? ⟨p, 0, none⟩ = some (.slice Al l.length cl2) ∧ w'.cell? ⟨q, 0, none⟩ = some (.slice (some ⟨gl, 0, none⟩) 5 cl) ∧ w'.cell? ⟨gl, 4, none⟩ = some (.string (tth lk 2).key) ∧ w'.cell? ⟨gl, 5, none⟩ = some (.int .i64 (tth lk 2).no)) 17 (by kernel_rfl) ?_
    clear tri hrl
    generalize W.drew = W at *
    refine JT 0 (v := ?vax0) I0 ?yax0 ?rax0
    case yax0 => (intro w h; obtain ⟨_, _, _, _⟩ := h; go_simp; with_reducible rfl)
    simp only [Act.put, lyA, lyB, lyC, lyD, lyE, lyF]
    refine JT 1 (v := ?vax1) I0 ?yax1 ?rax1
    case yax1 => (intro w h; obtain ⟨_, _, _, _⟩ := h; go_simp; with_reducible rfl)
    simp only [Act.put, lyA, lyB, lyC, lyD, lyE, lyF]
    refine JT 2 (v := ?vax2) I0 ?yax2 ?rax2
    case yax2 => (intro w h; obtain ⟨_, _, _, _⟩ := h; go_simp; with_reducible rfl)
    simp only [Act.put, lyA, lyB, lyC, lyD, lyE, lyF]
    refine JT 3 (v := ?vax3) I0 ?yax3 ?rax3
    case yax3 => (intro w h; obtain ⟨_, _, _, _⟩ := h; go_simp; with_reducible rfl)
    simp only [Act.put, lyA, lyB, lyC, lyD, lyE, lyF]
    refine JT 4 (v := ?vax4) I0 ?yax4 ?rax4
    case yax4 => (intro w h; obtain ⟨_, _, _, _⟩ := h; go_simp; with_reducible rfl)
    simp only [Act.put, lyA, lyB, lyC, lyD, lyE, lyF]
    refine JT 5 (v := ?vax5) I0 ?yax5 ?rax5
    case yax5 => (intro w h; obtain ⟨_, _, _, _⟩ := h; go_simp; with_reducible rfl)
    simp only [Act.put, lyA, lyB, lyC, lyD, lyE, lyF]
    refine JT 6 (v := ?vax6) I0 ?yax6 ?rax6
    case yax6 => (intro w h; obtain ⟨_, _, _, _⟩ := h; go_simp; with_reducible rfl)
    simp only [Act.put, lyA, lyB, lyC, lyD, lyE, lyF]
    refine JT 7 (v := ?vax7) I0 ?yax7 ?rax7
    case yax7 => (intro w h; obtain ⟨_, _, _, _⟩ := h; go_simp; with_reducible rfl)
    simp only [Act.put, lyA, lyB, lyC, lyD, lyE, lyF]
    refine JT 8 (v := ?vax8) I0 ?yax8 ?rax8
    case yax8 => (intro w h; obtain ⟨_, _, _, _⟩ := h; go_simp; with_reducible rfl)
    simp only [Act.put, lyA, lyB, lyC, lyD, lyE, lyF]
    refine JT 9 (v := ?vax9) I0 ?yax9 ?rax9
    case yax9 => (intro w h; obtain ⟨_, _, _, _⟩ := h; go_simp; with_reducible rfl)
    simp only [Act.put, lyA, lyB, lyC, lyD, lyE, lyF]
    refine JT 10 (v := ?vax10) I0 ?yax10 ?rax10
    case yax10 => (intro w h; obtain ⟨_, _, _, _⟩ := h; go_simp; with_reducible rfl)
    simp only [Act.put, lyA, lyB, lyC, lyD, lyE, lyF]
    refine JT 11 (v := ?vax11) I0 ?yax11 ?rax11
    case yax11 => (intro w h; obtain ⟨_, _, _, _⟩ := h; go_simp; with_reducible rfl)
    simp only [Act.put, lyA, lyB, lyC, lyD, lyE, lyF]
    refine JT 12 (v := ?vax12) I0 ?yax12 ?rax12
    case yax12 => (intro w h; obtain ⟨_, _, _, _⟩ := h; go_simp; with_reducible rfl)
    simp only [Act.put, lyA, lyB, lyC, lyD, lyE, lyF]
    refine J_one 13 rfl (by kernel_rfl) (fun K hK => ?_)
    go_simp
    have tri2 := hid (tri'.out.ext ((Ext.refl W).alloc_right (.cells #[.string (tth lk 2).key, .int .i64 (tth lk 2).no] 65)))
    have hva := hid (heap_alloc_new W (.cells #[.string (tth lk 2).key, .int .i64 (tth lk 2).no] 65))
    have hne : Hid ((Value.slice Al l.length cl2).ownBlock ≠ some W.heap.size) := fun e => by have := (tri'.out.o1.lt _ e).2; omega
    have I1 : (fun w' : World => w'.cell? ⟨p, 0, none⟩ = some (.slice Al l.length cl2) ∧ w'.cell? ⟨q, 0, none⟩ = some (.slice (some ⟨gl, 0, none⟩) 5 cl) ∧ w'.cell? ⟨gl, 4, none⟩ = some (.string (tth lk 2).key) ∧ w'.cell? ⟨gl, 5, none⟩ = some (.int .i64 (tth lk 2).no)) (W.alloc (.cells #[.string (tth lk 2).key, .int .i64 (tth lk 2).no] 65)) := ⟨((Ext.refl W).alloc_right _).cell I0.1, ((Ext.refl W).alloc_right _).cell I0.2.1, ((Ext.refl W).alloc_right _).cell I0.2.2.1, ((Ext.refl W).alloc_right _).cell I0.2.2.2⟩
    clear tri'
    generalize W.heap.size = va at *
    generalize W.alloc (.cells #[.string (tth lk 2).key, .int .i64 (tth lk 2).no] 65) = W1 at *
    refine hK _ _ ⟨fun _ => I1, ?_⟩
    clear hK K
    try simp only [Act.put, lyA, lyB, lyC, lyD, lyE, lyF]
    refine J_one 14 rfl (by kernel_rfl) (fun K hK => ?_)
    go_simp
    refine (ins_N l.length i _ (tents l) [.string (tth lk 2).key, .int .i64 (tth lk 2).no] va W1 hi (by omega) tri2.out.o1 (tents_one _) hva.out rfl (tents_one [tth lk 2]) hne.out).mono ?_
    rintro e W2 ⟨v', rfl, ho', hrw⟩
    have tri3 : ∀ u, u = v' → Tri f w (W2.setCell ⟨p, 0, none⟩ u) p q r u (.slice (some kad) ps.length kc) (.slice (some ⟨gl, 0, none⟩) 5 cl) (.slice Aq 0 cq3) (.slice Ar 2 cr) (.slice none 0 0) (l.length + 1) ps.length 5 0 2 0 ((tents l).take (i * 2) ++ ([.string (tth lk 2).key, .int .i64 (tth lk 2).no] ++ (tents l).drop (i * 2))) (ptrs ps) (tents lk) (ptrs []) (tents (lk.drop 3)) [] := fun u e => by rw [e]; exact tri2.out.rep0 hrw.1 ho' hrw.2
    replace tri3 := hid tri3
    have hp2 : W2.cell? ⟨p, 0, none⟩ = some (.slice Al l.length cl2) := node_c0 ((hrw.1.block p (Array.getElem?_eq_some_iff.1 tri2.out.hp).1 (fun e0 => by have := tri2.out.nd p; rw [ob_some e0.symm, one_self] at this; omega)).trans tri2.out.hp)
    have hf2 : W2.frozen? ⟨p, 0, none⟩ = false := Lib.frozen_of_heap ((hrw.1.block p (Array.getElem?_eq_some_iff.1 tri2.out.hp).1 (fun e0 => by have := tri2.out.nd p; rw [ob_some e0.symm, one_self] at this; omega)).trans tri2.out.hp) 0
    have I2 : (fun w' : World => w'.cell? ⟨p, 0, none⟩ = some (.slice Al l.length cl2) ∧ w'.cell? ⟨q, 0, none⟩ = some (.slice (some ⟨gl, 0, none⟩) 5 cl) ∧ w'.cell? ⟨gl, 4, none⟩ = some (.string (tth lk 2).key) ∧ w'.cell? ⟨gl, 5, none⟩ = some (.int .i64 (tth lk 2).no)) W2 := by
      refine ⟨hp2, node_c0 ((hrw.1.block q (Array.getElem?_eq_some_iff.1 tri2.out.hq).1 (fun e0 => by have := tri2.out.nd q; rw [ob_some e0.symm, one_self] at this; omega)).trans tri2.out.hq), ?_, ?_⟩
      · exact (hce.out _ (own_ne tri2.out.o3 hrw.1 (fun k e e2 => by have := tri2.out.nd k; rw [ob_some e, ob_some e2] at this; omega))).1
      · exact (hce.out _ (own_ne tri2.out.o3 hrw.1 (fun k e e2 => by have := tri2.out.nd k; rw [ob_some e, ob_some e2] at this; omega))).2
    obtain ⟨Av, cv, rfl, -⟩ := own_form ho'
    clear ho' hrw tri2 hva hne I1 I0
    refine hK _ _ ⟨fun _ => I2, ?_⟩
    clear hK K
    try simp only [Act.put, lyA, lyB, lyC, lyD, lyE, lyF]
    refine J_one 15 rfl (by kernel_rfl) (fun K hK => ?_)
    go_simp
    refine hK _ _ ⟨fun _ => I2, ?_⟩
    clear hK K
    try simp only [Act.put, lyD, lyE, lyF]
    refine J_one 16 rfl (by kernel_rfl) (fun K hK => ?_)
    go_simp
    refine hK _ _ ⟨fun _ => I2, ?_⟩
    clear hK K
    try simp only [Act.put, lyD, lyE, lyF]
    refine J_one 17 rfl (by kernel_rfl) (fun K hK => ?_)
    go_simp
    refine hK _ _ ⟨fun h => absurd rfl h, ?_⟩
    clear hK K
    refine J_done (by kernel_rfl) (OnlyOn.normal ?_)
    replace tri3 := hid (tri3.out _ rfl)
    clear I2 hp2 hf2
    generalize W2.setCell ⟨p, 0, none⟩ (.slice Av (l.length + 1) cv) = W3 at *
    have cp1 := node_c1 tri3.out.hp
    have cq0 := node_c0 tri3.out.hq
    have hw9 : IntKind.i64.wrap ((i : Int) + 1) = ((i + 1 : Nat) : Int) := by rw [IntWalk.i64_in _ (by omega)]; omega
    have lpW := World.block_lt_of_cell? _ _ cp1
    dsimp only at lpW
    have lqW := World.block_lt_of_cell? _ _ cq0
    dsimp only at lqW
    obtain ⟨j, hj⟩ : ∃ j, j = i + 1 := ⟨_, rfl⟩
    rw [← hj] at hw9
    replace hj := hid hj
    have tri4 := hid (tri3.out.ext ((Ext.refl W3).alloc_right (.cells #[.pointer (some ⟨r, 0, none⟩)] 44)))
    have hva := hid (heap_alloc_new W3 (.cells #[.pointer (some ⟨r, 0, none⟩)] 44))
    have hne : Hid ((Value.slice (some kad) ps.length kc).ownBlock ≠ some W3.heap.size) := fun e => by have := (tri3.out.o2.lt _ e).2; omega
    have hx9 := (Ext.refl W3).alloc_right (.cells #[.pointer (some ⟨r, 0, none⟩)] 44)
    clear tri3
    go_wp2_with fail
    replace cp1 := hx9.cell cp1
    replace cq0 := hx9.cell cq0
    clear hx9
    generalize W3.heap.size = va at *
    generalize W3.alloc (.cells #[.pointer (some ⟨r, 0, none⟩)] 44) = W4 at *
    refine (ins_K ps.length j _ (ptrs ps) [.pointer (some ⟨r, 0, none⟩)] va W4 (by have := hj.out; omega) (by omega) tri4.out.o2 (ptrs_one _) hva.out rfl (ptrs_one [r]) hne.out).mono ?_
    rintro e W5 ⟨v', rfl, ho', hrw⟩
    have tri5 : ∀ u, u = v' → Tri f w (W5.setCell ⟨p, 1, none⟩ u) p q r (.slice Av (l.length + 1) cv) u (.slice (some ⟨gl, 0, none⟩) 5 cl) (.slice Aq 0 cq3) (.slice Ar 2 cr) (.slice none 0 0) (l.length + 1) (ps.length + 1) 5 0 2 0 ((tents l).take (i * 2) ++ ([.string (tth lk 2).key, .int .i64 (tth lk 2).no] ++ (tents l).drop (i * 2))) ((ptrs ps).take (j * 1) ++ ([.pointer (some ⟨r, 0, none⟩)] ++ (ptrs ps).drop (j * 1))) (tents lk) (ptrs []) (tents (lk.drop 3)) [] := fun u e => by rw [e]; exact tri4.out.rep1 hrw.1 ho' hrw.2
    replace tri5 := hid tri5
    have bp := hid ((hrw.1.block p (Array.getElem?_eq_some_iff.1 tri4.out.hp).1 (fun e0 => by have := tri4.out.nd p; rw [ob_some e0.symm, one_self] at this; omega)).trans tri4.out.hp)
    have hp2 := node_c1 bp.out
    have hf2 := Lib.frozen_of_heap bp.out 1
    obtain ⟨Aw, cw, rfl, -⟩ := own_form ho'
    have cq0' : (W5.setCell ⟨p, 1, none⟩ (.slice Aw (ps.length + 1) cw)).cell? ⟨q, 0, none⟩ = some (.slice (some ⟨gl, 0, none⟩) 5 cl) := node_c0 (tri5.out _ rfl).hq
    have cfq : (W5.setCell ⟨p, 1, none⟩ (.slice Aw (ps.length + 1) cw)).frozen? ⟨q, 0, none⟩ = false := Lib.frozen_of_heap (tri5.out _ rfl).hq 0
    have hRl : Hid (∀ W, W.ownsRow 0 65 2 (.slice (some ⟨gl, 0, none⟩) 5 cl) 5 (tents lk) → Rd W 2 (some ⟨gl, 0, none⟩) 2 cl (tents (lk.take 2))) := fun W h => by have := (Rd.of_own h).takeK (m := 2) (by omega); rw [tents_take] at this; exact this
    replace tri5 := hid (tri5.out _ rfl)
    clear ho' hrw tri4 hva hne bp cp1 cq0
    go_wp2_with fail
    clear hp2 hf2
    generalize W5.setCell ⟨p, 1, none⟩ (.slice Aw (ps.length + 1) cw) = W6 at *
    refine (clone_N (some ⟨gl, 0, none⟩) 2 cl (tents (lk.take 2)) W6 (by omega) (hRl.out W6 tri5.out.o3) (tents_one _)).mono ?_
    rintro e W7 ⟨v7, rfl, ho7, hx7⟩
    obtain ⟨A7, c7, rfl, -⟩ := own_form ho7
    have tri7 : ∀ u, u = Value.slice A7 2 c7 → Tri f w (W7.setCell ⟨q, 0, none⟩ u) p q r (.slice Av (l.length + 1) cv) (.slice Aw (ps.length + 1) cw) u (.slice Aq 0 cq3) (.slice Ar 2 cr) (.slice none 0 0) (l.length + 1) (ps.length + 1) 2 0 2 0 ((tents l).take (i * 2) ++ ([.string (tth lk 2).key, .int .i64 (tth lk 2).no] ++ (tents l).drop (i * 2))) ((ptrs ps).take (j * 1) ++ ([.pointer (some ⟨r, 0, none⟩)] ++ (ptrs ps).drop (j * 1))) (tents (lk.take 2)) (ptrs []) (tents (lk.drop 3)) [] := fun u e => by rw [e]; exact (tri5.out.rot.rep0 (W' := W7) (Ext.grown hx7 _) (own_baseK ho7 (Nat.zero_le _)) (.inr (own_freshB ho7))).rot.rot
    replace tri7 := hid (tri7 _ rfl)
    replace cq0' := hx7.cell cq0'
    have cfq7 : W7.frozen? ⟨q, 0, none⟩ = false := Lib.frozen_of_heap ((hx7.block (Array.getElem?_eq_some_iff.1 tri5.out.hq).1).trans tri5.out.hq) 0
    have eL : Hid ((tents l).take (i * 2) ++ ([.string (tth lk 2).key, .int .i64 (tth lk 2).no] ++ (tents l).drop (i * 2)) = tents (l.take i ++ tth lk 2 :: l.drop i)) := by unfold Hid; rw [tents_take, tents_drop, tents_append]; rfl
    have eK : Hid ((ptrs ps).take (j * 1) ++ ([.pointer (some ⟨r, 0, none⟩)] ++ (ptrs ps).drop (j * 1)) = ptrs (ps.take (i + 1) ++ r :: ps.drop (i + 1))) := by
      unfold Hid; rw [hj.out, Nat.mul_one]; unfold ptrs; rw [List.map_append, List.map_cons, List.map_take, List.map_drop]; rfl
    clear ho7 hx7 tri5 cfq
    go_wp2_with fail
    go_end0
    refine ⟨rfl, r, .slice Av (l.length + 1) cv, .slice Aw (ps.length + 1) cw, .slice A7 2 c7, (.slice Aq 0 cq3), .slice Ar 2 cr, (.slice none 0 0), ?_⟩
    have hfin := tri7.out
    rw [eL.out, eK.out] at hfin
    exact hfin
  · rw [h6] at tri
    obtain ⟨gk, ck3, curk, rfl, -, hck1, hck2, -, -⟩ := row_open tri.out.o4 (by omega)
    have hRa : Hid (∀ W : World, W.ownsRow 0 44 1 (.slice (some ⟨gk, 0, none⟩) 6 ck3) 6 (ptrs pk) → Rd W 1 (some ⟨gk, 3, none⟩) 3 (ck3 - 3) (ptrs (pk.drop 3))) := fun W h => by
      have := (Rd.of_own h).sub (a := 3) (b := 6) (by omega) (by omega)
      rw [show (ptrs pk).drop (3 * 1) = ptrs (pk.drop 3) by unfold ptrs; rw [List.map_drop], List.take_of_length_le (by rw [ptrs_len, List.length_drop]; omega)] at this
      exact this
    have hRb : Hid (∀ W : World, W.ownsRow 0 44 1 (.slice (some ⟨gk, 0, none⟩) 6 ck3) 6 (ptrs pk) → Rd W 1 (some ⟨gk, 0, none⟩) 3 ck3 (ptrs (pk.take 3))) := fun W h => by
      have := (Rd.of_own h).takeK (m := 3) (by omega)
      rw [show (ptrs pk).take (3 * 1) = ptrs (pk.take 3) by unfold ptrs; rw [List.map_take]] at this
      exact this
    have hnk : ¬ ck3 = 3 := by omega
    go_wp2_with fail
    generalize w1.heap.size = r at *
    generalize w1.alloc (.cells #[.slice Ar 2 cr, .slice none 0 0] 48) = W0 at *
    refine (clone_K (some ⟨gk, 3, none⟩) 3 (ck3 - 3) (ptrs (pk.drop 3)) W0 (by omega) (hRa.out W0 tri.out.o4) (ptrs_one _)).mono ?_
    rintro e W1 ⟨v1, rfl, ho1, hx1⟩
    obtain ⟨A1, c1, rfl, -⟩ := own_form ho1
    have tri1 : ∀ u, u = Value.slice A1 3 c1 → Tri f w (W1.setCell ⟨r, 1, none⟩ u) p q r lv (.slice (some kad) ps.length kc) (.slice (some ⟨gl, 0, none⟩) 5 cl) (.slice (some ⟨gk, 0, none⟩) 6 ck3) (.slice Ar 2 cr) u l.length ps.length 5 6 2 3 (tents l) (ptrs ps) (tents lk) (ptrs pk) (tents (lk.drop 3)) (ptrs (pk.drop 3)) := fun u e => by rw [e]; exact (tri.out.rot.rot.rep1 (W' := W1) (Ext.grown hx1 _) (own_baseK ho1 (Nat.zero_le _)) (.inr (own_freshB ho1))).rot
    replace tri1 := hid (tri1 _ rfl)
    replace hcr1 := hx1.cell hcr1
    have hcr3 : W1.frozen? ⟨r, 1, none⟩ = false := Lib.frozen_of_heap ((hx1.block (Array.getElem?_eq_some_iff.1 tri.out.hr).1).trans tri.out.hr) 1
    replace cq1 := node_c1 tri1.out.hq
    have hcq3 := Lib.frozen_of_heap tri1.out.hq 1
    clear ho1 hx1 tri hcr2 hcq2 hRa hx2 cp1 cq0
    go_wp2_with fail
    clear hcr1 hcr3
    generalize W1.setCell ⟨r, 1, none⟩ (.slice A1 3 c1) = W2 at *
    refine (clone_K (some ⟨gk, 0, none⟩) 3 ck3 (ptrs (pk.take 3)) W2 (by omega) (hRb.out W2 tri1.out.o4) (ptrs_one _)).mono ?_
    rintro e W3 ⟨v3, rfl, ho3, hx3⟩
    obtain ⟨A3, c3, rfl, -⟩ := own_form ho3
    have tri3 : ∀ u, u = Value.slice A3 3 c3 → Tri f w (W3.setCell ⟨q, 1, none⟩ u) p q r lv (.slice (some kad) ps.length kc) (.slice (some ⟨gl, 0, none⟩) 5 cl) u (.slice Ar 2 cr) (.slice A1 3 c1) l.length ps.length 5 3 2 3 (tents l) (ptrs ps) (tents lk) (ptrs (pk.take 3)) (tents (lk.drop 3)) (ptrs (pk.drop 3)) := fun u e => by rw [e]; exact (tri1.out.rot.rep1 (W' := W3) (Ext.grown hx3 _) (own_baseK ho3 (Nat.zero_le _)) (.inr (own_freshB ho3))).rot.rot
    have tri := hid (tri3 _ rfl)
    replace cq1 := hx3.cell cq1
    have hcq4 : W3.frozen? ⟨q, 1, none⟩ = false := Lib.frozen_of_heap ((hx3.block (Array.getElem?_eq_some_iff.1 tri1.out.hq).1).trans tri1.out.hq) 1
    clear ho3 hx3 tri1 tri3 hRb hcq3
    go_upto_region 6 with fail
    generalize W3.setCell ⟨q, 1, none⟩ (.slice A3 3 c3) = W at *
    clear hcq4 cq1
    obtain ⟨Al, cl2, rfl, hrl⟩ := own_rd tri.out.o1
    have hml := Rd.max hrl
    have tri' := hid (tri.out.ext (Ext.refl W).drew_right)
    have I0 : (fun w' : World => w'.cell? ⟨p, 0, none⟩ = some (.slice Al l.length cl2) ∧ w'.cell? ⟨q, 0, none⟩ = some (.slice (some ⟨gl, 0, none⟩) 5 cl) ∧ w'.cell? ⟨gl, 4, none⟩ = some (.string (tth lk 2).key) ∧ w'.cell? ⟨gl, 5, none⟩ = some (.int .i64 (tth lk 2).no)) W.drew := ⟨node_c0 tri'.out.hp, node_c0 tri'.out.hq, (hce.out _ tri'.out.o3).1, (hce.out _ tri'.out.o3).2⟩
    refine region_J (fun w' : World => w'.cell? ⟨p, 0, none⟩ = some (.slice Al l.length cl2) ∧ w'.cell? ⟨q, 0, none⟩ = some (.slice (some ⟨gl, 0, none⟩) 5 cl) ∧ w'.cell? ⟨gl, 4, none⟩ = some (.string (tth lk 2).key) ∧ w'.cell? ⟨gl, 5, none⟩ = some (.int .i64 (tth lk 2).no)) 17 (by kernel_rfl) ?_
    clear tri hrl
    generalize W.drew = W at *
    refine JT 0 (v := ?vbx0) I0 ?ybx0 ?rbx0
    case ybx0 => (intro w h; obtain ⟨_, _, _, _⟩ := h; go_simp; with_reducible rfl)
    simp only [Act.put, lyA, lyB, lyC, lyD, lyE, lyF]
    refine JT 1 (v := ?vbx1) I0 ?ybx1 ?rbx1
    case ybx1 => (intro w h; obtain ⟨_, _, _, _⟩ := h; go_simp; with_reducible rfl)
    simp only [Act.put, lyA, lyB, lyC, lyD, lyE, lyF]
    refine JT 2 (v := ?vbx2) I0 ?ybx2 ?rbx2
    case ybx2 => (intro w h; obtain ⟨_, _, _, _⟩ := h; go_simp; with_reducible rfl)
    simp only [Act.put, lyA, lyB, lyC, lyD, lyE, lyF]
    refine JT 3 (v := ?vbx3) I0 ?ybx3 ?rbx3
    case ybx3 => (intro w h; obtain ⟨_, _, _, _⟩ := h; go_simp; with_reducible rfl)
    simp only [Act.put, lyA, lyB, lyC, lyD, lyE, lyF]
    refine JT 4 (v := ?vbx4) I0 ?ybx4 ?rbx4
    case ybx4 => (intro w h; obtain ⟨_, _, _, _⟩ := h; go_simp; with_reducible rfl)
    simp only [Act.put, lyA, lyB, lyC, lyD, lyE, lyF]
    refine JT 5 (v := ?vbx5) I0 ?ybx5 ?rbx5
    case ybx5 => (intro w h; obtain ⟨_, _, _, _⟩ := h; go_simp; with_reducible rfl)
    simp only [Act.put, lyA, lyB, lyC, lyD, lyE, lyF]
    refine JT 6 (v := ?vbx6) I0 ?ybx6 ?rbx6
    case ybx6 => (intro w h; obtain ⟨_, _, _, _⟩ := h; go_simp; with_reducible rfl)
    simp only [Act.put, lyA, lyB, lyC, lyD, lyE, lyF]
    refine JT 7 (v := ?vbx7) I0 ?ybx7 ?rbx7
    case ybx7 => (intro w h; obtain ⟨_, _, _, _⟩ := h; go_simp; with_reducible rfl)
    simp only [Act.put, lyA, lyB, lyC, lyD, lyE, lyF]
    refine JT 8 (v := ?vbx8) I0 ?ybx8 ?rbx8
    case ybx8 => (intro w h; obtain ⟨_, _, _, _⟩ := h; go_simp; with_reducible rfl)
    simp only [Act.put, lyA, lyB, lyC, lyD, lyE, lyF]
    refine JT 9 (v := ?vbx9) I0 ?ybx9 ?rbx9
    case ybx9 => (intro w h; obtain ⟨_, _, _, _⟩ := h; go_simp; with_reducible rfl)
    simp only [Act.put, lyA, lyB, lyC, lyD, lyE, lyF]
    refine JT 10 (v := ?vbx10) I0 ?ybx10 ?rbx10
    case ybx10 => (intro w h; obtain ⟨_, _, _, _⟩ := h; go_simp; with_reducible rfl)
    simp only [Act.put, lyA, lyB, lyC, lyD, lyE, lyF]
    refine JT 11 (v := ?vbx11) I0 ?ybx11 ?rbx11
    case ybx11 => (intro w h; obtain ⟨_, _, _, _⟩ := h; go_simp; with_reducible rfl)
    simp only [Act.put, lyA, lyB, lyC, lyD, lyE, lyF]
    refine JT 12 (v := ?vbx12) I0 ?ybx12 ?rbx12
    case ybx12 => (intro w h; obtain ⟨_, _, _, _⟩ := h; go_simp; with_reducible rfl)
    simp only [Act.put, lyA, lyB, lyC, lyD, lyE, lyF]
    refine J_one 13 rfl (by kernel_rfl) (fun K hK => ?_)
    go_simp
    have tri2 := hid (tri'.out.ext ((Ext.refl W).alloc_right (.cells #[.string (tth lk 2).key, .int .i64 (tth lk 2).no] 65)))
    have hva := hid (heap_alloc_new W (.cells #[.string (tth lk 2).key, .int .i64 (tth lk 2).no] 65))
    have hne : Hid ((Value.slice Al l.length cl2).ownBlock ≠ some W.heap.size) := fun e => by have := (tri'.out.o1.lt _ e).2; omega
    have I1 : (fun w' : World => w'.cell? ⟨p, 0, none⟩ = some (.slice Al l.length cl2) ∧ w'.cell? ⟨q, 0, none⟩ = some (.slice (some ⟨gl, 0, none⟩) 5 cl) ∧ w'.cell? ⟨gl, 4, none⟩ = some (.string (tth lk 2).key) ∧ w'.cell? ⟨gl, 5, none⟩ = some (.int .i64 (tth lk 2).no)) (W.alloc (.cells #[.string (tth lk 2).key, .int .i64 (tth lk 2).no] 65)) := ⟨((Ext.refl W).alloc_right _).cell I0.1, ((Ext.refl W).alloc_right _).cell I0.2.1, ((Ext.refl W).alloc_right _).cell I0.2.2.1, ((Ext.refl W).alloc_right _).cell I0.2.2.2⟩
    clear tri'
    generalize W.heap.size = va at *
    generalize W.alloc (.cells #[.string (tth lk 2).key, .int .i64 (tth lk 2).no] 65) = W1 at *
    refine hK _ _ ⟨fun _ => I1, ?_⟩
    clear hK K
    try simp only [Act.put, lyA, lyB, lyC, lyD, lyE, lyF]
    refine J_one 14 rfl (by kernel_rfl) (fun K hK => ?_)
    go_simp
    refine (ins_N l.length i _ (tents l) [.string (tth lk 2).key, .int .i64 (tth lk 2).no] va W1 hi (by omega) tri2.out.o1 (tents_one _) hva.out rfl (tents_one [tth lk 2]) hne.out).mono ?_
    rintro e W2 ⟨v', rfl, ho', hrw⟩
    have tri3 : ∀ u, u = v' → Tri f w (W2.setCell ⟨p, 0, none⟩ u) p q r u (.slice (some kad) ps.length kc) (.slice (some ⟨gl, 0, none⟩) 5 cl) (.slice A3 3 c3) (.slice Ar 2 cr) (.slice A1 3 c1) (l.length + 1) ps.length 5 3 2 3 ((tents l).take (i * 2) ++ ([.string (tth lk 2).key, .int .i64 (tth lk 2).no] ++ (tents l).drop (i * 2))) (ptrs ps) (tents lk) (ptrs (pk.take 3)) (tents (lk.drop 3)) (ptrs (pk.drop 3)) := fun u e => by rw [e]; exact tri2.out.rep0 hrw.1 ho' hrw.2
    replace tri3 := hid tri3
    have hp2 : W2.cell? ⟨p, 0, none⟩ = some (.slice Al l.length cl2) := node_c0 ((hrw.1.block p (Array.getElem?_eq_some_iff.1 tri2.out.hp).1 (fun e0 => by have := tri2.out.nd p; rw [ob_some e0.symm, one_self] at this; omega)).trans tri2.out.hp)
    have hf2 : W2.frozen? ⟨p, 0, none⟩ = false := Lib.frozen_of_heap ((hrw.1.block p (Array.getElem?_eq_some_iff.1 tri2.out.hp).1 (fun e0 => by have := tri2.out.nd p; rw [ob_some e0.symm, one_self] at this; omega)).trans tri2.out.hp) 0
    have I2 : (fun w' : World => w'.cell? ⟨p, 0, none⟩ = some (.slice Al l.length cl2) ∧ w'.cell? ⟨q, 0, none⟩ = some (.slice (some ⟨gl, 0, none⟩) 5 cl) ∧ w'.cell? ⟨gl, 4, none⟩ = some (.string (tth lk 2).key) ∧ w'.cell? ⟨gl, 5, none⟩ = some (.int .i64 (tth lk 2).no)) W2 := by
      refine ⟨hp2, node_c0 ((hrw.1.block q (Array.getElem?_eq_some_iff.1 tri2.out.hq).1 (fun e0 => by have := tri2.out.nd q; rw [ob_some e0.symm, one_self] at this; omega)).trans tri2.out.hq), ?_, ?_⟩
      · exact (hce.out _ (own_ne tri2.out.o3 hrw.1 (fun k e e2 => by have := tri2.out.nd k; rw [ob_some e, ob_some e2] at this; omega))).1
      · exact (hce.out _ (own_ne tri2.out.o3 hrw.1 (fun k e e2 => by have := tri2.out.nd k; rw [ob_some e, ob_some e2] at this; omega))).2
    obtain ⟨Av, cv, rfl, -⟩ := own_form ho'
    clear ho' hrw tri2 hva hne I1 I0
    refine hK _ _ ⟨fun _ => I2, ?_⟩
    clear hK K
    try simp only [Act.put, lyA, lyB, lyC, lyD, lyE, lyF]
    refine J_one 15 rfl (by kernel_rfl) (fun K hK => ?_)
    go_simp
    refine hK _ _ ⟨fun _ => I2, ?_⟩
    clear hK K
    try simp only [Act.put, lyD, lyE, lyF]
    refine J_one 16 rfl (by kernel_rfl) (fun K hK => ?_)
    go_simp
    refine hK _ _ ⟨fun _ => I2, ?_⟩
    clear hK K
    try simp only [Act.put, lyD, lyE, lyF]
    refine J_one 17 rfl (by kernel_rfl) (fun K hK => ?_)
    go_simp
    refine hK _ _ ⟨fun h => absurd rfl h, ?_⟩
    clear hK K
    refine J_done (by kernel_rfl) (OnlyOn.normal ?_)
    replace tri3 := hid (tri3.out _ rfl)
    clear I2 hp2 hf2
    generalize W2.setCell ⟨p, 0, none⟩ (.slice Av (l.length + 1) cv) = W3 at *
    have cp1 := node_c1 tri3.out.hp
    have cq0 := node_c0 tri3.out.hq
    have hw9 : IntKind.i64.wrap ((i : Int) + 1) = ((i + 1 : Nat) : Int) := by rw [IntWalk.i64_in _ (by omega)]; omega
    have lpW := World.block_lt_of_cell? _ _ cp1
    dsimp only at lpW
    have lqW := World.block_lt_of_cell? _ _ cq0
    dsimp only at lqW
    obtain ⟨j, hj⟩ : ∃ j, j = i + 1 := ⟨_, rfl⟩
    rw [← hj] at hw9
    replace hj := hid hj
    have tri4 := hid (tri3.out.ext ((Ext.refl W3).alloc_right (.cells #[.pointer (some ⟨r, 0, none⟩)] 44)))
    have hva := hid (heap_alloc_new W3 (.cells #[.pointer (some ⟨r, 0, none⟩)] 44))
    have hne : Hid ((Value.slice (some kad) ps.length kc).ownBlock ≠ some W3.heap.size) := fun e => by have := (tri3.out.o2.lt _ e).2; omega
    have hx9 := (Ext.refl W3).alloc_right (.cells #[.pointer (some ⟨r, 0, none⟩)] 44)
    clear tri3
    go_wp2_with fail
    replace cp1 := hx9.cell cp1
    replace cq0 := hx9.cell cq0
    clear hx9
    generalize W3.heap.size = va at *
    generalize W3.alloc (.cells #[.pointer (some ⟨r, 0, none⟩)] 44) = W4 at *
    refine (ins_K ps.length j _ (ptrs ps) [.pointer (some ⟨r, 0, none⟩)] va W4 (by have := hj.out; omega) (by omega) tri4.out.o2 (ptrs_one _) hva.out rfl (ptrs_one [r]) hne.out).mono ?_
    rintro e W5 ⟨v', rfl, ho', hrw⟩
    have tri5 : ∀ u, u = v' → Tri f w (W5.setCell ⟨p, 1, none⟩ u) p q r (.slice Av (l.length + 1) cv) u (.slice (some ⟨gl, 0, none⟩) 5 cl) (.slice A3 3 c3) (.slice Ar 2 cr) (.slice A1 3 c1) (l.length + 1) (ps.length + 1) 5 3 2 3 ((tents l).take (i * 2) ++ ([.string (tth lk 2).key, .int .i64 (tth lk 2).no] ++ (tents l).drop (i * 2))) ((ptrs ps).take (j * 1) ++ ([.pointer (some ⟨r, 0, none⟩)] ++ (ptrs ps).drop (j * 1))) (tents lk) (ptrs (pk.take 3)) (tents (lk.drop 3)) (ptrs (pk.drop 3)) := fun u e => by rw [e]; exact tri4.out.rep1 hrw.1 ho' hrw.2
    replace tri5 := hid tri5
    have bp := hid ((hrw.1.block p (Array.getElem?_eq_some_iff.1 tri4.out.hp).1 (fun e0 => by have := tri4.out.nd p; rw [ob_some e0.symm, one_self] at this; omega)).trans tri4.out.hp)
    have hp2 := node_c1 bp.out
    have hf2 := Lib.frozen_of_heap bp.out 1
    obtain ⟨Aw, cw, rfl, -⟩ := own_form ho'
    have cq0' : (W5.setCell ⟨p, 1, none⟩ (.slice Aw (ps.length + 1) cw)).cell? ⟨q, 0, none⟩ = some (.slice (some ⟨gl, 0, none⟩) 5 cl) := node_c0 (tri5.out _ rfl).hq
    have cfq : (W5.setCell ⟨p, 1, none⟩ (.slice Aw (ps.length + 1) cw)).frozen? ⟨q, 0, none⟩ = false := Lib.frozen_of_heap (tri5.out _ rfl).hq 0
    have hRl : Hid (∀ W, W.ownsRow 0 65 2 (.slice (some ⟨gl, 0, none⟩) 5 cl) 5 (tents lk) → Rd W 2 (some ⟨gl, 0, none⟩) 2 cl (tents (lk.take 2))) := fun W h => by have := (Rd.of_own h).takeK (m := 2) (by omega); rw [tents_take] at this; exact this
    replace tri5 := hid (tri5.out _ rfl)
    clear ho' hrw tri4 hva hne bp cp1 cq0
    go_wp2_with fail
    clear hp2 hf2
    generalize W5.setCell ⟨p, 1, none⟩ (.slice Aw (ps.length + 1) cw) = W6 at *
    refine (clone_N (some ⟨gl, 0, none⟩) 2 cl (tents (lk.take 2)) W6 (by omega) (hRl.out W6 tri5.out.o3) (tents_one _)).mono ?_
    rintro e W7 ⟨v7, rfl, ho7, hx7⟩
    obtain ⟨A7, c7, rfl, -⟩ := own_form ho7
    have tri7 : ∀ u, u = Value.slice A7 2 c7 → Tri f w (W7.setCell ⟨q, 0, none⟩ u) p q r (.slice Av (l.length + 1) cv) (.slice Aw (ps.length + 1) cw) u (.slice A3 3 c3) (.slice Ar 2 cr) (.slice A1 3 c1) (l.length + 1) (ps.length + 1) 2 3 2 3 ((tents l).take (i * 2) ++ ([.string (tth lk 2).key, .int .i64 (tth lk 2).no] ++ (tents l).drop (i * 2))) ((ptrs ps).take (j * 1) ++ ([.pointer (some ⟨r, 0, none⟩)] ++ (ptrs ps).drop (j * 1))) (tents (lk.take 2)) (ptrs (pk.take 3)) (tents (lk.drop 3)) (ptrs (pk.drop 3)) := fun u e => by rw [e]; exact (tri5.out.rot.rep0 (W' := W7) (Ext.grown hx7 _) (own_baseK ho7 (Nat.zero_le _)) (.inr (own_freshB ho7))).rot.rot
    replace tri7 := hid (tri7 _ rfl)
    replace cq0' := hx7.cell cq0'
    have cfq7 : W7.frozen? ⟨q, 0, none⟩ = false := Lib.frozen_of_heap ((hx7.block (Array.getElem?_eq_some_iff.1 tri5.out.hq).1).trans tri5.out.hq) 0
    have eL : Hid ((tents l).take (i * 2) ++ ([.string (tth lk 2).key, .int .i64 (tth lk 2).no] ++ (tents l).drop (i * 2)) = tents (l.take i ++ tth lk 2 :: l.drop i)) := by unfold Hid; rw [tents_take, tents_drop, tents_append]; rfl
    have eK : Hid ((ptrs ps).take (j * 1) ++ ([.pointer (some ⟨r, 0, none⟩)] ++ (ptrs ps).drop (j * 1)) = ptrs (ps.take (i + 1) ++ r :: ps.drop (i + 1))) := by
      unfold Hid; rw [hj.out, Nat.mul_one]; unfold ptrs; rw [List.map_append, List.map_cons, List.map_take, List.map_drop]; rfl
    clear ho7 hx7 tri5 cfq
    go_wp2_with fail
    go_end0
    refine ⟨rfl, r, .slice Av (l.length + 1) cv, .slice Aw (ps.length + 1) cw, .slice A7 2 c7, (.slice A3 3 c3), .slice Ar 2 cr, (.slice A1 3 c1), ?_⟩
    have hfin := tri7.out
    rw [eL.out, eK.out] at hfin
    have k3 : (pk.take 3).length = 3 := by rw [List.length_take]; omega
    have k4 : (pk.drop 3).length = 3 := by rw [List.length_drop]; omega
    rw [k3, k4]
    exact hfin
open Go.RowKit Go.Shelf
def Kd (w : World) : Nat → List Nat → List BT → (Nat → Nat) → Prop
  | 0, ps, ks, g => ks = [] ∧ ps = [] ∧ ∀ a, g a = 0
  | h + 1, ps, ks, g => Ks (TN w h) ps ks g
theorem TN.opn {w : World} {h p : Nat} {l : List Te} {ks : List BT} {f : Nat → Nat} (hT : TN w h p (.nd l ks) f) : ∃ lv kv ps g, w.heap[p]? = some (.cells #[lv, kv] 48 (0, 0)) ∧ w.ownsRow 0 65 2 lv l.length (tents l) ∧ w.ownsRow 0 44 1 kv ps.length (ptrs ps) ∧ Kd w h ps ks g ∧ ∀ a, f a = one1 p a + ob lv a + ob kv a + g a := by
  cases h with
  | zero =>
    obtain ⟨hk, lv, kv, e1, e2, e3, e4⟩ := hT
    exact ⟨lv, kv, [], fun _ => 0, e1, e2, e3, ⟨hk, rfl, fun _ => rfl⟩, e4⟩
  | succ h =>
    obtain ⟨lv, kv, ps, g, e1, e2, e3, e5, e4⟩ := hT
    exact ⟨lv, kv, ps, g, e1, e2, e3, e5, e4⟩
theorem TN.shut {w : World} {h p : Nat} {l : List Te} {ks : List BT} {f : Nat → Nat} {lv kv : Value} {ps : List Nat} {g : Nat → Nat} (e1 : w.heap[p]? = some (.cells #[lv, kv] 48 (0, 0))) (e2 : w.ownsRow 0 65 2 lv l.length (tents l)) (e3 : w.ownsRow 0 44 1 kv ps.length (ptrs ps)) (e5 : Kd w h ps ks g) (e4 : ∀ a, f a = one1 p a + ob lv a + ob kv a + g a) : TN w h p (.nd l ks) f := by
  cases h with
  | zero =>
    obtain ⟨hk, rfl, hg⟩ := e5
    exact ⟨hk, lv, kv, e1, e2, e3, fun a => by rw [e4 a, hg a]; omega⟩
  | succ h => exact ⟨lv, kv, ps, g, e1, e2, e3, e5, e4⟩
theorem Kd.len {w : World} {h : Nat} {ps : List Nat} {ks : List BT} {g : Nat → Nat} (k : Kd w h ps ks g) : ps.length = ks.length := by
  cases h with
  | zero => obtain ⟨rfl, rfl, _⟩ := k; rfl
  | succ h => exact Ks.len k
theorem Kd.frame {w w' : World} {f : Nat → Nat} (hF : FR f w w') {h : Nat} {ps : List Nat} {ks : List BT} {g : Nat → Nat} (k : Kd w h ps ks g) (hg : ∀ a, 0 < g a → f a = 0) : Kd w' h ps ks g := by
  cases h with
  | zero => exact k
  | succ h => exact Ks.frame (fun p T g h1 h2 => TN.frame hF h1 h2) k hg
theorem Kd.same {w : World} {h : Nat} {ps : List Nat} {ks : List BT} {f g : Nat → Nat} (k : Kd w h ps ks f) (e : ∀ a, g a = f a) : Kd w h ps ks g := by
  have : g = f := funext e
  rw [this]
  exact k
theorem Kd.parts {w : World} {h : Nat} : ∀ {m : Nat} {ps : List Nat} {ks : List BT} {g : Nat → Nat}, Kd w h ps ks g → ∃ g1 g2, Kd w h (ps.take m) (ks.take m) g1 ∧ Kd w h (ps.drop m) (ks.drop m) g2 ∧ ∀ a, g a = g1 a + g2 a := by
  cases h with
  | zero =>
    intro m ps ks g k
    obtain ⟨rfl, rfl, hg⟩ := k
    exact ⟨fun _ => 0, fun _ => 0, ⟨by simp, by simp, fun _ => rfl⟩, ⟨by simp, by simp, fun _ => rfl⟩, fun a => by show g a = 0 + 0; rw [hg a]⟩
  | succ h =>
    intro m
    induction m with
    | zero => intro ps ks g k; exact ⟨fun _ => 0, g, by rw [List.take_zero, List.take_zero]; exact fun _ => rfl, by rw [List.drop_zero, List.drop_zero]; exact k, fun a => by show g a = 0 + g a; omega⟩
    | succ m ih =>
      intro ps ks g k
      match ps, ks, k with
      | [], [], k => exact ⟨fun _ => 0, g, fun _ => rfl, k, fun a => by show g a = 0 + g a; omega⟩
      | p :: ps, T :: ks, ⟨f1, f2, h1, h2, h3⟩ =>
        obtain ⟨g1, g2, k1, k2, k3⟩ := ih h2
        exact ⟨fun a => f1 a + g1 a, g2, ⟨f1, g1, h1, k1, fun _ => rfl⟩, k2, fun a => by show g a = f1 a + g1 a + g2 a; rw [h3 a, k3 a]; omega⟩
      | [], _ :: _, k => exact k.elim
      | _ :: _, [], k => exact k.elim
theorem Ks.bound {R : Nat → BT → (Nat → Nat) → Prop} {m : Nat} (hR : ∀ p T g, R p T g → ∀ a, m ≤ a → g a = 0) : ∀ {ps : List Nat} {ks : List BT} {g : Nat → Nat}, Ks R ps ks g → ∀ a, m ≤ a → g a = 0
  | [], [], g, h, a, _ => h a
  | p :: ps, T :: ks, g, ⟨f1, f2, h1, h2, h3⟩, a, ha => by rw [h3 a, hR _ _ _ h1 a ha, Ks.bound hR h2 a ha]
  | [], _ :: _, g, h, _, _ => h.elim
  | _ :: _, [], g, h, _, _ => h.elim
theorem TN.bound {w : World} : ∀ {h p : Nat} {T : BT} {f : Nat → Nat}, TN w h p T f → ∀ a, w.heap.size ≤ a → f a = 0
  | 0, p, .nd l ks, f, ⟨_, lv, kv, e1, e2, e3, e4⟩, a, ha => by rw [e4 a, one_bound e1 ha, own_bound e2 ha, own_bound e3 ha]
  | h + 1, p, .nd l ks, f, ⟨lv, kv, ps, g, e1, e2, e3, e5, e4⟩, a, ha => by rw [e4 a, one_bound e1 ha, own_bound e2 ha, own_bound e3 ha, Ks.bound (fun p T g h1 => TN.bound h1) e5 a ha]
theorem Kd.bound {w : World} {h : Nat} {ps : List Nat} {ks : List BT} {g : Nat → Nat} (k : Kd w h ps ks g) : ∀ a, w.heap.size ≤ a → g a = 0 := by
  cases h with
  | zero => exact fun a _ => k.2.2 a
  | succ h => exact Ks.bound (fun p T g h1 => TN.bound h1) k
def Turned (w w' : World) (h p : Nat) (f : Nat → Nat) (T' : BT) : Prop := ∃ f', TN w' h p T' f' ∧ (∀ a, f' a ≤ 1) ∧ (∀ a, a < w.heap.size → f' a ≤ f a) ∧ FR f w w'
theorem Turned.left {u w w' : World} {h p : Nat} {f : Nat → Nat} {T' : BT} (ht : Turned w w' h p f T') (hx : Ext u w) : Turned u w' h p f T' := by
  obtain ⟨f', h1, h2, h3, h4⟩ := ht
  exact ⟨f', h1, h2, fun a ha => h3 a (Nat.lt_of_lt_of_le ha hx.size), (FR.of_ext (f := f) hx).trans h4 (fun _ _ h => h)⟩
theorem kid_turned {w w' : World} {h p q i : Nat} {l : List Te} {ks : List BT} {ps : List Nat} {lv kv : Value} {g0 g1 g2 f : Nat → Nat} {K K' : BT} (e1 : w.heap[p]? = some (.cells #[lv, kv] 48 (0, 0))) (e2 : w.ownsRow 0 65 2 lv l.length (tents l)) (e3 : w.ownsRow 0 44 1 kv ps.length (ptrs ps))
    (hp : ps[i]? = some q) (hk : ks[i]? = some K) (k0 : Ks (TN w h) (ps.take i) (ks.take i) g0) (k2 : Ks (TN w h) (ps.drop (i + 1)) (ks.drop (i + 1)) g2) (hf : ∀ a, f a = one1 p a + ob lv a + ob kv a + (g0 a + g1 a + g2 a)) (hn : ∀ a, f a ≤ 1) (kb : ∀ a, w.heap.size ≤ a → f a = 0) (ht : Turned w w' h q g1 K') :
    ∃ g1', TN w' h q K' g1' ∧ w'.heap[p]? = some (.cells #[lv, kv] 48 (0, 0)) ∧ w'.ownsRow 0 65 2 lv l.length (tents l) ∧ w'.ownsRow 0 44 1 kv ps.length (ptrs ps) ∧ Ks (TN w' h) (ps.take i) (ks.take i) g0 ∧ Ks (TN w' h) (ps.drop (i + 1)) (ks.drop (i + 1)) g2 ∧
      (∀ a, one1 p a + ob lv a + ob kv a + (g0 a + g1' a + g2 a) ≤ 1) ∧ (∀ a, a < w.heap.size → one1 p a + ob lv a + ob kv a + (g0 a + g1' a + g2 a) ≤ f a) ∧ FR f w w' := by
  obtain ⟨g1', t1, t2, t3, t4⟩ := ht
  refine ⟨g1', t1, (t4.2.2.2.2 p (Array.getElem?_eq_some_iff.1 e1).1 ?_).trans e1, t4.own e2 (fun k e => ?_), t4.own e3 (fun k e => ?_), Ks.frame (fun p T g h1 h2 => TN.frame t4 h1 h2) k0 (fun a ha => ?_), Ks.frame (fun p T g h1 h2 => TN.frame t4 h1 h2) k2 (fun a ha => ?_), fun a => ?_, fun a ha => ?_, t4.mono (fun k hk h0 => ?_)⟩
  · have := hn p; rw [hf p, one_self] at this; omega
  · have := hn k; rw [hf k, ob_some e] at this; omega
  · have := hn k; rw [hf k, ob_some e] at this; omega
  · have := hn a; rw [hf a] at this; omega
  · have := hn a; rw [hf a] at this; omega
  · by_cases ha : a < w.heap.size
    · have := hn a; have h3 := t3 a ha; rw [hf a] at this; omega
    · have := kb a (by omega); rw [hf a] at this; have := t2 a; omega
  · rw [hf a]; have := t3 a ha; omega
  · rw [hf k] at h0; omega
theorem set_cut {α : Type} {l : List α} {i : Nat} (hi : i < l.length) (x : α) : l.set i x = l.take i ++ x :: l.drop (i + 1) := by
  rw [List.set_eq_take_append_cons_drop, if_pos hi]
theorem Ks.mid {R : Nat → BT → (Nat → Nat) → Prop} {ps qs : List Nat} {ks ms : List BT} {q : Nat} {K : BT} {g0 g1 g2 : Nat → Nat} (h0 : Ks R ps ks g0) (h1 : R q K g1) (h2 : Ks R qs ms g2) : Ks R (ps ++ q :: qs) (ks ++ K :: ms) (fun a => g0 a + g1 a + g2 a) := by
  have h12 : Ks R (q :: qs) (K :: ms) (fun a => g1 a + g2 a) := ⟨g1, g2, h1, h2, fun _ => rfl⟩
  exact (Ks.app h0 h12).same (fun a => by show g0 a + g1 a + g2 a = g0 a + (g1 a + g2 a); omega)
open Go.RowKit Go.Shelf
theorem rd_ptr {w : World} {n c i q : Nat} {ps : List Nat} {ad : Addr} (h : Rd w 1 (some ad) n c (ptrs ps)) (hp : ps[i]? = some q) : w.cell? (ad.add i) = some (.pointer (some ⟨q, 0, none⟩)) := by
  have hi : i < ps.length := (List.getElem?_eq_some_iff.1 hp).1
  have hn : 0 < n := by have := h.1; rw [ptrs_len] at this; omega
  obtain ⟨ad', e, hc⟩ := h.2.2.2 hn
  obtain rfl := Option.some.inj e
  exact hc i _ (by unfold ptrs; rw [List.getElem?_map, hp]; rfl)
theorem leaf_put {w W W2 : World} {p : Nat} {l l' : List Te} {lv kv v' : Value} {f : Nat → Nat} (hx : Ext w W) (e1 : W.heap[p]? = some (.cells #[lv, kv] 48 (0, 0))) (e2 : W.ownsRow 0 65 2 lv l.length (tents l)) (e3 : W.ownsRow 0 44 1 kv 0 (ptrs [])) (e4 : ∀ a, f a = one1 p a + ob lv a + ob kv a) (hn : ∀ a, f a ≤ 1)
    (hrw : Rw lv v' W W2) (ho : W2.ownsRow 0 65 2 v' l'.length (tents l')) : Turned w (W2.setCell ⟨p, 0, none⟩ v') 0 p f (.nd l' []) := by
  obtain ⟨hg, hv⟩ := hrw
  have hsz := hx.size
  have hlt := (Array.getElem?_eq_some_iff.1 e1).1
  have hv'p : v'.ownBlock ≠ some p := fun e => by
    rcases hv with h1 | h1
    · have := hn p; rw [e4 p, ob_some (v := lv) (h1.symm.trans e), one_self] at this; omega
    · have := h1 p e; omega
  have bp := (hg.block p hlt (fun e0 => by have := hn p; rw [e4 p, ob_some e0.symm, one_self] at this; omega)).trans e1
  refine ⟨fun a => one1 p a + ob v' a + ob kv a, ⟨rfl, v', kv, node_set0 bp _, own_set ho hv'p 0 _, own_set (own_ne e3 hg (fun k e e2 => by have := hn k; rw [e4 k, ob_some e, ob_some e2] at this; omega)) (fun e => by have := hn p; rw [e4 p, ob_some e, one_self] at this; omega) 0 _, fun _ => rfl⟩, fun a => ?_, fun a ha => ?_, fr_step (FR.of_ext hx) hg (fun k e hk h0 => by rw [e4 k, ob_some e] at h0; omega) (fun hk h0 => by rw [e4 p, one_self] at h0; omega) 0 _⟩
  · show one1 p a + ob v' a + ob kv a ≤ 1
    have h0 := hn a
    rw [e4 a] at h0
    rcases hv with h1 | h1
    · rw [ob_same h1]; exact h0
    · by_cases hs : a < W.heap.size
      · rw [show ob v' a = 0 from if_neg (fun e => by have := h1 a e; omega)]; omega
      · rw [one_bound e1 (Nat.le_of_not_lt hs), own_bound e3 (Nat.le_of_not_lt hs)]
        have : ob v' a ≤ 1 := by unfold ob; split <;> omega
        omega
  · show one1 p a + ob v' a + ob kv a ≤ f a
    rw [e4 a]
    rcases hv with h1 | h1
    · rw [ob_same h1]; omega
    · rw [show ob v' a = 0 from if_neg (fun e => by have := h1 a e; omega)]; omega
theorem split_done {w w5 w6 : World} {h p q r i : Nat} {l lk : List Te} {ks kk : List BT} {ps pk : List Nat} {lv kv lq kq lv' kv' lq' kq' lr kr : Value} {f f2 g0 gk g2 : Nat → Nat} (hi : i < ps.length) (hl5 : lk.length = 5) (hfr : FR f w w5)
    (hpi : ps[i]? = some q)
    (hle : ∀ a, a < w.heap.size → one1 p a + ob lv a + ob kv a + (g0 a + (one1 q a + ob lq a + ob kq a + gk a) + g2 a) ≤ f a) (hn5 : ∀ a, one1 p a + ob lv a + ob kv a + (g0 a + (one1 q a + ob lq a + ob kq a + gk a) + g2 a) ≤ 1)
    (k0 : Ks (TN w5 h) (ps.take i) (ks.take i) g0) (k2 : Ks (TN w5 h) (ps.drop (i + 1)) (ks.drop (i + 1)) g2) (k1 : Kd w5 h pk kk gk) (hf2 : ∀ a, f2 a = one1 p a + ob lv a + ob kv a + one1 q a + ob lq a + ob kq a)
    (tri : Tri f2 w5 w6 p q r lv' kv' lq' kq' lr kr (l.length + 1) (ps.length + 1) 2 (pk.take 3).length 2 (pk.drop 3).length (tents (l.take i ++ tth lk 2 :: l.drop i)) (ptrs (ps.take (i + 1) ++ r :: ps.drop (i + 1))) (tents (lk.take 2)) (ptrs (pk.take 3)) (tents (lk.drop 3)) (ptrs (pk.drop 3))) (hil : i ≤ l.length) :
    Turned w w6 (h + 1) p f (splitT l ks i (.nd lk kk)) := by
  obtain ⟨gk1, gk2, kk1, kk2, hgk⟩ := k1.parts (m := 3)
  have b0 := Ks.bound (fun p T g h1 => TN.bound h1) k0
  have b2 := Ks.bound (fun p T g h1 => TN.bound h1) k2
  have b1 := k1.bound
  have hsz := hfr.2.2.2.1
  have z : ∀ a, 0 < g0 a + g2 a + gk a → f2 a = 0 := fun a ha => by have := hn5 a; rw [hf2 a]; omega
  have k0' := Ks.frame (fun p T g h1 h2 => TN.frame tri.fr h1 h2) k0 (fun a ha => z a (by omega))
  have k2' := Ks.frame (fun p T g h1 h2 => TN.frame tri.fr h1 h2) k2 (fun a ha => z a (by omega))
  have kk1' := kk1.frame tri.fr (fun a ha => z a (by rw [hgk a]; omega))
  have kk2' := kk2.frame tri.fr (fun a ha => z a (by rw [hgk a]; omega))
  have hm : (BT.nd lk kk).l.length / 2 = 2 := by show lk.length / 2 = 2; omega
  have hps : ps.take (i + 1) ++ r :: ps.drop (i + 1) = ps.take i ++ q :: (r :: ps.drop (i + 1)) := by
    rw [List.take_add_one, hpi]
    simp
  have hT : splitT l ks i (.nd lk kk) = .nd (l.take i ++ tth lk 2 :: l.drop i) (ks.take i ++ .nd (lk.take 2) (kk.take 3) :: (.nd (lk.drop 3) (kk.drop 3) :: ks.drop (i + 1))) := by
    unfold splitT
    rw [hm]
    rfl
  have nq : TN w6 h q (.nd (lk.take 2) (kk.take 3)) (fun a => one1 q a + ob lq' a + ob kq' a + gk1 a) := TN.shut tri.hq (by rw [show (lk.take 2).length = 2 by rw [List.length_take]; omega]; exact tri.o3) tri.o4 kk1' (fun _ => rfl)
  have nr : TN w6 h r (.nd (lk.drop 3) (kk.drop 3)) (fun a => one1 r a + ob lr a + ob kr a + gk2 a) := TN.shut tri.hr (by rw [show (lk.drop 3).length = 2 by rw [List.length_drop]; omega]; exact tri.o5) tri.o6 kk2' (fun _ => rfl)
  have kr2 : Ks (TN w6 h) (r :: ps.drop (i + 1)) (.nd (lk.drop 3) (kk.drop 3) :: ks.drop (i + 1)) (fun a => (one1 r a + ob lr a + ob kr a + gk2 a) + g2 a) := ⟨_, _, nr, k2', fun _ => rfl⟩
  have kall := Ks.mid k0' nq kr2
  have hlen : (l.take i ++ tth lk 2 :: l.drop i).length = l.length + 1 := by simp; omega
  have hpl : (ps.take i ++ q :: (r :: ps.drop (i + 1))).length = ps.length + 1 := by simp; omega
  have o2' := tri.o2
  rw [hps] at o2'
  rw [hT]
  refine ⟨_, TN.shut tri.hp (by rw [hlen]; exact tri.o1) (by rw [hpl]; exact o2') kall (fun _ => rfl), fun a => ?_, fun a ha => ?_, hfr.trans tri.fr (fun k hk h0 => ?_)⟩
  · by_cases hs : a < w5.heap.size
    · have h1 := tri.le a hs
      have h2 := hn5 a
      have h3 := hgk a
      rw [hf2 a] at h1
      show one1 p a + ob lv' a + ob kv' a + (g0 a + (one1 q a + ob lq' a + ob kq' a + gk1 a) + (one1 r a + ob lr a + ob kr a + gk2 a + g2 a)) ≤ 1
      omega
    · have h1 := tri.nd a
      have h2 := b0 a (by omega)
      have h3 := b1 a (by omega)
      have h4 := b2 a (by omega)
      have h5 := hgk a
      show one1 p a + ob lv' a + ob kv' a + (g0 a + (one1 q a + ob lq' a + ob kq' a + gk1 a) + (one1 r a + ob lr a + ob kr a + gk2 a + g2 a)) ≤ 1
      omega
  · have h1 := tri.le a (by omega)
    have h2 := hle a ha
    have h3 := hgk a
    rw [hf2 a] at h1
    show one1 p a + ob lv' a + ob kv' a + (g0 a + (one1 q a + ob lq' a + ob kq' a + gk1 a) + (one1 r a + ob lr a + ob kr a + gk2 a + g2 a)) ≤ f a
    omega
  · have h2 := hle k hk
    rw [hf2 k]
    omega
theorem put_any : ∀ (h p : Nat) (T : BT) (f : Nat → Nat) (w : World) (e : Te), TN w h p T f → (∀ a, f a ≤ 1) → Shp h T → Srt (flat h T) → e ∉ flat h T → T.l.length ≤ 4 → Calls Tryz.prog 48 #[.pointer (some ⟨p, 0, none⟩), .agg #[.string e.key, .int .i64 e.no]] w fun e' w' => e' = .returned (.tuple #[]) ∧ Turned w w' h p f (putT h T e) := by
  intro h
  induction h with
  | zero =>
    intro p T f w e hT hn hs hS hne0 hl
    have hSl : Srt T.l := by obtain ⟨l, ks⟩ := T; exact hS
    obtain ⟨l, ks⟩ := T
    replace hSl : Srt l := hSl
    obtain ⟨lv, kv, ps, g, e1, e2, e3, e5, e4⟩ := hT.opn
    obtain ⟨A, c, rfl, hr⟩ := own_rd e2
    have hml := Rd.max hr
    have hl4 : l.length ≤ 4 := hl
    have ha := heap_alloc_new w (.cells #[.string e.key, .int .i64 e.no] 65)
    have hx1 := hid ((Ext.refl w).alloc_right (.cells #[.string e.key, .int .i64 e.no] 65))
    have z0 : (w.alloc (.cells #[.string e.key, .int .i64 e.no] 65)).cell? ⟨w.heap.size, 0, none⟩ = some (.string e.key) := by rw [Lib.cell_of_heap ha]; rfl
    have z1 : (w.alloc (.cells #[.string e.key, .int .i64 e.no] 65)).cell? ⟨w.heap.size, 1, none⟩ = some (.int .i64 e.no) := by rw [Lib.cell_of_heap ha]; rfl
    have zp := hx1.out.cell (node_c0 e1)
    have lp := World.block_lt_of_cell? _ _ zp
    dsimp only at lp
    have hP := hid (place_any p A l.length c l e _ zp (hr.ext hx1.out) hSl (by omega))
    have hil := (rank_cut hSl e).1
    have hbs : Hid (∀ a, f a ≠ 0 → a < w.heap.size) := fun a h0 => Nat.lt_of_not_le (fun h1 => h0 (hT.bound a h1))
    obtain ⟨rfl, rfl, hg0⟩ := e5
    replace e4 : ∀ a, f a = one1 p a + ob (.slice A l.length c) a + ob kv a := fun a => by rw [e4 a, hg0 a]; omega
    obtain ⟨kA, kc, rfl, -⟩ := own_rd e3
    have hii := hid (show tents (insT l e) = (tents l).take (rankT l e * 2) ++ ([.string e.key, .int .i64 e.no] ++ (tents l).drop (rankT l e * 2)) by rw [ins_cut hSl e, tents_append, tents_take, tents_drop]; rfl)
    replace hii := hid hii.out.symm
    show Calls Tryz.prog _ _ w (fun e' w' => e' = .returned (.tuple #[]) ∧ Turned w w' 0 p f (.nd (insT l e) []))
    clear ha zp hr
    go_enter Tryz.func48, Tryz.ntmps48
    go_upto_region 1 with fail
    obtain ⟨b, hb0⟩ : ∃ b, b = w.heap.size := ⟨_, rfl⟩
    rw [← hb0] at z0 z1
    simp only [← hb0]
    replace hb0 := hid hb0
    generalize w.alloc (.cells #[.string e.key, .int .i64 e.no] 65) = w1 at *
    generalize rankT l e = i at *
    generalize memT l e = mm at *
    go_wp2_with fail
    refine hP.out.mono ?_
    rintro e' w2 ⟨rfl, hx2⟩
    replace z0 := hx2.cell z0
    replace z1 := hx2.cell z1
    replace hx1 := hid (hx1.out.trans hx2)
    clear hx2 hP
    replace e1 := (hx1.out.block (Array.getElem?_eq_some_iff.1 e1).1).trans e1
    replace e2 := hx1.out.own e2
    replace e3 := hx1.out.own e3
    have lp2 := (Array.getElem?_eq_some_iff.1 e1).1
    have zk := node_c1 e1
    have zp := node_c0 e1
    have hb : Hid (∀ W1 W2 : World, W1.cell? ⟨b, 0, none⟩ = some (.string e.key) → W1.cell? ⟨b, 1, none⟩ = some (.int .i64 e.no) → ∀ v', Rw (.slice A l.length c) v' W1 W2 → W2.cell? ⟨b, 0, none⟩ = some (.string e.key) ∧ W2.cell? ⟨b, 1, none⟩ = some (.int .i64 e.no)) := fun W1 W2 q0 q1 v' hrw => by
      have hlt := World.block_lt_of_cell? _ _ q0
      have hbl : b ≥ w.heap.size := by have := hb0.out; omega
      have hne : some b ≠ (Value.slice A l.length c).ownBlock := fun e0 => by
        have := hbs.out b (by rw [e4 b, ob_some e0.symm]; omega)
        omega
      exact ⟨by rw [World.cell?_of_block (hrw.1.block b hlt hne)]; exact q0, by rw [World.cell?_of_block (hrw.1.block b hlt hne)]; exact q1⟩
    go_upto_region 3 with fail
    have I0 : (fun w' : World => w'.cell? ⟨p, 0, none⟩ = some (.slice A l.length c) ∧ w'.cell? ⟨b, 0, none⟩ = some (.string e.key) ∧ w'.cell? ⟨b, 1, none⟩ = some (.int .i64 e.no)) w2.drew := ⟨zp, z0, z1⟩
    have hx4 := hid (hx1.out.drew_right)
    refine region_J (fun w' : World => w'.cell? ⟨p, 0, none⟩ = some (.slice A l.length c) ∧ w'.cell? ⟨b, 0, none⟩ = some (.string e.key) ∧ w'.cell? ⟨b, 1, none⟩ = some (.int .i64 e.no)) 11 (by kernel_rfl) ?_
    replace e1 : w2.drew.heap[p]? = _ := e1
    replace e2 : w2.drew.ownsRow _ _ _ _ _ _ := (Ext.refl w2).drew_right.own e2
    replace e3 : w2.drew.ownsRow _ _ _ _ _ _ := (Ext.refl w2).drew_right.own e3
    clear zp z0 z1 zk
    generalize w2.drew = W at *
    refine JT 0 (v := ?vc0) I0 ?yc0 ?rc0
    case yc0 => (intro w h; obtain ⟨_, _, _⟩ := h; go_simp; with_reducible rfl)
    simp only [Act.put, lyA, lyB, lyC, lyD, lyE, lyF]
    refine JT 1 (v := ?vc1) I0 ?yc1 ?rc1
    case yc1 => (intro w h; obtain ⟨_, _, _⟩ := h; go_simp; with_reducible rfl)
    simp only [Act.put, lyA, lyB, lyC, lyD, lyE, lyF]
    refine JT 2 (v := ?vc2) I0 ?yc2 ?rc2
    case yc2 => (intro w h; obtain ⟨_, _, _⟩ := h; go_simp; with_reducible rfl)
    simp only [Act.put, lyA, lyB, lyC, lyD, lyE, lyF]
    refine JT 3 (v := ?vc3) I0 ?yc3 ?rc3
    case yc3 => (intro w h; obtain ⟨_, _, _⟩ := h; go_simp; with_reducible rfl)
    simp only [Act.put, lyA, lyB, lyC, lyD, lyE, lyF]
    refine JT 4 (v := ?vc4) I0 ?yc4 ?rc4
    case yc4 => (intro w h; obtain ⟨_, _, _⟩ := h; go_simp; with_reducible rfl)
    simp only [Act.put, lyA, lyB, lyC, lyD, lyE, lyF]
    refine JT 5 (v := ?vc5) I0 ?yc5 ?rc5
    case yc5 => (intro w h; obtain ⟨_, _, _⟩ := h; go_simp; with_reducible rfl)
    simp only [Act.put, lyA, lyB, lyC, lyD, lyE, lyF]
    refine JT 6 (v := ?vc6) I0 ?yc6 ?rc6
    case yc6 => (intro w h; obtain ⟨_, _, _⟩ := h; go_simp; with_reducible rfl)
    simp only [Act.put, lyA, lyB, lyC, lyD, lyE, lyF]
    refine J_one 7 rfl (by kernel_rfl) (fun K hK => ?_)
    go_simp
    have hx5 := (Ext.refl W).alloc_right (.cells #[.string e.key, .int .i64 e.no] 65)
    have hva := hid (heap_alloc_new W (.cells #[.string e.key, .int .i64 e.no] 65))
    have hne : Hid ((Value.slice A l.length c).ownBlock ≠ some W.heap.size) := fun e => by have := (e2.lt _ e).2; omega
    have I1 : (fun w' : World => w'.cell? ⟨p, 0, none⟩ = some (.slice A l.length c) ∧ w'.cell? ⟨b, 0, none⟩ = some (.string e.key) ∧ w'.cell? ⟨b, 1, none⟩ = some (.int .i64 e.no)) (W.alloc (.cells #[.string e.key, .int .i64 e.no] 65)) := ⟨hx5.cell I0.1, hx5.cell I0.2.1, hx5.cell I0.2.2⟩
    replace e1 := (hx5.block (Array.getElem?_eq_some_iff.1 e1).1).trans e1
    replace e2 := hx5.own e2
    replace e3 := hx5.own e3
    replace hx4 := hid (hx4.out.trans hx5)
    clear hx5
    generalize W.heap.size = va at *
    generalize W.alloc (.cells #[.string e.key, .int .i64 e.no] 65) = W1 at *
    refine hK _ _ ⟨fun _ => I1, ?_⟩
    clear hK K
    try simp only [Act.put, lyA, lyB, lyC, lyD, lyE, lyF]
    refine J_one 8 rfl (by kernel_rfl) (fun K hK => ?_)
    go_simp
    refine (ins_N l.length i _ (tents l) [.string e.key, .int .i64 e.no] va W1 hil (by omega) e2 (tents_one _) hva.out rfl (tents_one [e]) hne.out).mono ?_
    rintro e' W2 ⟨v', rfl, ho', hrw⟩
    have hpl : Hid ((Value.slice A l.length c).ownBlock ≠ some p) := fun e => by have := hn p; rw [e4 p, one_self, ob_some e] at this; omega
    have bp := (hrw.1.block p (Array.getElem?_eq_some_iff.1 e1).1 (fun e0 => hpl.out e0.symm)).trans e1
    have hp2 := node_c0 bp
    have hf2 := Lib.frozen_of_heap bp 0
    have hfin : ∀ u, u = v' → Turned w (W2.setCell ⟨p, 0, none⟩ u) 0 p f (.nd (insT l e) []) := fun u eu => by
      rw [eu]
      refine leaf_put hx4.out e1 e2 e3 e4 hn hrw ?_
      rw [len_ins, ← hii.out]
      exact ho'
    replace hfin := hid hfin
    obtain ⟨Av, cv, rfl, -⟩ := own_form ho'
    have lb : b < W2.heap.size := by have := World.block_lt_of_cell? _ _ I1.2.1; have := hrw.1.size; dsimp only at *; omega
    have I2 : (fun w' : World => w'.cell? ⟨p, 0, none⟩ = some (.slice A l.length c) ∧ w'.cell? ⟨b, 0, none⟩ = some (.string e.key) ∧ w'.cell? ⟨b, 1, none⟩ = some (.int .i64 e.no)) W2 := ⟨hp2, (hb.out W1 W2 I1.2.1 I1.2.2 _ hrw).1, (hb.out W1 W2 I1.2.1 I1.2.2 _ hrw).2⟩
    clear ho' hrw hva hne e1 e2 e3
    refine hK _ _ ⟨fun _ => I2, ?_⟩
    clear hK K
    try simp only [Act.put, lyA, lyB, lyC, lyD, lyE, lyF]
    refine J_one 9 rfl (by kernel_rfl) (fun K hK => ?_)
    go_simp
    refine hK _ _ ⟨fun _ => I2, ?_⟩
    clear hK K
    try simp only [Act.put, lyD, lyE, lyF]
    refine J_one 10 rfl (by kernel_rfl) (fun K hK => ?_)
    go_simp
    refine hK _ _ ⟨fun _ => I2, ?_⟩
    clear hK K
    try simp only [Act.put, lyD, lyE, lyF]
    refine J_one 11 rfl (by kernel_rfl) (fun K hK => ?_)
    go_simp
    refine hK _ _ ⟨fun h => absurd rfl h, ?_⟩
    clear hK K
    refine J_done (by kernel_rfl) (OnlyOn.normal ?_)
    replace hfin := hid (hfin.out _ rfl)
    clear hp2 hf2 I2
    go_wp2_with fail
    refine bodyPost_ret (results_none rfl _ _ _) rfl ?_
    exact ⟨rfl, hfin.out⟩
  | succ h ih =>
    intro p T f w e hT hn hs hS hne0 hl
    have hSl : Srt T.l := by obtain ⟨l, ks⟩ := T; exact (node_lt hs hS e).1
    obtain ⟨l, ks⟩ := T
    replace hSl : Srt l := hSl
    obtain ⟨lv, kv, ps, g, e1, e2, e3, e5, e4⟩ := hT.opn
    obtain ⟨A, c, rfl, hr⟩ := own_rd e2
    have hml := Rd.max hr
    have hl4 : l.length ≤ 4 := hl
    have ha := heap_alloc_new w (.cells #[.string e.key, .int .i64 e.no] 65)
    have hx1 := hid ((Ext.refl w).alloc_right (.cells #[.string e.key, .int .i64 e.no] 65))
    have z0 : (w.alloc (.cells #[.string e.key, .int .i64 e.no] 65)).cell? ⟨w.heap.size, 0, none⟩ = some (.string e.key) := by rw [Lib.cell_of_heap ha]; rfl
    have z1 : (w.alloc (.cells #[.string e.key, .int .i64 e.no] 65)).cell? ⟨w.heap.size, 1, none⟩ = some (.int .i64 e.no) := by rw [Lib.cell_of_heap ha]; rfl
    have zp := hx1.out.cell (node_c0 e1)
    have lp := World.block_lt_of_cell? _ _ zp
    dsimp only at lp
    have hP := hid (place_any p A l.length c l e _ zp (hr.ext hx1.out) hSl (by omega))
    have hil := (rank_cut hSl e).1
    have hbs : Hid (∀ a, f a ≠ 0 → a < w.heap.size) := fun a h0 => Nat.lt_of_not_le (fun h1 => h0 (hT.bound a h1))
    obtain ⟨-, K, hKi, hfl, hA, hB, hSK⟩ := node_lt hs hS e
    obtain ⟨q, g0, g1, g2, hpi, hKq, k0, k2, hg⟩ := Ks.cut (show Ks (TN w h) ps ks g from e5) hKi
    obtain ⟨s1, s2, s3⟩ := hs.2 K (List.mem_of_getElem? hKi)
    have hnK : e ∉ flat h K := fun hm => hne0 (by rw [hfl]; exact List.mem_append_right _ (List.mem_append_left _ hm))
    obtain ⟨o1, o2, o3, o4⟩ := putT_ok h K e s3 hSK hnK
    have hgK : ks.getD (rankT l e) default = K := by simp [List.getD, hKi]
    have hil2 : rankT l e < ps.length := (List.getElem?_eq_some_iff.1 hpi).1
    have hkl : ks.length = l.length + 1 := hs.1
    have hpsl : ps.length = ks.length := Ks.len (show Ks (TN w h) ps ks g from e5)
    have hn1 : ∀ a, g1 a ≤ 1 := fun a => by have := hn a; rw [e4 a, hg a] at this; omega
    have ih' := hid (fun W (hx : Ext w W) => ih q K g1 W e (hKq.ext hx) hn1 s3 hSK hnK (by omega))
    replace hkl := hid hkl
    replace hpsl := hid hpsl
    obtain ⟨kA, kc, rfl, hkr⟩ := own_rd e3
    have hkm := Rd.max hkr
    obtain ⟨ad, rfl, -⟩ := hkr.2.2.2 (by omega)
    obtain ⟨R, hR⟩ : ∃ R, R = putT (h + 1) (.nd l ks) e := ⟨_, rfl⟩
    rw [← hR]
    unfold putT at hR
    rw [hgK] at hR
    generalize putT h K e = K' at *
    obtain ⟨lk, kk⟩ := K'
    replace o3 : K.l.length ≤ lk.length := o3
    replace o4 : lk.length ≤ K.l.length + 1 := o4
    replace hR := hid (show R = if 4 < lk.length then splitT l ks (rankT l e) (.nd lk kk) else .nd l (ks.set (rankT l e) (.nd lk kk)) from hR)
    have hfb : Hid (∀ a, w.heap.size ≤ a → f a = 0) := hT.bound
    replace hn := hid hn
    replace e4 := hid e4
    replace hg := hid hg
    replace hpi := hid hpi
    replace hKi := hid hKi
    replace o1 := hid o1
    have hk6 : Hid (kk.length = 0 ∨ (kk.length = lk.length + 1)) := by
      cases h with
      | zero => left; have : kk = [] := o1.out; rw [this]; rfl
      | succ h => right; exact o1.out.1
    clear hKq e5 hfl hA hB hSK hs hS hne0 hl hT hgK hnK hSl o2 hkr s1 s3 hn1
    clear ha zp hr
    go_enter Tryz.func48, Tryz.ntmps48
    go_upto_region 1 with fail
    obtain ⟨b, hb0⟩ : ∃ b, b = w.heap.size := ⟨_, rfl⟩
    rw [← hb0] at z0 z1
    simp only [← hb0]
    replace hb0 := hid hb0
    generalize w.alloc (.cells #[.string e.key, .int .i64 e.no] 65) = w1 at *
    generalize rankT l e = i at *
    generalize memT l e = mm at *
    go_wp2_with fail
    refine hP.out.mono ?_
    rintro e' w2 ⟨rfl, hx2⟩
    replace z0 := hx2.cell z0
    replace z1 := hx2.cell z1
    replace hx1 := hid (hx1.out.trans hx2)
    clear hx2 hP
    replace e1 := (hx1.out.block (Array.getElem?_eq_some_iff.1 e1).1).trans e1
    replace e2 := hx1.out.own e2
    replace e3 := hx1.out.own e3
    have lp2 := (Array.getElem?_eq_some_iff.1 e1).1
    replace k0 := Ks.frame (fun p T g h1 (h2 : ∀ a, 0 < g a → (fun _ => 0) a = 0) => TN.ext h1 hx1.out) k0 (fun _ _ => rfl)
    replace k2 := Ks.frame (fun p T g h1 (h2 : ∀ a, 0 < g a → (fun _ => 0) a = 0) => TN.ext h1 hx1.out) k2 (fun _ _ => rfl)
    have zk := node_c1 e1
    have zq := rd_ptr (Rd.of_own e3) hpi.out
    have hn0 : ((ps.length : Int) == 0) = false := by rw [beq_eq_false_iff_ne]; omega
    have hki : (i : Int) < (ps.length : Int) := by omega
    go_upto_region 4 with fail
    have I0 : (fun w' : World => w'.cell? ⟨p, 1, none⟩ = some (.slice (some ad) ps.length kc) ∧ w'.cell? (ad.add i) = some (.pointer (some ⟨q, 0, none⟩)) ∧ w'.cell? ⟨b, 0, none⟩ = some (.string e.key) ∧ w'.cell? ⟨b, 1, none⟩ = some (.int .i64 e.no)) w2.drew := ⟨zk, zq, z0, z1⟩
    have hxW := hid (hx1.out.drew_right)
    refine region_J (fun w' : World => w'.cell? ⟨p, 1, none⟩ = some (.slice (some ad) ps.length kc) ∧ w'.cell? (ad.add i) = some (.pointer (some ⟨q, 0, none⟩)) ∧ w'.cell? ⟨b, 0, none⟩ = some (.string e.key) ∧ w'.cell? ⟨b, 1, none⟩ = some (.int .i64 e.no)) 9 (by kernel_rfl) ?_
    replace e1 : w2.drew.heap[p]? = _ := e1
    replace e2 := (Ext.refl w2).drew_right.own e2
    replace e3 := (Ext.refl w2).drew_right.own e3
    replace k0 := Ks.frame (fun p T g h1 (h2 : ∀ a, 0 < g a → (fun _ => 0) a = 0) => TN.ext h1 (Ext.refl w2).drew_right) k0 (fun _ _ => rfl)
    replace k2 := Ks.frame (fun p T g h1 (h2 : ∀ a, 0 < g a → (fun _ => 0) a = 0) => TN.ext h1 (Ext.refl w2).drew_right) k2 (fun _ _ => rfl)
    clear z0 z1 zk zq hx1
    generalize w2.drew = W at *
    refine JO 0 (v := ?vd0) I0 ?yd0 ?rd0
    case yd0 => (intro w h; obtain ⟨_, _, _, _⟩ := h; go_simp; with_reducible rfl)
    simp only [Act.put, lyA, lyB, lyC, lyD, lyE, lyF]
    refine JO 1 (v := ?vd1) I0 ?yd1 ?rd1
    case yd1 => (intro w h; obtain ⟨_, _, _, _⟩ := h; go_simp; with_reducible rfl)
    simp only [Act.put, lyA, lyB, lyC, lyD, lyE, lyF]
    refine JO 2 (v := ?vd2) I0 ?yd2 ?rd2
    case yd2 => (intro w h; obtain ⟨_, _, _, _⟩ := h; go_simp; with_reducible rfl)
    simp only [Act.put, lyA, lyB, lyC, lyD, lyE, lyF]
    refine JO 3 (v := ?vd3) I0 ?yd3 ?rd3
    case yd3 => (intro w h; obtain ⟨_, _, _, _⟩ := h; go_simp; with_reducible rfl)
    simp only [Act.put, lyA, lyB, lyC, lyD, lyE, lyF]
    refine JO 4 (v := ?vd4) I0 ?yd4 ?rd4
    case yd4 => (intro w h; obtain ⟨_, _, _, _⟩ := h; go_simp; with_reducible rfl)
    simp only [Act.put, lyA, lyB, lyC, lyD, lyE, lyF]
    refine JO 5 (v := ?vd5) I0 ?yd5 ?rd5
    case yd5 => (intro w h; obtain ⟨_, _, _, _⟩ := h; go_simp; with_reducible rfl)
    simp only [Act.put, lyA, lyB, lyC, lyD, lyE, lyF]
    refine JO 6 (v := ?vd6) I0 ?yd6 ?rd6
    case yd6 => (intro w h; obtain ⟨_, _, _, _⟩ := h; go_simp; with_reducible rfl)
    simp only [Act.put, lyA, lyB, lyC, lyD, lyE, lyF]
    refine JO 7 (v := ?vd7) I0 ?yd7 ?rd7
    case yd7 => (intro w h; obtain ⟨_, _, _, _⟩ := h; go_simp; with_reducible rfl)
    simp only [Act.put, lyA, lyB, lyC, lyD, lyE, lyF]
    refine J_one 8 rfl (by kernel_rfl) (fun K hK => ?_)
    go_simp
    refine (ih'.out W hxW.out).mono ?_
    rintro e' w5 ⟨rfl, ht⟩
    obtain ⟨g1', t1, t2, t3, t4, t5, t6, t7, t8, t9⟩ := kid_turned (f := f) e1 e2 e3 hpi.out hKi.out k0 k2 (fun a => by rw [e4.out a, hg.out a]) hn.out (fun a ha => hfb.out a (Nat.le_trans hxW.out.size ha)) ht
    have hbc : ∀ j x, W.cell? ⟨b, j, none⟩ = some x → w5.cell? ⟨b, j, none⟩ = some x := fun j x hx => by
      rw [World.cell?_of_block (t9.2.2.2.2 b (World.block_lt_of_cell? _ _ hx) (hfb.out b (by have := hb0.out; omega)))]
      exact hx
    have I2 : (fun w' : World => w'.cell? ⟨p, 1, none⟩ = some (.slice (some ad) ps.length kc) ∧ w'.cell? (ad.add i) = some (.pointer (some ⟨q, 0, none⟩)) ∧ w'.cell? ⟨b, 0, none⟩ = some (.string e.key) ∧ w'.cell? ⟨b, 1, none⟩ = some (.int .i64 e.no)) w5 := ⟨node_c1 t2, rd_ptr (Rd.of_own t4) hpi.out, hbc 0 _ I0.2.2.1, hbc 1 _ I0.2.2.2⟩
    replace t1 := hid t1
    replace t2 := hid t2
    replace t3 := hid t3
    replace t4 := hid t4
    replace t5 := hid t5
    replace t6 := hid t6
    replace t7 := hid t7
    replace t8 := hid t8
    replace t9 := hid t9
    clear ht e1 e2 e3 k0 k2 hbc ih'
    refine hK _ _ ⟨fun _ => I2, ?_⟩
    clear hK K
    try simp only [Act.put, lyA, lyB, lyC, lyD, lyE, lyF]
    refine J_done (by kernel_rfl) (OnlyOn.normal ?_)
    obtain ⟨lq, kq, pk, gk, u1, u2, u3, u5, u4⟩ := t1.out.opn
    obtain ⟨Aq, cq, rfl, hrq⟩ := own_rd u2
    have hmq := Rd.max hrq
    have zk := I2.1
    have zq := I2.2.1
    have zq0 := node_c0 u1
    have lp5 := (Array.getElem?_eq_some_iff.1 t2.out).1
    have lq5 := (Array.getElem?_eq_some_iff.1 u1).1
    have hpl6 := hid u5.len
    replace u1 := hid u1
    replace u2 := hid u2
    replace u3 := hid u3
    replace u4 := hid u4
    replace u5 := hid u5
    clear I2 I0 hrq
    by_cases h5 : 4 < lk.length
    · have d5 : (4 : Int) < (lk.length : Int) := by omega
      have hl5 : Hid (lk.length = 5) := by unfold Hid; omega
      have hRs : Hid (R = splitT l ks i (.nd lk kk)) := hR.out.trans (if_pos h5)
      have hle5 : Hid (∀ a, one1 p a + ob (.slice A l.length c) a + ob (.slice (some ad) ps.length kc) a + (g0 a + (one1 q a + ob (.slice Aq lk.length cq) a + ob kq a + gk a) + g2 a) ≤ 1) := fun a => by have := t7.out a; rw [u4.out a] at this; exact this
      have hSp := hid (split_any (fun a => one1 p a + ob (.slice A l.length c) a + ob (.slice (some ad) ps.length kc) a + one1 q a + ob (.slice Aq lk.length cq) a + ob kq a) p q i l lk ps pk _ _ _ _ w5 t2.out u1.out t3.out t4.out (by have := u2.out; rw [hl5.out] at this ⊢; exact this) u3.out hpi.out hil (by omega) (by have := hkl.out; have := hpsl.out; omega) hl5.out (by have := hpl6.out; have := hk6.out; have := hl5.out; omega) (fun a => by have := hle5.out a; omega) (fun _ => rfl))
      go_wp2_with fail
      refine hSp.out.mono ?_
      rintro e' w6 ⟨rfl, r, lv', kv', lq', kq', lr, kr, tri⟩
      have hfin : Hid (Turned w w6 (h + 1) p f R) := by
        rw [hRs.out]
        refine Turned.left (split_done (w := W) (by omega) hl5.out t9.out hpi.out (fun a ha => ?_) hle5.out t5.out t6.out u5.out (fun _ => rfl) tri hil) hxW.out
        have := t8.out a ha
        rw [u4.out a] at this
        exact this
      clear tri hSp
      go_wp2_with fail
      go_end0
      exact ⟨rfl, hfin.out⟩
    · have d5 : ¬ (4 : Int) < (lk.length : Int) := by omega
      have hfin : Hid (Turned w w5 (h + 1) p f R) := by
        rw [hR.out, if_neg h5]
        refine Turned.left ⟨_, TN.shut t2.out t3.out t4.out (show Kd w5 (h + 1) ps (ks.set i (.nd lk kk)) (fun a => g0 a + g1' a + g2 a) from ?_) (fun _ => rfl), t7.out, t8.out, t9.out⟩ hxW.out
        have hks := set_cut (l := ks) (i := i) (by have := hpsl.out; omega) (BT.nd lk kk)
        have hps : ps = ps.take i ++ q :: ps.drop (i + 1) := by
          have := list_cut (l := ps) (i := i) (by omega)
          rw [(List.getElem?_eq_some_iff.1 hpi.out).2] at this
          exact this
        rw [hks]
        have hm := Ks.mid t5.out t1.out t6.out
        rw [← hps] at hm
        exact hm
      go_wp2_with fail
      go_end0
      exact ⟨rfl, hfin.out⟩
open Go.RowKit Go.Shelf
theorem own_cut {w : World} {b n m sz c : Nat} {A : Option Addr} {e : TypeId} {xs : List Value} (h : w.ownsRow b e sz (.slice A n c) n xs) (hm : m ≤ n) : w.ownsRow b e sz (.slice A m c) m (xs.take (m * sz)) := by
  have hl := h.1
  have hle : m * sz ≤ n * sz := Nat.mul_le_mul_right _ hm
  refine ⟨by rw [List.length_take, hl]; omega, ?_⟩
  rcases h.2 with ⟨hv, h0⟩ | ⟨g, cap, cur, hv, e2, e3, e4, e5, e6, e7⟩
  · injection hv with h1 _ h3
    refine .inl ⟨?_, by omega⟩
    rw [h1, h3, show m = 0 by omega]
  · injection hv with h1 _ h3
    refine .inr ⟨g, cap, cur, by rw [h1, h3], e2, e3, by omega, e5, e6, ?_⟩
    rw [← e7, List.take_take, Nat.min_eq_left hle]
theorem tents_set (x : Te) : ∀ (l : List Te) (k : Nat), k < l.length → ((tents l).set (k * 2) (.string x.key)).set (k * 2 + 1) (.int .i64 x.no) = tents (l.set k x)
  | [], k, h => by simp at h
  | y :: l, 0, _ => by simp [tents, tcells]
  | y :: l, k + 1, h => by
    have ih := tents_set x l k (by simpa using h)
    rw [show (k + 1) * 2 = k * 2 + 1 + 1 by omega]
    simp [tents, tcells, ih]
theorem own_turn {w : World} {g n c k : Nat} {l : List Te} {x : Te} (h : w.ownsRow 0 65 2 (.slice (some ⟨g, 0, none⟩) n c) n (tents l)) (hk : k < l.length) :
    ((w.setCell ⟨g, k * 2, none⟩ (.string x.key)).setCell ⟨g, k * 2 + 1, none⟩ (.int .i64 x.no)).ownsRow 0 65 2 (.slice (some ⟨g, 0, none⟩) n c) n (tents (l.set k x)) := by
  rw [← tents_set x l k hk]
  exact own_setK (own_setK h)
theorem turn_rw (w : World) (g n c i j : Nat) (u v : Value) : Rw (.slice (some ⟨g, 0, none⟩) n c) (.slice (some ⟨g, 0, none⟩) n c) w ((w.setCell ⟨g, i, none⟩ u).setCell ⟨g, j, none⟩ v) :=
  ⟨⟨rfl, rfl, rfl, by simp [World.setCell], fun k _ hk => by
    have hne : g ≠ k := fun e => hk (by rw [e]; rfl)
    simp [World.setCell, Array.getElem?_modify, hne]⟩, .inl rfl⟩
theorem app_rw {P : Program} (w : World) (t ty e : TypeId) (i : TypeInfo) (z : Value) (size bytes : Nat) (ht : P.underlying t = some (.slice e)) (hi : P.info? e = some i) (hz : i.zero = some z)
    (hsize : i.size = size) (hby : i.bytes = bytes) (hzs : z.cells.size = size) (hsz : 0 < size) (v : Value) (n : Nat) (xs : List Value) (hown : w.ownsRow 0 e size v n xs)
    (A : Option Addr) (m c : Nat) (es : List Value) (hr : Rd w size A m c es) (h1 : ∀ u ∈ es, u.oneCell' = true) (h63 : n + m ≤ maxLen) (hbytes : (n + m) * bytes ≤ 140737488355328) :
    ∃ v' w', (Builtin.append_ #[t, t] ty #[v, .slice A m c]).run P w = .ok v' w' ∧ w'.ownsRow 0 e size v' (n + m) (xs ++ es) ∧ Rw v v' w w' := by
  rcases A with _ | ad
  · have hm : m = 0 := by
      rcases Nat.eq_zero_or_pos m with h0 | h0
      · exact h0
      · obtain ⟨ad, h, _⟩ := hr.2.2.2 h0
        cases h
    subst hm
    have hn : es = [] := List.eq_nil_of_length_eq_zero (by simpa using hr.1)
    subst hn
    exact ⟨v, w, run_append_nilsrc (P := P) w 0 t ty e i size ht hi v n xs hown c, by simpa using hown, World.grownBy.refl w _, .inl rfl⟩
  · have hcells : ∀ j u, es[j]? = some u → w.cell? (ad.add j) = some u := fun j u hu => by
      rcases Nat.eq_zero_or_pos m with h0 | h0
      · subst h0
        have hn : es = [] := List.eq_nil_of_length_eq_zero (by simpa using hr.1)
        subst hn
        simp at hu
      · obtain ⟨ad', e', hc⟩ := hr.2.2.2 h0
        injection e' with e'
        subst e'
        exact hc j u hu
    obtain ⟨v', w', hr', h2, h3, _, h5⟩ := run_append_own_at (P := P) w 0 t ty e i z size bytes ht hi hz hsize hby hzs hsz v n xs hown ad m c es hr.1 hcells h1 h63 hbytes (Nat.zero_le _)
    refine ⟨v', w', hr', h2, h3, ?_⟩
    rcases h5 with h5 | h5
    · exact .inl h5
    · exact .inr (fun k hk => by rw [h5] at hk; injection hk with hk; omega)
theorem appN (w : World) (ty : TypeId) (v : Value) (n : Nat) (xs : List Value) (hown : w.ownsRow 0 65 2 v n xs) (A : Option Addr) (m c : Nat) (es : List Value) (hr : Rd w 2 A m c es) (h1 : ∀ u ∈ es, u.oneCell' = true) (hn : n + m ≤ 1000000) :
    ∃ v' w', (Builtin.append_ #[45, 45] ty #[v, .slice A m c]).run Tryz.prog w = .ok v' w' ∧ w'.ownsRow 0 65 2 v' (n + m) (xs ++ es) ∧ Rw v v' w w' := by
  obtain ⟨i0, hi0, hz0, hz1, hz2⟩ := info_parts infoN
  exact app_rw w _ ty _ i0 _ 2 24 Tryz.underlying45 hi0 hz0 hz1 hz2 rfl (by decide) v n xs hown A m c es hr h1 (by unfold maxLen; omega) (by omega)
theorem appK (w : World) (ty : TypeId) (v : Value) (n : Nat) (xs : List Value) (hown : w.ownsRow 0 44 1 v n xs) (A : Option Addr) (m c : Nat) (es : List Value) (hr : Rd w 1 A m c es) (h1 : ∀ u ∈ es, u.oneCell' = true) (hn : n + m ≤ 1000000) :
    ∃ v' w', (Builtin.append_ #[46, 46] ty #[v, .slice A m c]).run Tryz.prog w = .ok v' w' ∧ w'.ownsRow 0 44 1 v' (n + m) (xs ++ es) ∧ Rw v v' w w' := by
  obtain ⟨i0, hi0, hz0, hz1, hz2⟩ := info_parts infoK
  exact app_rw w _ ty _ i0 _ 1 8 Tryz.underlying46 hi0 hz0 hz1 hz2 rfl (by decide) v n xs hown A m c es hr h1 (by unfold maxLen; omega) (by omega)
theorem fr_grow {f : Nat → Nat} {w W W' : World} {row : Option Nat} (h : FR f w W) (hg : W.grownBy W' row) (hrow : ∀ k, row = some k → k < w.heap.size → f k ≠ 0) : FR f w W' := by
  obtain ⟨a1, a2, a3, a4, a5⟩ := h
  refine ⟨a1.trans hg.os.symm, a2.trans hg.tape.symm, a3.trans hg.output.symm, by have := hg.size; omega, fun k hk h0 => ?_⟩
  rw [hg.block k (by omega) (fun e => hrow k e.symm hk h0)]
  exact a5 k hk h0
section
variable {f : Nat → Nat} {w W W' : World} {p q r : Nat} {lv kv lq kq lr kr v' : Value} {nl nk ml mk tl tk n' : Nat} {xl xk yl yk zl zk xs' : List Value}
theorem Tri.row0 (h : Tri f w W p q r lv kv lq kq lr kr nl nk ml mk tl tk xl xk yl yk zl zk) (hg : W.grownBy W' lv.ownBlock) (ho : W'.ownsRow 0 65 2 lv n' xs') :
    Tri f w W' p q r lv kv lq kq lr kr n' nk ml mk tl tk xs' xk yl yk zl zk := by
  have bl : ∀ a o, W.heap[a]? = some o → ob lv a = 0 → W'.heap[a]? = some o := fun a o h1 h0 => (hg.block a (Array.getElem?_eq_some_iff.1 h1).1 (fun e => ob_zero h0 e.symm)).trans h1
  have on : ∀ {b s n : Nat} {t : TypeId} {v : Value} {xs : List Value}, W.ownsRow b t s v n xs → (∀ a, ob v a + ob lv a ≤ 1) → W'.ownsRow b t s v n xs := fun h1 h0 => own_ne h1 hg (fun k e e2 => by have := h0 k; rw [ob_some e, ob_some e2] at this; omega)
  refine ⟨bl p _ h.hp (by have := h.nd p; rw [one_self] at this; omega), bl q _ h.hq (by have := h.nd q; rw [one_self] at this; omega), bl r _ h.hr (by have := h.nd r; rw [one_self] at this; omega), ho, on h.o2 (fun a => by have := h.nd a; omega), on h.o3 (fun a => by have := h.nd a; omega), on h.o4 (fun a => by have := h.nd a; omega), on h.o5 (fun a => by have := h.nd a; omega), on h.o6 (fun a => by have := h.nd a; omega), h.nd, ?_, h.le⟩
  exact fr_grow h.fr hg (fun k e hk h0 => by have := h.le k hk; rw [ob_some e] at this; omega)
theorem Tri.put0 (h : Tri f w W p q r lv kv lq kq lr kr nl nk ml mk tl tk xl xk yl yk zl zk) (ho : W.ownsRow 0 65 2 v' n' xs') (hv : v'.ownBlock = lv.ownBlock) : Tri f w (W.setCell ⟨p, 0, none⟩ v') p q r v' kv lq kq lr kr n' nk ml mk tl tk xs' xk yl yk zl zk :=
  h.rep0 (World.grownBy.refl W _) ho (.inl hv)
theorem Tri.put1 (h : Tri f w W p q r lv kv lq kq lr kr nl nk ml mk tl tk xl xk yl yk zl zk) (ho : W.ownsRow 0 44 1 v' n' xs') (hv : v'.ownBlock = kv.ownBlock) : Tri f w (W.setCell ⟨p, 1, none⟩ v') p q r lv v' lq kq lr kr nl n' ml mk tl tk xl xs' yl yk zl zk :=
  h.rep1 (World.grownBy.refl W _) ho (.inl hv)
end
theorem ptrs_take (l : List Nat) (k : Nat) : (ptrs l).take k = ptrs (l.take k) := by unfold ptrs; rw [List.map_take]
theorem ptrs_drop (l : List Nat) (k : Nat) : (ptrs l).drop k = ptrs (l.drop k) := by unfold ptrs; rw [List.map_drop]
theorem own_same {v : Value} {A : Option Addr} {n m c : Nat} (h : v = .slice A n c) : (Value.slice A m c).ownBlock = v.ownBlock := by rw [h]; cases A <;> rfl
theorem own_entry {W : World} {g c n k : Nat} {l : List Te} (h : W.ownsRow 0 65 2 (.slice (some ⟨g, 0, none⟩) n c) n (tents l)) (hk : k < l.length) : W.cell? ⟨g, k * 2, none⟩ = some (.string (tth l k).key) ∧ W.cell? ⟨g, k * 2 + 1, none⟩ = some (.int .i64 (tth l k).no) := by
  have hc := h.cells (g := g) rfl
  have e1 := hc (k * 2 + 0) _ (by rw [tents_at l k hk 0 (by decide)]; rfl)
  have e2 := hc (k * 2 + 1) _ (by rw [tents_at l k hk 1 (by decide)]; rfl)
  rw [lit_add] at e1 e2
  rw [tth_get hk]
  rw [Nat.zero_add, Nat.add_zero] at e1
  rw [Nat.zero_add] at e2
  exact ⟨e1, e2⟩
theorem own_ptr {W : World} {g c n k q : Nat} {l : List Nat} (h : W.ownsRow 0 44 1 (.slice (some ⟨g, 0, none⟩) n c) n (ptrs l)) (hk : l[k]? = some q) : W.cell? ⟨g, k, none⟩ = some (.pointer (some ⟨q, 0, none⟩)) := by
  have hc := h.cells (g := g) rfl
  have e1 := hc k _ (show (ptrs l)[k]? = some (.pointer (some ⟨q, 0, none⟩)) by unfold ptrs; rw [List.getElem?_map, hk]; rfl)
  rw [lit_add, Nat.zero_add] at e1
  exact e1
theorem own_lit {W : World} {b s n m c : Nat} {t : TypeId} {ad : Addr} {xs : List Value} (h : W.ownsRow b t s (.slice (some ad) m c) n xs) : ad = ⟨ad.block, 0, none⟩ := by
  rcases h.2 with ⟨hv, _⟩ | ⟨g, cap, cur, hv, _⟩
  · cases hv
  · injection hv with e1
    injection e1 with e1
    rw [e1]
theorem own_entryA {W : World} {ad : Addr} {c n k : Nat} {l : List Te} (h : W.ownsRow 0 65 2 (.slice (some ad) n c) n (tents l)) (hk : k < l.length) : W.cell? (ad.add (k * 2)) = some (.string (tth l k).key) ∧ W.cell? ⟨(ad.add (k * 2)).block, (ad.add (k * 2)).off + 1, none⟩ = some (.int .i64 (tth l k).no) := by
  have e := own_lit h
  rw [e] at h
  have := own_entry h hk
  rw [e, lit_add, Nat.zero_add]
  exact this
theorem own_ptrA {W : World} {ad : Addr} {c n k q : Nat} {l : List Nat} (h : W.ownsRow 0 44 1 (.slice (some ad) n c) n (ptrs l)) (hk : l[k]? = some q) : W.cell? (ad.add k) = some (.pointer (some ⟨q, 0, none⟩)) := by
  have e := own_lit h
  rw [e] at h
  have := own_ptr h hk
  rw [e, lit_add, Nat.zero_add]
  exact this
theorem own_freeA {W : World} {b s n m c : Nat} {t : TypeId} {ad : Addr} {xs : List Value} (h : W.ownsRow b t s (.slice (some ad) m c) n xs) (k : Nat) : W.frozen? (ad.add k) = false ∧ W.frozen? ⟨(ad.add k).block, (ad.add k).off + 1, none⟩ = false := by
  rcases h.2 with ⟨hv, _⟩ | ⟨g, cap, cur, hv, _, hg, _⟩
  · cases hv
  · injection hv with e1
    injection e1 with e1
    rw [e1, lit_add, Nat.zero_add]
    exact ⟨Lib.frozen_of_heap hg k, Lib.frozen_of_heap hg (k + 1)⟩
theorem own_turnA {w : World} {ad : Addr} {n c k : Nat} {l : List Te} {x : Te} (h : w.ownsRow 0 65 2 (.slice (some ad) n c) n (tents l)) (hk : k < l.length) :
    ((w.setCell (ad.add (k * 2)) (.string x.key)).setCell ⟨(ad.add (k * 2)).block, (ad.add (k * 2)).off + 1, none⟩ (.int .i64 x.no)).ownsRow 0 65 2 (.slice (some ad) n c) n (tents (l.set k x)) ∧
    w.grownBy ((w.setCell (ad.add (k * 2)) (.string x.key)).setCell ⟨(ad.add (k * 2)).block, (ad.add (k * 2)).off + 1, none⟩ (.int .i64 x.no)) (Value.slice (some ad) n c).ownBlock := by
  have e := own_lit h
  rw [e] at h
  have h1 := own_turn (x := x) h hk
  have h2 := turn_rw w ad.block n c (k * 2) (k * 2 + 1) (.string x.key) (.int .i64 x.no)
  rw [e, lit_add, Nat.zero_add]
  exact ⟨h1, h2.1⟩
theorem own_midA {W : World} {ad : Addr} {c n k : Nat} {l : List Te} (h : W.ownsRow 0 65 2 (.slice (some ad) n c) n (tents l)) (hk : k < l.length) (u : Value) :
    (W.setCell (ad.add (k * 2)) u).cell? ⟨(ad.add (k * 2)).block, (ad.add (k * 2)).off + 1, none⟩ = some (.int .i64 (tth l k).no) ∧ (W.setCell (ad.add (k * 2)) u).frozen? ⟨(ad.add (k * 2)).block, (ad.add (k * 2)).off + 1, none⟩ = false := by
  have e := own_lit h
  rw [e] at h
  have h1 := own_entry h hk
  have h2 := own_freeA (own_setK (o := k * 2) (u := u) h) (k * 2)
  rw [lit_add, Nat.zero_add] at h2
  rw [e, lit_add, Nat.zero_add]
  exact ⟨set_keep h1.2 (off_ne (i := k * 2) (j := k * 2 + 1) (by omega)), h2.2⟩
theorem rd_new {w : World} {k b : Nat} {cs : List Value} {t : TypeId} {fr : Nat × Nat} (h : w.heap[b]? = some (.cells cs.toArray t fr)) (hl : cs.length = 1 * k := by first | rfl | simp) : Rd w k (some ⟨b, 0, none⟩) 1 1 cs :=
  ⟨hl, Nat.le_refl _, by unfold maxLen; omega, fun _ => ⟨_, rfl, fun j v hv => by
    have := World.news_of_block h j v (by simpa using hv)
    exact this⟩⟩
theorem own_entry0 {W : World} {ad : Addr} {c n : Nat} {l : List Te} (h : W.ownsRow 0 65 2 (.slice (some ad) n c) n (tents l)) (hk : 0 < l.length) : W.cell? ad = some (.string (tth l 0).key) ∧ W.cell? ⟨ad.block, ad.off + 1, none⟩ = some (.int .i64 (tth l 0).no) := by
  have e := own_lit h
  rw [e] at h
  have := own_entry h hk
  rw [e]
  exact this
theorem own_ptr0 {W : World} {ad : Addr} {c n q : Nat} {l : List Nat} (h : W.ownsRow 0 44 1 (.slice (some ad) n c) n (ptrs l)) (hk : l[0]? = some q) : W.cell? ad = some (.pointer (some ⟨q, 0, none⟩)) := by
  have e := own_lit h
  rw [e] at h
  have := own_ptr h hk
  rw [e]
  exact this
end Go.Proofs.YtjjikkhhlpikbaaGreatDoor
