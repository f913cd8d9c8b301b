/-
  Binary search among entries; place; Nodes in memory; where an entry stands in a node; whether it is in a tree; slices.Clone; slices.Insert of one element; slices.Insert of one element: where there is no room, at the end, and all together.
-/
import Derived.Test.YtpijfiaecicpfaaGreatQ1
import Derived.Deep.RegionLaw
import Derived.Deep.Cut
import Derived.BigQuiet
set_option maxRecDepth 100000
set_option maxHeartbeats 40000000
set_option linter.unusedVariables false
set_option linter.unusedSimpArgs false
namespace Go.Proofs.YtpijfiaecicpfaaGreat
open Go.RowKit Go.Shelf
def tcells (x : Te) : List Value := [.string x.key, .int .i64 x.no]
def tents : List Te → List Value
  | [] => []
  | x :: l => tcells x ++ tents l
theorem tents_len : ∀ l : List Te, (tents l).length = l.length * 2
  | [] => rfl
  | x :: l => by rw [tents, List.length_append, tents_len l, List.length_cons]; simp [tcells]; omega
theorem tents_append : ∀ a b : List Te, tents (a ++ b) = tents a ++ tents b
  | [], b => rfl
  | x :: a, b => by rw [List.cons_append, tents, tents, tents_append a b, List.append_assoc]
theorem tents_at : ∀ (l : List Te) (k : Nat) (h : k < l.length) (j : Nat), j < 2 → (tents l)[k * 2 + j]? = (tcells l[k])[j]?
  | x :: l, 0, h, j, hj => by
    rw [tents, List.getElem?_append_left (by simp [tcells]; omega)]
    simp
  | x :: l, k + 1, h, j, hj => by
    have := tents_at l k (by simpa using h) j hj
    rw [tents, List.getElem?_append_right (by simp [tcells]; omega), List.getElem_cons_succ, ← this]
    congr 1
    simp [tcells]
    omega
theorem tents_one : ∀ (l : List Te), ∀ u ∈ tents l, u.oneCell' = true
  | [], u, h => by cases h
  | x :: l, u, h => by
    rcases List.mem_append.1 h with h | h
    · rcases List.mem_cons.1 h with rfl | h
      · rfl
      · rcases List.mem_cons.1 h with rfl | h
        · rfl
        · cases h
    · exact tents_one l u h
def tth (l : List Te) (k : Nat) : Te := l.getD k ⟨⟨#[]⟩, 0⟩
theorem tth_get {l : List Te} {k : Nat} (h : k < l.length) : tth l k = l[k] := by simp [tth, List.getD, h]
def RdN (w : World) (A : Option Addr) (n c : Nat) (l : List Te) : Prop := Rd w 2 A n c (tents l)
theorem RdN.len {w : World} {A : Option Addr} {n c : Nat} {l : List Te} (h : RdN w A n c l) : l.length = n := by have := h.1; rw [tents_len] at this; omega
theorem RdN.ext {w w' : World} {A : Option Addr} {n c : Nat} {l : List Te} (h : RdN w A n c l) (hb : Ext w w') : RdN w' A n c l := Rd.ext h hb
theorem RdN.at_ {w : World} {A : Option Addr} {n c : Nat} {l : List Te} (h : RdN w A n c l) {k : Nat} (hk : k < n) : ∃ ad, A = some ad ∧ w.cell? (ad.add (k * 2)) = some (.string (tth l k).key) ∧ w.cell? ⟨(ad.add (k * 2)).block, (ad.add (k * 2)).off + 1, none⟩ = some (.int .i64 (tth l k).no) := by
  obtain ⟨ad, hA, hc⟩ := h.2.2.2 (by omega)
  have hl : k < l.length := by rw [h.len]; exact hk
  rw [tth_get hl]
  refine ⟨ad, hA, ?_, ?_⟩
  · exact hc (k * 2 + 0) _ (by rw [tents_at l k hl 0 (by decide)]; rfl)
  · exact cell_fk (hc (k * 2 + 1) _ (by rw [tents_at l k hl 1 (by decide)]; rfl)) (by decide)
theorem rank_is {l : List Te} {e : Te} {k : Nat} (hk : k ≤ l.length) (h1 : ∀ t, t < k → cmpT (tth l t) e < 0) (h2 : ∀ t, k ≤ t → t < l.length → ¬ cmpT (tth l t) e < 0) : rankT l e = k := by
  unfold rankT
  conv => lhs; rw [← List.take_append_drop k l]
  rw [List.countP_append]
  have e1 : (l.take k).countP (fun x => decide (cmpT x e < 0)) = (l.take k).length := by
    rw [List.countP_eq_length]
    intro x hx
    obtain ⟨i, hi, rfl⟩ := List.getElem_of_mem hx
    rw [List.length_take] at hi
    rw [List.getElem_take]
    have := h1 i (by omega)
    rw [tth_get (by omega)] at this
    simpa using this
  have e2 : (l.drop k).countP (fun x => decide (cmpT x e < 0)) = 0 := by
    rw [List.countP_eq_zero]
    intro x hx
    obtain ⟨i, hi, rfl⟩ := List.getElem_of_mem hx
    rw [List.length_drop] at hi
    rw [List.getElem_drop]
    have := h2 (k + i) (by omega) (by omega)
    rw [tth_get (by omega)] at this
    simpa using this
  rw [e1, e2, List.length_take]
  omega
theorem srt_nth {l : List Te} (h : Srt l) {i j : Nat} (hij : i < j) (hj : j < l.length) : cmpT (tth l i) (tth l j) < 0 := by
  rw [tth_get (by omega), tth_get hj]
  exact List.pairwise_iff_getElem.1 h i j (by omega) hj hij
theorem mem_at {l : List Te} (h : Srt l) (e : Te) : memT l e = (decide (rankT l e < l.length) && (cmpT (tth l (rankT l e)) e == 0)) := by
  obtain ⟨r1, r2, r3⟩ := rank_cut h e
  by_cases hr : rankT l e < l.length
  · rw [decide_eq_true hr, Bool.true_and]
    have hd := List.drop_eq_getElem_cons hr
    have hl : l = l.take (rankT l e) ++ l[rankT l e] :: l.drop (rankT l e + 1) := list_cut hr
    conv => lhs; rw [hl]
    rw [memT_app, memT_lt r2, Bool.false_or, tth_get hr]
    unfold memT
    rw [List.any_cons]
    by_cases q : cmpT l[rankT l e] e = 0
    · rw [beq_iff_eq.2 q, Bool.true_or]
    · rw [beq_eq_false_iff_ne.2 q, Bool.false_or]
      have h4 := r3 l[rankT l e] (by rw [hd]; exact List.mem_cons_self)
      have h5 : cmpT e l[rankT l e] < 0 := by rw [cmpT_anti]; omega
      rw [hl] at h
      obtain ⟨_, s2, _⟩ := srt_app.1 h
      exact memT_gt (fun x hx => cmpT_trans h5 ((srt_cons.1 s2).1 x hx))
  · rw [decide_eq_false hr, Bool.false_and]
    have : l.take (rankT l e) = l := List.take_of_length_le (by omega)
    rw [this] at r2
    exact memT_lt r2
theorem bsearch_any (A : Option Addr) (n c : Nat) (l : List Te) (e : Te) (w : World) (hl : RdN w A n c l) (hS : Srt l) (hn : n ≤ 1000000) : Calls Tryz.prog 92 #[.slice A n c, .agg #[.string e.key, .int .i64 e.no], .func (.func 59) #[] #[]] w (Give (.tuple #[.int .i64 (rankT l e), .bool (memT l e)]) w) := by
  have hmx := Rd.max hl
  have hlen := hl.len
  have hma := hid (mem_at hS e)
  have ha := heap_alloc_new w (.cells #[.string e.key, .int .i64 e.no] 83)
  have hxa := hid ((Ext.refl w).alloc_right (.cells #[.string e.key, .int .i64 e.no] 83))
  have z0 : (w.alloc (.cells #[.string e.key, .int .i64 e.no] 83)).cell? ⟨w.heap.size, 0, none⟩ = some (.string e.key) := by rw [Lib.cell_of_heap ha]; rfl
  have z1 : (w.alloc (.cells #[.string e.key, .int .i64 e.no] 83)).cell? ⟨w.heap.size, 1, none⟩ = some (.int .i64 e.no) := by rw [Lib.cell_of_heap ha]; rfl
  have en : ∀ (a b : Value) (w : World), (callFunc 59 #[a, b]).run Tryz.prog w = .ok (.enter 59 #[a, b]) w := fun a b w => by kernel_rfl
  have hlo := hid (fun t k (h1 : t < k) (h2 : k < l.length) (h : cmpT (tth l k) e < 0) => cmpT_trans (srt_nth hS h1 h2) h)
  have hri := hid (fun k h0 h1 h2 => rank_is (l := l) (e := e) (k := k) h0 h1 h2)
  replace hl := hid (hl.ext hxa.out)
  clear ha hS
  go_enter Tryz.func92, Tryz.ntmps92
  go_upto_region 1 with fail
  generalize w.alloc (.cells #[.string e.key, .int .i64 e.no] 83) = w1 at *
  generalize w.heap.size = p at *
  go_wp2_with fail
  go_loopw [9, 10] (fun i j wr => ∃ lo hi : Nat, i = .int .i64 lo ∧ j = .int .i64 hi ∧ lo ≤ hi ∧ hi ≤ n ∧ Hid (∀ t, t < lo → cmpT (tth l t) e < 0) ∧ Hid (∀ t, hi ≤ t → t < l.length → ¬ cmpT (tth l t) e < 0) ∧ Hid (Ext w1 wr)) (fun i j _ => (intOf j).toNat - (intOf i).toNat)
  case atStart => exact ⟨0, n, rfl, rfl, by omega, by omega, fun t h => by omega, fun t h h2 => by omega, Ext.refl _⟩
  case round =>
    obtain ⟨lo, hi, rfl, rfl, hle, hhi, hA, hB, hx⟩ := hrel
    by_cases hlt : lo < hi
    · obtain ⟨md, hmd⟩ : ∃ md, md = (lo + hi) / 2 := ⟨_, rfl⟩
      have hm1 : lo ≤ md ∧ md < hi := by omega
      obtain ⟨ad, rfl, x0, x1⟩ := (hl.out.ext hx.out).at_ (k := md) (by omega)
      have y0 := hx.out.cell z0
      have y1 := hx.out.cell z1
      have hms : ((lo : Int) + (hi : Int)) / 2 = (md : Int) := by omega
      have hmn : (md : Int) < (n : Int) := by omega
      generalize hxx : tth l md = x at *
      replace hxx := hid hxx
      have I0 : (fun w' : World => w'.cell? (ad.add (md * 2)) = some (.string x.key) ∧ w'.cell? ⟨(ad.add (md * 2)).block, (ad.add (md * 2)).off + 1, none⟩ = some (.int .i64 x.no) ∧ w'.cell? ⟨p, 0, none⟩ = some (.string e.key) ∧ w'.cell? ⟨p, 1, none⟩ = some (.int .i64 e.no)) wr.drew := ⟨x0, x1, y0, y1⟩
      replace hmd := hid hmd
      have hloT : Hid (cmpT x e < 0 → ∀ t, t < md + 1 → cmpT (tth l t) e < 0) := fun h t ht => by
        by_cases htm : t = md
        · subst htm; rw [hxx.out]; exact h
        · exact hlo.out t md (by omega) (by omega) (by rw [hxx.out]; exact h)
      have hhiT : Hid (¬ cmpT x e < 0 → ∀ t, md ≤ t → t < l.length → ¬ cmpT (tth l t) e < 0) := fun h t h1 h2 hc => by
        by_cases htm : t = md
        · subst htm; rw [hxx.out] at hc; exact h hc
        · exact h (by rw [← hxx.out]; exact hlo.out md t (by omega) h2 hc)
      go_upto_region 5 with fail
      refine region_J (fun w' : World => w'.cell? (ad.add (md * 2)) = some (.string x.key) ∧ w'.cell? ⟨(ad.add (md * 2)).block, (ad.add (md * 2)).off + 1, none⟩ = some (.int .i64 x.no) ∧ w'.cell? ⟨p, 0, none⟩ = some (.string e.key) ∧ w'.cell? ⟨p, 1, none⟩ = some (.int .i64 e.no)) 8 (by kernel_rfl) ?_
      refine JO 0 (v := ?vc0) I0 ?yc0 ?rc0
      case yc0 => (intro w h; obtain ⟨_, _, _, _⟩ := h; go_simp; with_reducible rfl)
      simp only [Act.put, lyA, lyB, lyC, lyD, lyE, lyF]
      refine JO 1 (v := ?vc1) I0 ?yc1 ?rc1
      case yc1 => (intro w h; obtain ⟨_, _, _, _⟩ := h; go_simp; with_reducible rfl)
      simp only [Act.put, lyA, lyB, lyC, lyD, lyE, lyF]
      refine JO 2 (v := ?vc2) I0 ?yc2 ?rc2
      case yc2 => (intro w h; obtain ⟨_, _, _, _⟩ := h; go_simp; with_reducible rfl)
      simp only [Act.put, lyA, lyB, lyC, lyD, lyE, lyF]
      refine JO 3 (v := ?vc3) I0 ?yc3 ?rc3
      case yc3 => (intro w h; obtain ⟨_, _, _, _⟩ := h; go_simp; with_reducible rfl)
      simp only [Act.put, lyA, lyB, lyC, lyD, lyE, lyF]
      refine JO 4 (v := ?vc4) I0 ?yc4 ?rc4
      case yc4 => (intro w h; obtain ⟨_, _, _, _⟩ := h; go_simp; with_reducible rfl)
      simp only [Act.put, lyA, lyB, lyC, lyD, lyE, lyF]
      refine JO 5 (v := ?vc5) I0 ?yc5 ?rc5
      case yc5 => (intro w h; obtain ⟨_, _, _, _⟩ := h; go_simp; with_reducible rfl)
      simp only [Act.put, lyA, lyB, lyC, lyD, lyE, lyF]
      refine J_one 6 rfl (by kernel_rfl) (fun K hK => ?_)
      go_simp
      refine (compare_any x e _).mono ?_
      rintro e' w5 ⟨rfl, hx5⟩
      have I5 : (fun w' : World => w'.cell? (ad.add (md * 2)) = some (.string x.key) ∧ w'.cell? ⟨(ad.add (md * 2)).block, (ad.add (md * 2)).off + 1, none⟩ = some (.int .i64 x.no) ∧ w'.cell? ⟨p, 0, none⟩ = some (.string e.key) ∧ w'.cell? ⟨p, 1, none⟩ = some (.int .i64 e.no)) w5 := ⟨hx5.cell I0.1, hx5.cell I0.2.1, hx5.cell I0.2.2.1, hx5.cell I0.2.2.2⟩
      have hx6 := hid (hx.out.drew_right.trans hx5)
      clear hx5
      refine hK _ _ ⟨fun _ => I5, ?_⟩
      clear hK K
      try simp only [Act.put, lyA, lyB, lyC, lyD, lyE, lyF]
      refine J_one 7 rfl (by kernel_rfl) (fun K hK => ?_)
      go_simp
      refine hK _ _ ⟨fun _ => I5, ?_⟩
      clear hK K
      try simp only [Act.put, lyD, lyE, lyF]
      refine J_done (by kernel_rfl) (OnlyOn.normal ?_)
      generalize cmpT x e = z at *
      by_cases hz : z < 0
      · have hA2 := hid (hloT.out hz)
        have hB2 := hB
        clear hloT hhiT hA hB hxx I5 x0 x1 y0 y1 I0
        go_wp2_with fail
        go_roundw
        case rel => exact ⟨md + 1, hi, by go_num, rfl, by omega, by omega, hA2, hB2, hx6⟩
        case measure => simp [intOf]; omega
      · have hB2 := hid (hhiT.out hz)
        have hA2 := hA
        clear hloT hhiT hA hB hxx I5 x0 x1 y0 y1 I0
        go_wp2_with fail
        go_roundw
        case rel => exact ⟨lo, md, rfl, rfl, by omega, by omega, hA2, hB2, hx6⟩
        case measure => simp [intOf]; omega
    · obtain rfl : hi = lo := by omega
      have hr := hri.out hi (by omega) hA.out (fun t h1 h2 => by have h3 := hB.out t h1 h2; omega)
      have hnl : ¬ (hi : Int) < (hi : Int) := by omega
      rw [hr] at hma
      replace hr := hid hr
      clear hA hB hlo hri
      by_cases hin : hi < n
      · obtain ⟨ad, rfl, x0, x1⟩ := (hl.out.ext hx.out).at_ hin
        have y0 := hx.out.cell z0
        have y1 := hx.out.cell z1
        have hmn : (hi : Int) < (n : Int) := by omega
        have hd : decide (hi < l.length) = true := by simp; omega
        rw [hd, Bool.true_and] at hma
        clear hd
        generalize tth l hi = x at *
        have I0 : (fun w' : World => w'.cell? (ad.add (hi * 2)) = some (.string x.key) ∧ w'.cell? ⟨(ad.add (hi * 2)).block, (ad.add (hi * 2)).off + 1, none⟩ = some (.int .i64 x.no) ∧ w'.cell? ⟨p, 0, none⟩ = some (.string e.key) ∧ w'.cell? ⟨p, 1, none⟩ = some (.int .i64 e.no)) wr.drew := ⟨x0, x1, y0, y1⟩
        go_upto_region 8 with fail
        refine region_J (fun w' : World => w'.cell? (ad.add (hi * 2)) = some (.string x.key) ∧ w'.cell? ⟨(ad.add (hi * 2)).block, (ad.add (hi * 2)).off + 1, none⟩ = some (.int .i64 x.no) ∧ w'.cell? ⟨p, 0, none⟩ = some (.string e.key) ∧ w'.cell? ⟨p, 1, none⟩ = some (.int .i64 e.no)) 16 (by kernel_rfl) ?_
        refine JO 0 (v := ?vd0) I0 ?yd0 ?rd0
        case yd0 => (intro w h; obtain ⟨_, _, _, _⟩ := h; go_simp; with_reducible rfl)
        simp only [Act.put, lyA, lyB, lyC, lyD, lyE, lyF]
        refine JO 1 (v := ?vd1) I0 ?yd1 ?rd1
        case yd1 => (intro w h; obtain ⟨_, _, _, _⟩ := h; go_simp; with_reducible rfl)
        simp only [Act.put, lyA, lyB, lyC, lyD, lyE, lyF]
        refine JO 2 (v := ?vd2) I0 ?yd2 ?rd2
        case yd2 => (intro w h; obtain ⟨_, _, _, _⟩ := h; go_simp; with_reducible rfl)
        simp only [Act.put, lyA, lyB, lyC, lyD, lyE, lyF]
        refine J_one 3 rfl (by kernel_rfl) (fun K hK => ?_)
        go_simp
        refine hK _ _ ⟨fun _ => I0, ?_⟩
        clear hK K
        try simp only [Act.put, lyD, lyE, lyF]
        refine J_one 4 rfl (by kernel_rfl) (fun K hK => ?_)
        go_simp
        refine hK _ _ ⟨fun _ => I0, ?_⟩
        clear hK K
        try simp only [Act.put, lyD, lyE, lyF]
        refine JO 5 (v := ?vd5) I0 ?yd5 ?rd5
        case yd5 => (intro w h; obtain ⟨_, _, _, _⟩ := h; go_simp; with_reducible rfl)
        simp only [Act.put, lyA, lyB, lyC, lyD, lyE, lyF]
        refine JO 6 (v := ?vd6) I0 ?yd6 ?rd6
        case yd6 => (intro w h; obtain ⟨_, _, _, _⟩ := h; go_simp; with_reducible rfl)
        simp only [Act.put, lyA, lyB, lyC, lyD, lyE, lyF]
        refine JO 7 (v := ?vd7) I0 ?yd7 ?rd7
        case yd7 => (intro w h; obtain ⟨_, _, _, _⟩ := h; go_simp; with_reducible rfl)
        simp only [Act.put, lyA, lyB, lyC, lyD, lyE, lyF]
        refine JO 8 (v := ?vd8) I0 ?yd8 ?rd8
        case yd8 => (intro w h; obtain ⟨_, _, _, _⟩ := h; go_simp; with_reducible rfl)
        simp only [Act.put, lyA, lyB, lyC, lyD, lyE, lyF]
        refine JO 9 (v := ?vd9) I0 ?yd9 ?rd9
        case yd9 => (intro w h; obtain ⟨_, _, _, _⟩ := h; go_simp; with_reducible rfl)
        simp only [Act.put, lyA, lyB, lyC, lyD, lyE, lyF]
        refine JO 10 (v := ?vd10) I0 ?yd10 ?rd10
        case yd10 => (intro w h; obtain ⟨_, _, _, _⟩ := h; go_simp; with_reducible rfl)
        simp only [Act.put, lyA, lyB, lyC, lyD, lyE, lyF]
        refine J_one 11 rfl (by kernel_rfl) (fun K hK => ?_)
        go_simp
        refine (compare_any x e _).mono ?_
        rintro e' w5 ⟨rfl, hx5⟩
        have I5 : (fun w' : World => w'.cell? (ad.add (hi * 2)) = some (.string x.key) ∧ w'.cell? ⟨(ad.add (hi * 2)).block, (ad.add (hi * 2)).off + 1, none⟩ = some (.int .i64 x.no) ∧ w'.cell? ⟨p, 0, none⟩ = some (.string e.key) ∧ w'.cell? ⟨p, 1, none⟩ = some (.int .i64 e.no)) w5 := ⟨hx5.cell I0.1, hx5.cell I0.2.1, hx5.cell I0.2.2.1, hx5.cell I0.2.2.2⟩
        have hx6 := hid (hx.out.drew_right.trans hx5)
        clear hx5
        refine hK _ _ ⟨fun _ => I5, ?_⟩
        clear hK K
        try simp only [Act.put, lyA, lyB, lyC, lyD, lyE, lyF]
        refine JO 12 (v := ?ve12) I5 ?ye12 ?re12
        case ye12 => (intro w h; obtain ⟨_, _, _, _⟩ := h; go_simp; with_reducible rfl)
        simp only [Act.put, lyA, lyB, lyC, lyD, lyE, lyF]
        refine JO 13 (v := ?ve13) I5 ?ye13 ?re13
        case ye13 => (intro w h; obtain ⟨_, _, _, _⟩ := h; go_simp; with_reducible rfl)
        simp only [Act.put, lyA, lyB, lyC, lyD, lyE, lyF]
        refine JO 14 (v := ?ve14) I5 ?ye14 ?re14
        case ye14 => (intro w h; obtain ⟨_, _, _, _⟩ := h; go_simp; with_reducible rfl)
        simp only [Act.put, lyA, lyB, lyC, lyD, lyE, lyF]
        refine J_one 15 rfl (by kernel_rfl) (fun K hK => ?_)
        go_simp
        refine hK _ _ ⟨fun _ => I5, ?_⟩
        clear hK K
        try simp only [Act.put, lyD, lyE, lyF]
        refine J_done (by kernel_rfl) (OnlyOn.normal ?_)
        have hx7 := hid (hxa.out.trans hx6.out)
        generalize cmpT x e = z at *
        go_wp2
        go_ret2
        exact ⟨by rw [hr.out, hma.out]; rfl, hx7.out⟩
      · have hd : decide (hi < l.length) = false := by simp; omega
        rw [hd, Bool.false_and] at hma
        have hmn : ¬ (hi : Int) < (n : Int) := by omega
        clear hd
        go_upto_region 8 with fail
        go_quiet (fail)
        have hx7 := hid (hxa.out.trans (hx.out.drewN_right nq))
        go_wp2
        go_ret2
        exact ⟨by rw [hr.out, hma.out]; rfl, hx7.out⟩
open Go.RowKit Go.Shelf
def one1 (b a : Nat) : Nat := if a = b then 1 else 0
def ob (v : Value) (a : Nat) : Nat := if v.ownBlock = some a then 1 else 0
def ptrs (ps : List Nat) : List Value := ps.map (fun p => .pointer (some ⟨p, 0, none⟩))
theorem ptrs_len (ps : List Nat) : (ptrs ps).length = ps.length := by simp [ptrs]
theorem ptrs_append (a b : List Nat) : ptrs (a ++ b) = ptrs a ++ ptrs b := by simp [ptrs]
theorem ptrs_one (ps : List Nat) : ∀ u ∈ ptrs ps, u.oneCell' = true := by
  intro u h
  obtain ⟨p, _, rfl⟩ := List.mem_map.1 h
  rfl
def Ks (R : Nat → BT → (Nat → Nat) → Prop) : List Nat → List BT → (Nat → Nat) → Prop
  | [], [], f => ∀ a, f a = 0
  | p :: ps, T :: ks, f => ∃ f1 f2, R p T f1 ∧ Ks R ps ks f2 ∧ ∀ a, f a = f1 a + f2 a
  | _, _, _ => False
def TN (w : World) : Nat → Nat → BT → (Nat → Nat) → Prop
  | 0, p, .nd l ks, f => ks = [] ∧ ∃ lv kv, w.heap[p]? = some (.cells #[lv, kv] 55 (0, 0)) ∧ w.ownsRow 0 83 2 lv l.length (tents l) ∧ w.ownsRow 0 51 1 kv 0 (ptrs []) ∧ ∀ a, f a = one1 p a + ob lv a + ob kv a
  | h + 1, p, .nd l ks, f => ∃ lv kv ps g, w.heap[p]? = some (.cells #[lv, kv] 55 (0, 0)) ∧ w.ownsRow 0 83 2 lv l.length (tents l) ∧ w.ownsRow 0 51 1 kv ps.length (ptrs ps) ∧ Ks (TN w h) ps ks g ∧ ∀ a, f a = one1 p a + ob lv a + ob kv a + g a
def FR (f : Nat → Nat) (w w' : World) : Prop := w.os = w'.os ∧ w.tape = w'.tape ∧ w.output = w'.output ∧ w.heap.size ≤ w'.heap.size ∧ ∀ k, k < w.heap.size → f k = 0 → w'.heap[k]? = w.heap[k]?
theorem FR.of_ext {f : Nat → Nat} {w w' : World} (h : Ext w w') : FR f w w' := ⟨h.os.symm, h.tape.symm, h.output.symm, h.size, fun k hk _ => h.block hk⟩
theorem FR.trans {f f' : Nat → Nat} {w w' w2 : World} (h : FR f w w') (h2 : FR f' w' w2) (hs : ∀ k, k < w.heap.size → f k = 0 → f' k = 0) : FR f w w2 :=
  ⟨h.1.trans h2.1, h.2.1.trans h2.2.1, h.2.2.1.trans h2.2.2.1, Nat.le_trans h.2.2.2.1 h2.2.2.2.1, fun k hk h0 => (h2.2.2.2.2 k (Nat.lt_of_lt_of_le hk h.2.2.2.1) (hs k hk h0)).trans (h.2.2.2.2 k hk h0)⟩
theorem FR.mono {f f' : Nat → Nat} {w w' : World} (h : FR f w w') (hs : ∀ k, k < w.heap.size → f' k = 0 → f k = 0) : FR f' w w' := ⟨h.1, h.2.1, h.2.2.1, h.2.2.2.1, fun k hk h0 => h.2.2.2.2 k hk (hs k hk h0)⟩
theorem FR.own {f : Nat → Nat} {w w' : World} {b sz n : Nat} {t : TypeId} {v : Value} {xs : List Value} (h : FR f w w') (ho : w.ownsRow b t sz v n xs) (hv : ∀ k, v.ownBlock = some k → f k = 0) : w'.ownsRow b t sz v n xs := by
  refine ⟨ho.1, ?_⟩
  rcases ho.2 with h2 | ⟨g', cap, cur, rfl, e2, e3, e4⟩
  · exact .inl h2
  · exact .inr ⟨g', cap, cur, rfl, e2, (h.2.2.2.2 g' (Array.getElem?_eq_some_iff.1 e3).1 (hv g' rfl)).trans e3, e4⟩
theorem ob_some {v : Value} {k : Nat} (h : v.ownBlock = some k) : ob v k = 1 := if_pos h
theorem one_self (p : Nat) : one1 p p = 1 := if_pos rfl
theorem ob_zero {v : Value} {k : Nat} (h : ob v k = 0) : v.ownBlock ≠ some k := fun e => by rw [ob_some e] at h; cases h
theorem Ks.frame {R R' : Nat → BT → (Nat → Nat) → Prop} {f : Nat → Nat} (hR : ∀ p T g, R p T g → (∀ a, 0 < g a → f a = 0) → R' p T g) : ∀ {ps : List Nat} {ks : List BT} {g : Nat → Nat}, Ks R ps ks g → (∀ a, 0 < g a → f a = 0) → Ks R' ps ks g
  | [], [], g, h, _ => h
  | p :: ps, T :: ks, g, ⟨f1, f2, h1, h2, h3⟩, hg => ⟨f1, f2, hR _ _ _ h1 (fun a ha => hg a (by rw [h3 a]; omega)), Ks.frame hR h2 (fun a ha => hg a (by rw [h3 a]; omega)), h3⟩
  | [], _ :: _, g, h, _ => h.elim
  | _ :: _, [], g, h, _ => h.elim
theorem TN.frame {w w' : World} {f : Nat → Nat} (hF : FR f w w') : ∀ {h : Nat} {p : Nat} {T : BT} {g : Nat → Nat}, TN w h p T g → (∀ a, 0 < g a → f a = 0) → TN w' h p T g
  | 0, p, .nd l ks, g, ⟨hk, lv, kv, e1, e2, e3, e4⟩, hg => ⟨hk, lv, kv, (hF.2.2.2.2 p (Array.getElem?_eq_some_iff.1 e1).1 (hg p (by rw [e4 p, one_self]; omega))).trans e1,
      hF.own e2 (fun k e => hg k (by rw [e4 k, ob_some e]; omega)), hF.own e3 (fun k e => hg k (by rw [e4 k, ob_some e]; omega)), e4⟩
  | h + 1, p, .nd l ks, g, ⟨lv, kv, ps, g1, e1, e2, e3, e5, e4⟩, hg => ⟨lv, kv, ps, g1, (hF.2.2.2.2 p (Array.getElem?_eq_some_iff.1 e1).1 (hg p (by rw [e4 p, one_self]; omega))).trans e1,
      hF.own e2 (fun k e => hg k (by rw [e4 k, ob_some e]; omega)), hF.own e3 (fun k e => hg k (by rw [e4 k, ob_some e]; omega)), Ks.frame (fun p T g h1 h2 => TN.frame hF h1 h2) e5 (fun a ha => hg a (by rw [e4 a]; omega)), e4⟩
theorem TN.ext {w w' : World} {h p : Nat} {T : BT} {g : Nat → Nat} (h1 : TN w h p T g) (hx : Ext w w') : TN w' h p T g := h1.frame (f := fun _ => 0) (FR.of_ext hx) (fun _ _ => rfl)
theorem Ks.len {R : Nat → BT → (Nat → Nat) → Prop} : ∀ {ps : List Nat} {ks : List BT} {g : Nat → Nat}, Ks R ps ks g → ps.length = ks.length
  | [], [], _, _ => rfl
  | _ :: ps, _ :: ks, g, ⟨_, _, _, h, _⟩ => by simp [h.len]
  | [], _ :: _, _, h => h.elim
  | _ :: _, [], _, h => h.elim
theorem Ks.cut {R : Nat → BT → (Nat → Nat) → Prop} : ∀ {i : Nat} {ps : List Nat} {ks : List BT} {g : Nat → Nat} {K : BT}, Ks R ps ks g → ks[i]? = some K → ∃ q g0 g1 g2, ps[i]? = some q ∧ R q K g1 ∧ Ks R (ps.take i) (ks.take i) g0 ∧ Ks R (ps.drop (i + 1)) (ks.drop (i + 1)) g2 ∧ ∀ a, g a = g0 a + g1 a + g2 a
  | 0, p :: ps, T :: ks, g, K, ⟨f1, f2, h1, h2, h3⟩, hK => by
    obtain rfl := Option.some.inj hK
    exact ⟨p, fun _ => 0, f1, f2, rfl, h1, fun _ => rfl, h2, fun a => by show g a = 0 + f1 a + f2 a; rw [h3 a]; omega⟩
  | i + 1, p :: ps, T :: ks, g, K, ⟨f1, f2, h1, h2, h3⟩, hK => by
    obtain ⟨q, g0, g1, g2, e1, e2, e3, e4, e5⟩ := Ks.cut h2 (i := i) (K := K) hK
    exact ⟨q, fun a => f1 a + g0 a, g1, g2, e1, e2, ⟨f1, g0, h1, e3, fun _ => rfl⟩, e4, fun a => by show g a = (f1 a + g0 a) + g1 a + g2 a; rw [h3 a, e5 a]; omega⟩
  | _, [], [], _, _, _, hK => by cases hK
  | _, [], _ :: _, _, _, h, _ => h.elim
  | _, _ :: _, [], _, _, h, _ => h.elim
theorem Ks.app {R : Nat → BT → (Nat → Nat) → Prop} : ∀ {ps qs : List Nat} {ks ms : List BT} {f g : Nat → Nat}, Ks R ps ks f → Ks R qs ms g → Ks R (ps ++ qs) (ks ++ ms) (fun a => f a + g a)
  | [], qs, [], ms, f, g, h, h2 => by
    have : (fun a => f a + g a) = g := by funext a; rw [h a]; omega
    rw [this]
    exact h2
  | p :: ps, qs, T :: ks, ms, f, g, ⟨f1, f2, h1, h3, h4⟩, h2 => ⟨f1, _, h1, h3.app h2, fun a => by show f a + g a = f1 a + (f2 a + g a); rw [h4 a]; omega⟩
  | [], _, _ :: _, _, _, _, h, _ => h.elim
  | _ :: _, _, [], _, _, _, h, _ => h.elim
theorem Ks.same {R : Nat → BT → (Nat → Nat) → Prop} {ps : List Nat} {ks : List BT} {f g : Nat → Nat} (h : Ks R ps ks f) (e : ∀ a, g a = f a) : Ks R ps ks g := by
  have : g = f := funext e
  rw [this]
  exact h
theorem TN.cells {w : World} {h p : Nat} {l : List Te} {ks : List BT} {f : Nat → Nat} (hT : TN w h p (.nd l ks) f) : ∃ A c kA kn kc, w.cell? ⟨p, 0, none⟩ = some (.slice A l.length c) ∧ w.cell? ⟨p, 1, none⟩ = some (.slice kA kn kc) ∧ RdN w A l.length c l ∧ (h = 0 → kn = 0) := by
  cases h with
  | zero =>
    obtain ⟨hk, lv, kv, e1, e2, e3, e4⟩ := hT
    obtain ⟨A, c, rfl, hr⟩ := own_rd e2
    obtain ⟨kA, kc, rfl, _⟩ := own_rd e3
    exact ⟨A, c, kA, 0, kc, by rw [Lib.cell_of_heap e1]; rfl, by rw [Lib.cell_of_heap e1]; rfl, hr, fun _ => rfl⟩
  | succ h =>
    obtain ⟨lv, kv, ps, g, e1, e2, e3, e5, e4⟩ := hT
    obtain ⟨A, c, rfl, hr⟩ := own_rd e2
    obtain ⟨kA, kc, rfl, _⟩ := own_rd e3
    exact ⟨A, c, kA, ps.length, kc, by rw [Lib.cell_of_heap e1]; rfl, by rw [Lib.cell_of_heap e1]; rfl, hr, fun h => by cases h⟩
theorem place_any (p : Nat) (A : Option Addr) (n c : Nat) (l : List Te) (e : Te) (w : World) (hp : w.cell? ⟨p, 0, none⟩ = some (.slice A n c)) (hl : RdN w A n c l) (hS : Srt l) (hn : n ≤ 1000000) : Calls Tryz.prog 69 #[.pointer (some ⟨p, 0, none⟩), .agg #[.string e.key, .int .i64 e.no]] w (Give (.tuple #[.int .i64 (rankT l e), .bool (memT l e)]) w) := by
  have ha := heap_alloc_new w (.cells #[.string e.key, .int .i64 e.no] 83)
  have hx1 := hid ((Ext.refl w).alloc_right (.cells #[.string e.key, .int .i64 e.no] 83))
  have z0 : (w.alloc (.cells #[.string e.key, .int .i64 e.no] 83)).cell? ⟨w.heap.size, 0, none⟩ = some (.string e.key) := by rw [Lib.cell_of_heap ha]; rfl
  have z1 : (w.alloc (.cells #[.string e.key, .int .i64 e.no] 83)).cell? ⟨w.heap.size, 1, none⟩ = some (.int .i64 e.no) := by rw [Lib.cell_of_heap ha]; rfl
  have zp := hx1.out.cell hp
  have lp := World.block_lt_of_cell? _ _ zp
  dsimp only at lp
  replace hl := hid hl
  replace hS := hid hS
  clear ha hp
  generalize hRk : rankT l e = rk at *
  generalize hMm : memT l e = mm at *
  replace hRk := hid hRk
  replace hMm := hid hMm
  go_enter Tryz.func69, Tryz.ntmps69
  go_upto_region 1 with fail
  generalize w.alloc (.cells #[.string e.key, .int .i64 e.no] 83) = w1 at *
  generalize w.heap.size = b at *
  have I0 : (fun w' : World => w'.cell? ⟨p, 0, none⟩ = some (.slice A n c) ∧ w'.cell? ⟨b, 0, none⟩ = some (.string e.key) ∧ w'.cell? ⟨b, 1, none⟩ = some (.int .i64 e.no)) w1.drew := ⟨zp, z0, z1⟩
  replace hx1 := hid (hx1.out.drew_right)
  refine region_J (fun w' : World => w'.cell? ⟨p, 0, none⟩ = some (.slice A n c) ∧ w'.cell? ⟨b, 0, none⟩ = some (.string e.key) ∧ w'.cell? ⟨b, 1, none⟩ = some (.int .i64 e.no)) 10 (by kernel_rfl) ?_
  clear zp z0 z1
  generalize w1.drew = w2 at *
  refine JO 0 (v := ?vc0) I0 ?yc0 ?rc0
  case yc0 => (intro w h; obtain ⟨_, _, _⟩ := h; go_simp; with_reducible rfl)
  simp only [Act.put, lyA, lyB, lyC, lyD, lyE, lyF]
  refine JO 1 (v := ?vc1) I0 ?yc1 ?rc1
  case yc1 => (intro w h; obtain ⟨_, _, _⟩ := h; go_simp; with_reducible rfl)
  simp only [Act.put, lyA, lyB, lyC, lyD, lyE, lyF]
  refine JO 2 (v := ?vc2) I0 ?yc2 ?rc2
  case yc2 => (intro w h; obtain ⟨_, _, _⟩ := h; go_simp; with_reducible rfl)
  simp only [Act.put, lyA, lyB, lyC, lyD, lyE, lyF]
  refine JO 3 (v := ?vc3) I0 ?yc3 ?rc3
  case yc3 => (intro w h; obtain ⟨_, _, _⟩ := h; go_simp; with_reducible rfl)
  simp only [Act.put, lyA, lyB, lyC, lyD, lyE, lyF]
  refine JO 4 (v := ?vc4) I0 ?yc4 ?rc4
  case yc4 => (intro w h; obtain ⟨_, _, _⟩ := h; go_simp; with_reducible rfl)
  simp only [Act.put, lyA, lyB, lyC, lyD, lyE, lyF]
  refine J_one 5 rfl (by kernel_rfl) (fun K hK => ?_)
  go_simp
  refine (bsearch_any A n c l e _ (hl.out.ext hx1.out) hS.out hn).mono ?_
  rintro e' w5 ⟨rfl, hx5⟩
  have I5 : (fun w' : World => w'.cell? ⟨p, 0, none⟩ = some (.slice A n c) ∧ w'.cell? ⟨b, 0, none⟩ = some (.string e.key) ∧ w'.cell? ⟨b, 1, none⟩ = some (.int .i64 e.no)) w5 := ⟨hx5.cell I0.1, hx5.cell I0.2.1, hx5.cell I0.2.2⟩
  have hx6 := hid (hx1.out.trans hx5)
  clear hx5
  refine hK _ _ ⟨fun _ => I5, ?_⟩
  clear hK K
  try simp only [Act.put, lyA, lyB, lyC, lyD, lyE, lyF]
  refine JO 6 (v := ?vd6) I5 ?yd6 ?rd6
  case yd6 => (intro w h; obtain ⟨_, _, _⟩ := h; go_simp; with_reducible rfl)
  simp only [Act.put, lyA, lyB, lyC, lyD, lyE, lyF]
  refine JO 7 (v := ?vd7) I5 ?yd7 ?rd7
  case yd7 => (intro w h; obtain ⟨_, _, _⟩ := h; go_simp; with_reducible rfl)
  simp only [Act.put, lyA, lyB, lyC, lyD, lyE, lyF]
  refine JO 8 (v := ?vd8) I5 ?yd8 ?rd8
  case yd8 => (intro w h; obtain ⟨_, _, _⟩ := h; go_simp; with_reducible rfl)
  simp only [Act.put, lyA, lyB, lyC, lyD, lyE, lyF]
  refine J_one 9 rfl (by kernel_rfl) (fun K hK => ?_)
  go_simp
  refine hK _ _ ⟨fun _ => I5, ?_⟩
  clear hK K
  try simp only [Act.put, lyD, lyE, lyF]
  refine J_done (by kernel_rfl) (OnlyOn.normal ?_)
  go_wp2
  go_ret2
  exact ⟨by rw [hRk.out, hMm.out]; rfl, hx6.out⟩
theorem has_any : ∀ (h p : Nat) (T : BT) (f : Nat → Nat) (w : World) (e : Te), TN w h p T f → Shp h T → Srt (flat h T) → T.l.length ≤ 5 → Calls Tryz.prog 52 #[.pointer (some ⟨p, 0, none⟩), .agg #[.string e.key, .int .i64 e.no]] w (Give (.bool (memT (flat h T) e)) w) := by
  intro h
  induction h with
  | zero =>
    intro p T f w e hT hs hS hl
    obtain ⟨l, ks⟩ := T
    obtain ⟨A, c, kA, kn, kc, cp0, cp1, hr, hk0⟩ := hT.cells
    obtain rfl := hk0 rfl
    have hl5 : l.length ≤ 5 := hl
    have hSl : Srt l := hS
    have hml := Rd.max hr
    show Calls Tryz.prog _ _ w (Give (.bool (memT l e)) w)
    have ha := heap_alloc_new w (.cells #[.string e.key, .int .i64 e.no] 83)
    have hx1 := hid ((Ext.refl w).alloc_right (.cells #[.string e.key, .int .i64 e.no] 83))
    have z0 : (w.alloc (.cells #[.string e.key, .int .i64 e.no] 83)).cell? ⟨w.heap.size, 0, none⟩ = some (.string e.key) := by rw [Lib.cell_of_heap ha]; rfl
    have z1 : (w.alloc (.cells #[.string e.key, .int .i64 e.no] 83)).cell? ⟨w.heap.size, 1, none⟩ = some (.int .i64 e.no) := by rw [Lib.cell_of_heap ha]; rfl
    have zp := hx1.out.cell cp0
    have zk := hx1.out.cell cp1
    have lp := World.block_lt_of_cell? _ _ zp
    dsimp only at lp
    have hP := hid (place_any p A l.length c l e _ zp (hr.ext hx1.out) hSl (by omega))
    clear ha cp0 cp1
    go_enter Tryz.func52, Tryz.ntmps52
    go_upto_region 1 with fail
    generalize w.alloc (.cells #[.string e.key, .int .i64 e.no] 83) = w1 at *
    generalize w.heap.size = b at *
    generalize rankT l e = i at *
    generalize memT l e = mm at *
    go_wp2_with fail
    refine hP.out.mono ?_
    rintro e' w2 ⟨rfl, hx2⟩
    replace zp := hx2.cell zp
    replace zk := hx2.cell zk
    replace z0 := hx2.cell z0
    replace z1 := hx2.cell z1
    replace hx1 := hid (hx1.out.trans hx2)
    clear hx2 hP
    have lp2 := World.block_lt_of_cell? _ _ zp
    dsimp only at lp2
    clear hT hs hS hl
    cases mm with
    | true =>
      go_upto_region 2 with fail
      go_quiet (fail)
      go_wp2
      go_ret
      exact ⟨rfl, hx1.out.drewN_right _⟩
    | false =>
      go_upto_region 2 with fail
      go_quiet (fail)
      go_wp2
      go_ret
      exact ⟨rfl, hx1.out.drewN_right _⟩
  | succ h ih =>
    intro p T f w e hT hs hS hl
    obtain ⟨l, ks⟩ := T
    obtain ⟨hSl, K, hKi, -, -, -, hSK⟩ := node_lt hs hS e
    obtain ⟨K', hKi', hmm⟩ := mem_node hs hS e
    obtain rfl := Option.some.inj (hKi.symm.trans hKi')
    have hmK : K ∈ ks := List.mem_of_getElem? hKi
    obtain ⟨k1, k2, k3⟩ := hs.2 K hmK
    obtain ⟨lv, kv, ps, g, e1, e2, e3, e5, e4⟩ := hT
    obtain ⟨A, c, rfl, hr⟩ := own_rd e2
    obtain ⟨kA, kc, rfl, hkr⟩ := own_rd e3
    have cp0 : w.cell? ⟨p, 0, none⟩ = some (.slice A l.length c) := by rw [Lib.cell_of_heap e1]; rfl
    have cp1 : w.cell? ⟨p, 1, none⟩ = some (.slice kA ps.length kc) := by rw [Lib.cell_of_heap e1]; rfl
    obtain ⟨q, g0, g1, g2, hpi, hKq, -, -, -⟩ := e5.cut hKi
    have hil : rankT l e < ps.length := (List.getElem?_eq_some_iff.1 hpi).1
    obtain ⟨ad, rfl, hcc⟩ := hkr.2.2.2 (by omega)
    have cq : w.cell? (ad.add (rankT l e)) = some (.pointer (some ⟨q, 0, none⟩)) := hcc _ _ (by unfold ptrs; rw [List.getElem?_map, hpi]; rfl)
    have hkm := Rd.max hkr
    have hl5 : l.length ≤ 5 := hl
    have hml := Rd.max hr
    rw [hmm]
    have hK := hid hKq
    have hsK := hid k3
    have hSK' := hid hSK
    have hlK : Hid (K.l.length ≤ 5) := by unfold Hid; omega
    have ih' := hid (fun w' (hx : Ext w w') => ih q K g1 w' e (hKq.ext hx) hsK.out hSK'.out hlK.out)
    generalize memT (flat h K) e = mk at *
    clear hmm hkr hcc hpi hKi hKi' hmK k1 k2 k3 hSK e1 e2 e3 e5 e4 hs hS hl hKq
    have ha := heap_alloc_new w (.cells #[.string e.key, .int .i64 e.no] 83)
    have hx1 := hid ((Ext.refl w).alloc_right (.cells #[.string e.key, .int .i64 e.no] 83))
    have z0 : (w.alloc (.cells #[.string e.key, .int .i64 e.no] 83)).cell? ⟨w.heap.size, 0, none⟩ = some (.string e.key) := by rw [Lib.cell_of_heap ha]; rfl
    have z1 : (w.alloc (.cells #[.string e.key, .int .i64 e.no] 83)).cell? ⟨w.heap.size, 1, none⟩ = some (.int .i64 e.no) := by rw [Lib.cell_of_heap ha]; rfl
    have zp := hx1.out.cell cp0
    have zk := hx1.out.cell cp1
    have lp := World.block_lt_of_cell? _ _ zp
    dsimp only at lp
    have hP := hid (place_any p A l.length c l e _ zp (hr.ext hx1.out) hSl (by omega))
    clear ha cp0 cp1
    go_enter Tryz.func52, Tryz.ntmps52
    go_upto_region 1 with fail
    generalize w.alloc (.cells #[.string e.key, .int .i64 e.no] 83) = w1 at *
    generalize w.heap.size = b at *
    generalize rankT l e = i at *
    generalize memT l e = mm at *
    go_wp2_with fail
    refine hP.out.mono ?_
    rintro e' w2 ⟨rfl, hx2⟩
    replace zp := hx2.cell zp
    replace zk := hx2.cell zk
    replace z0 := hx2.cell z0
    replace z1 := hx2.cell z1
    replace hx1 := hid (hx1.out.trans hx2)
    clear hx2 hP
    have lp2 := World.block_lt_of_cell? _ _ zp
    dsimp only at lp2
    replace cq := hx1.out.cell cq
    generalize ps.length = kn at *
    cases mm with
    | true =>
      go_upto_region 2 with fail
      go_quiet (fail)
      go_wp2
      go_ret
      exact ⟨rfl, hx1.out.drewN_right _⟩
    | false =>
      have hki : (i : Int) < (kn : Int) := by omega
      have hk0 : 0 < kn := by omega
      go_upto_region 2 with fail
      have I0 : (fun w' : World => w'.cell? ⟨p, 1, none⟩ = some (.slice (some ad) kn kc) ∧ w'.cell? (ad.add i) = some (.pointer (some ⟨q, 0, none⟩)) ∧ w'.cell? ⟨b, 0, none⟩ = some (.string e.key) ∧ w'.cell? ⟨b, 1, none⟩ = some (.int .i64 e.no)) w2.drew := ⟨zk, cq, z0, z1⟩
      have hx3 := hid (hx1.out.drew_right)
      refine region_J (fun w' : World => w'.cell? ⟨p, 1, none⟩ = some (.slice (some ad) kn kc) ∧ w'.cell? (ad.add i) = some (.pointer (some ⟨q, 0, none⟩)) ∧ w'.cell? ⟨b, 0, none⟩ = some (.string e.key) ∧ w'.cell? ⟨b, 1, none⟩ = some (.int .i64 e.no)) 21 (by kernel_rfl) ?_
      clear zp zk z0 z1 cq hx1
      generalize w2.drew = w3 at *
      refine JO 0 (v := ?vc0) I0 ?yc0 ?rc0
      case yc0 => (intro w h; obtain ⟨_, _, _, _⟩ := h; go_simp; with_reducible rfl)
      simp only [Act.put, lyA, lyB, lyC, lyD, lyE, lyF]
      refine JO 1 (v := ?vc1) I0 ?yc1 ?rc1
      case yc1 => (intro w h; obtain ⟨_, _, _, _⟩ := h; go_simp; with_reducible rfl)
      simp only [Act.put, lyA, lyB, lyC, lyD, lyE, lyF]
      refine JO 2 (v := ?vc2) I0 ?yc2 ?rc2
      case yc2 => (intro w h; obtain ⟨_, _, _, _⟩ := h; go_simp; with_reducible rfl)
      simp only [Act.put, lyA, lyB, lyC, lyD, lyE, lyF]
      refine JO 3 (v := ?vc3) I0 ?yc3 ?rc3
      case yc3 => (intro w h; obtain ⟨_, _, _, _⟩ := h; go_simp; with_reducible rfl)
      simp only [Act.put, lyA, lyB, lyC, lyD, lyE, lyF]
      refine JO 4 (v := ?vc4) I0 ?yc4 ?rc4
      case yc4 => (intro w h; obtain ⟨_, _, _, _⟩ := h; go_simp; with_reducible rfl)
      simp only [Act.put, lyA, lyB, lyC, lyD, lyE, lyF]
      refine JO 5 (v := ?vc5) I0 ?yc5 ?rc5
      case yc5 => (intro w h; obtain ⟨_, _, _, _⟩ := h; go_simp; with_reducible rfl)
      simp only [Act.put, lyA, lyB, lyC, lyD, lyE, lyF]
      refine JO 6 (v := ?vc6) I0 ?yc6 ?rc6
      case yc6 => (intro w h; obtain ⟨_, _, _, _⟩ := h; go_simp; with_reducible rfl)
      simp only [Act.put, lyA, lyB, lyC, lyD, lyE, lyF]
      refine JO 7 (v := ?vc7) I0 ?yc7 ?rc7
      case yc7 => (intro w h; obtain ⟨_, _, _, _⟩ := h; go_simp; with_reducible rfl)
      simp only [Act.put, lyA, lyB, lyC, lyD, lyE, lyF]
      refine JO 8 (v := ?vc8) I0 ?yc8 ?rc8
      case yc8 => (intro w h; obtain ⟨_, _, _, _⟩ := h; go_simp; with_reducible rfl)
      simp only [Act.put, lyA, lyB, lyC, lyD, lyE, lyF]
      refine JO 9 (v := ?vc9) I0 ?yc9 ?rc9
      case yc9 => (intro w h; obtain ⟨_, _, _, _⟩ := h; go_simp; with_reducible rfl)
      simp only [Act.put, lyA, lyB, lyC, lyD, lyE, lyF]
      refine JO 10 (v := ?vc10) I0 ?yc10 ?rc10
      case yc10 => (intro w h; obtain ⟨_, _, _, _⟩ := h; go_simp; with_reducible rfl)
      simp only [Act.put, lyA, lyB, lyC, lyD, lyE, lyF]
      refine JO 11 (v := ?vc11) I0 ?yc11 ?rc11
      case yc11 => (intro w h; obtain ⟨_, _, _, _⟩ := h; go_simp; with_reducible rfl)
      simp only [Act.put, lyA, lyB, lyC, lyD, lyE, lyF]
      refine JO 12 (v := ?vc12) I0 ?yc12 ?rc12
      case yc12 => (intro w h; obtain ⟨_, _, _, _⟩ := h; go_simp; with_reducible rfl)
      simp only [Act.put, lyA, lyB, lyC, lyD, lyE, lyF]
      refine JO 13 (v := ?vc13) I0 ?yc13 ?rc13
      case yc13 => (intro w h; obtain ⟨_, _, _, _⟩ := h; go_simp; with_reducible rfl)
      simp only [Act.put, lyA, lyB, lyC, lyD, lyE, lyF]
      refine JO 14 (v := ?vc14) I0 ?yc14 ?rc14
      case yc14 => (intro w h; obtain ⟨_, _, _, _⟩ := h; go_simp; with_reducible rfl)
      simp only [Act.put, lyA, lyB, lyC, lyD, lyE, lyF]
      refine JO 15 (v := ?vc15) I0 ?yc15 ?rc15
      case yc15 => (intro w h; obtain ⟨_, _, _, _⟩ := h; go_simp; with_reducible rfl)
      simp only [Act.put, lyA, lyB, lyC, lyD, lyE, lyF]
      refine JO 16 (v := ?vc16) I0 ?yc16 ?rc16
      case yc16 => (intro w h; obtain ⟨_, _, _, _⟩ := h; go_simp; with_reducible rfl)
      simp only [Act.put, lyA, lyB, lyC, lyD, lyE, lyF]
      refine J_one 17 rfl (by kernel_rfl) (fun K hK => ?_)
      go_simp
      refine (ih'.out _ hx3.out).mono ?_
      rintro e' w5 ⟨rfl, hx5⟩
      have I5 : (fun w' : World => w'.cell? ⟨p, 1, none⟩ = some (.slice (some ad) kn kc) ∧ w'.cell? (ad.add i) = some (.pointer (some ⟨q, 0, none⟩)) ∧ w'.cell? ⟨b, 0, none⟩ = some (.string e.key) ∧ w'.cell? ⟨b, 1, none⟩ = some (.int .i64 e.no)) w5 := ⟨hx5.cell I0.1, hx5.cell I0.2.1, hx5.cell I0.2.2.1, hx5.cell I0.2.2.2⟩
      have hx6 := hid (hx3.out.trans hx5)
      clear hx5
      refine hK _ _ ⟨fun _ => I5, ?_⟩
      clear hK K
      try simp only [Act.put, lyA, lyB, lyC, lyD, lyE, lyF]
      refine JO 18 (v := ?vd18) I5 ?yd18 ?rd18
      case yd18 => (intro w h; obtain ⟨_, _, _, _⟩ := h; go_simp; with_reducible rfl)
      simp only [Act.put, lyA, lyB, lyC, lyD, lyE, lyF]
      refine JO 19 (v := ?vd19) I5 ?yd19 ?rd19
      case yd19 => (intro w h; obtain ⟨_, _, _, _⟩ := h; go_simp; with_reducible rfl)
      simp only [Act.put, lyA, lyB, lyC, lyD, lyE, lyF]
      refine J_one 20 rfl (by kernel_rfl) (fun K hK => ?_)
      go_simp
      refine hK _ _ ⟨fun _ => I5, ?_⟩
      clear hK K
      try simp only [Act.put, lyD, lyE, lyF]
      refine J_done (by kernel_rfl) (OnlyOn.normal ?_)
      go_wp2
      go_ret
      exact ⟨rfl, hx6.out⟩
open Go.RowKit Go.Shelf
theorem mem_seg {α : Type} {L : List α} {o m N : Nat} (h : o + m ≤ N) {v : α} (hv : v ∈ (L.drop o).take m) : v ∈ L.take N := by
  have e : (L.drop o).take m = (L.take (o + m)).drop o := by rw [List.drop_take]; congr 1; omega
  rw [e] at hv
  have h2 := List.mem_of_mem_drop hv
  have e2 : L.take (o + m) = (L.take N).take (o + m) := by rw [List.take_take, Nat.min_eq_left h]
  rw [e2] at h2
  exact List.mem_of_mem_take h2
theorem shape_row {w : World} {g : Nat} {cur : List Value} {t : TypeId} (hg : w.heap[g]? = some (.cells cur.toArray t (0, 0))) : w.shape? g = some (t, cur.length) := by
  simp [World.shape?, hg]
theorem frozen_row {w : World} {g : Nat} {cur : List Value} {t : TypeId} (hg : w.heap[g]? = some (.cells cur.toArray t (0, 0))) (k : Nat) : w.frozen? ⟨g, k, none⟩ = false := by
  simp [World.frozen?, hg]
theorem seg_src {w : World} {g : Nat} {cur : List Value} {t : TypeId} (hg : w.heap[g]? = some (.cells cur.toArray t (0, 0))) (o m : Nat) : ∀ k v, ((cur.drop o).take m)[k]? = some v → w.cell? ((⟨g, o, none⟩ : Addr).add k) = some v := fun k v h => by
  refine row_cell hg _ _ ?_
  rw [List.getElem?_take] at h
  split at h
  · rw [List.getElem?_drop] at h; exact h
  · cases h
theorem one_seg {cur : List Value} {N : Nat} (h : ∀ v ∈ cur.take N, v.oneCell' = true) (o m : Nat) (hN : o + m ≤ N) : ∀ v ∈ (cur.drop o).take m, v.oneCell' = true := fun v hv => h v (mem_seg hN hv)
theorem splice_in2 {α : Type} {cur ns cs : List α} {a b : Nat} (hb : a + ns.length = b) (hl : b + cs.length ≤ cur.length) : (splice (splice cur b cs) a ns).take (b + cs.length) = cur.take a ++ (ns ++ cs) := by
  subst hb
  have h1 : (cur.take (a + ns.length)).length = a + ns.length := by rw [List.length_take]; omega
  have h2 : (cur.take a).length = a := by rw [List.length_take]; omega
  have e : splice (splice cur (a + ns.length) cs) a ns = cur.take a ++ (ns ++ (cs ++ cur.drop (a + ns.length + cs.length))) := by
    unfold splice
    rw [List.take_append_of_le_length (by omega), List.take_take, Nat.min_eq_left (by omega), List.drop_left' (by omega)]
  rw [e, ← List.append_assoc, ← List.append_assoc, ← List.append_assoc]
  rw [List.take_left' (by simp only [List.length_append, h2])]
theorem splice_out2 {α : Type} {r ns cs : List α} {a b : Nat} (hb : a + ns.length = b) (hl : b + cs.length ≤ r.length) : (splice (splice r a ns) b cs).take (b + cs.length) = r.take a ++ (ns ++ cs) := by
  subst hb
  have h2 : (r.take a).length = a := by rw [List.length_take]; omega
  have e1 : (splice r a ns).take (a + ns.length) = r.take a ++ ns := by
    unfold splice
    rw [← List.append_assoc, List.take_left' (by rw [List.length_append, h2])]
  have e : splice (splice r a ns) (a + ns.length) cs = (r.take a ++ ns) ++ (cs ++ (splice r a ns).drop (a + ns.length + cs.length)) := by
    rw [← e1]
    rfl
  rw [e, ← List.append_assoc, List.take_left' (by simp only [List.length_append, h2]), List.append_assoc]
theorem row_open {w : World} {v : Value} {E : TypeId} {k n : Nat} {xs : List Value} (h : w.ownsRow 0 E k v n xs) (hn : 0 < n) :
    ∃ (g c : Nat) (cur : List Value), v = .slice (some ⟨g, 0, none⟩) n c ∧ w.heap[g]? = some (.cells cur.toArray E (0, 0)) ∧ n ≤ c ∧ c ≤ 9223372036854775807 ∧ cur.length = c * k ∧ cur.take (n * k) = xs := by
  rcases h.2 with ⟨_, h0⟩ | ⟨g, c, cur, rfl, _, hg, hn, hc, hs, ht⟩
  · omega
  · exact ⟨g, c, cur.toList, rfl, by simpa using hg, hn, hc, by simpa using hs, ht⟩
theorem row_shut {w : World} {E : TypeId} {k g n c : Nat} {cur xs : List Value} (hg : w.heap[g]? = some (.cells cur.toArray E (0, 0))) (hn : n ≤ c) (hc : c ≤ 9223372036854775807) (hl : cur.length = c * k) (hx : xs.length = n * k) (ht : cur.take (n * k) = xs) :
    w.ownsRow 0 E k (.slice (some ⟨g, 0, none⟩) n c) n xs :=
  ⟨hx, .inr ⟨g, c, cur.toArray, rfl, Nat.zero_le _, hg, hn, hc, by simpa using hl, by simpa using ht⟩⟩
def Rw (v v' : Value) (w w' : World) : Prop := w.grownBy w' v.ownBlock ∧ (v'.ownBlock = v.ownBlock ∨ ∀ k, v'.ownBlock = some k → w.heap.size ≤ k)
theorem Ext.grown {w w' : World} (h : Ext w w') (row : Option Nat) : w.grownBy w' row := ⟨h.os, h.tape, h.output, h.size, fun k hk _ => h.block hk⟩
theorem grown_draw (w : World) (row : Option Nat) : w.grownBy w.drew row := ⟨rfl, rfl, rfl, Nat.le_refl _, fun _ _ _ => rfl⟩
theorem infoN : (Tryz.prog.info? 83).map (fun i => (i.zero, i.size, i.bytes)) = some (some (.agg #[.string ⟨#[]⟩, .int .i64 0]), 2, 24) := by kernel_rfl
theorem ov_N (w : World) (g va k n c m d : Nat) (cur news : List Value) (hne : g ≠ va) (hg : Hid (w.heap[g]? = some (.cells cur.toArray 83 (0, 0)))) (hv : Hid (w.heap[va]? = some (.cells news.toArray 83 (0, 0)))) (hn : Hid (cur.length ≠ 0)) :
    (callFunc 105 #[.slice (some ⟨va, 0, none⟩) m d, .slice (some ⟨g, k, none⟩) n c]).run Tryz.prog w = .ok (.value (.bool false)) w := by
  rw [run_callFunc_extern Tryz.func105 (by kernel_rfl) (by kernel_rfl) (by kernel_rfl) (e := Extern.SlicesOverlaps.overlaps #[52, 52] #[4]) (by kernel_rfl),
    Lib.run_overlaps_apart w 52 4 83 Tryz.underlying52 2 Tryz.sizeOf83 ⟨va, 0, none⟩ ⟨g, k, none⟩ m d n c (fun e => hne e.symm) _ _ _ _ (shape_row hv.out) (shape_row hg.out) hn.out (frozen_row hv.out _) (frozen_row hv.out _)]
  rfl
theorem azero_N (w : World) (g n i k : Nat) (cur : List Value) (hg : Hid (w.heap[g]? = some (.cells cur.toArray 83 (0, 0)))) (hcur : cur.length = n * 2) (hi : i ≤ n) (hgt : n < i + k) (h0 : 0 < k) (hb : i + k ≤ 2000000) :
    ∃ (c' : Nat) (r : List Value), (Builtin.append_ #[52, 3] 52 #[.slice (some ⟨g, 0, none⟩) i n, .int .i64 k]).run Tryz.prog w = .ok (.slice (some ⟨w.heap.size, 0, none⟩) (i + k) c') (w.drew.alloc (.cells r.toArray 83)) ∧ i + k ≤ c' ∧ c' ≤ maxLen ∧ r.length = c' * 2 ∧ r.take (i * 2) = cur.take (i * 2) := by
  obtain ⟨i0, hi0, hz0, hz1, hz2⟩ := info_parts infoN
  have hl : (cur.take (i * 2)).length = i * 2 := by rw [List.length_take]; omega
  have hold := run_firstCells_some (P := Tryz.prog) w.drew i0.size i ⟨g, 0, none⟩ i n (cur.take (i * 2)) (by rw [hz1]; exact hl) (fun j v h => by
    have := seg_src (w := w.drew) hg.out 0 (i * 2) j v (by rw [List.drop_zero]; exact h)
    exact this)
  have hr := Lib.run_append_grow_zeros (P := Tryz.prog) w 52 3 52 83 i0 _ .i64 .i64 Tryz.underlying52 Tryz.underlying3 hi0 hz0 (some ⟨g, 0, none⟩) i n _ hold k h0 (by rw [hz1]; decide) hgt (by omega) (by rw [hz2]; omega) (growslice_fits hgt (by rw [hz2]; omega))
  have hge := grownCap_ge w (i + k) n 83
  have hle := grownCap_le_maxLen w (i + k) n 83 (by unfold maxLen; omega)
  generalize grownCap w (i + k) n 83 = c' at *
  refine ⟨c', ((cur.take (i * 2)).toArray ++ Builtin.zeroCells (Value.cells (.agg #[.string ⟨#[]⟩, .int .i64 0])) k ++ Builtin.zeroCells (Value.cells (.agg #[.string ⟨#[]⟩, .int .i64 0])) (c' - (i + k))).toList, ?_, hge, hle, ?_, ?_⟩
  · rw [Array.toArray_toList]; exact hr
  · simp only [Array.toList_append, List.length_append, Array.length_toList, size_zeroCells, List.size_toArray, hl, Value.cells]
    simp only [List.size_toArray, List.length_cons, List.length_nil]
    omega
  · rw [Array.toList_append, Array.toList_append, List.append_assoc, List.take_left' (by simpa using hl)]
theorem insA_N (g n c i j t : Nat) (cur ns : List Value) (va : Nat) (w : World) (hj : Hid (j = i + 1)) (ht : Hid (t = n + 1)) (hin : i < n) (hjt : j < t) (hnt : n < t) (htc : t ≤ c) (hc : c ≤ 9223372036854775807) (hn2 : n ≤ 1000000) (hcur : cur.length = c * 2) (hns : Hid (ns.length = 1 * 2)) (hne : g ≠ va)
    (hg : Hid (w.heap[g]? = some (.cells cur.toArray 83 (0, 0)))) (hv : Hid (w.heap[va]? = some (.cells ns.toArray 83 (0, 0)))) (ho : Hid (∀ v ∈ cur.take (n * 2), v.oneCell' = true)) (hon : Hid (∀ v ∈ ns, v.oneCell' = true)) :
    Calls Tryz.prog 88 #[.slice (some ⟨g, 0, none⟩) n c, .int .i64 i, .slice (some ⟨va, 0, none⟩) 1 1] w fun e w' => e = .returned (.slice (some ⟨g, 0, none⟩) t c) ∧ Hid (w'.heap[g]? = some (.cells (splice (splice cur (j * 2) ((cur.drop (i * 2)).take ((n - i) * 2))) (i * 2) ns).toArray 83 (0, 0))) ∧ Hid (w.grownBy w' (some g)) := by
  have q1 : ((i : Int) == (n : Int)) = false := by rw [beq_eq_false_iff_ne]; omega
  have q3 : IntKind.i64.wrap ((n : Int) + 1) = t := by rw [IntWalk.i64_in _ (by omega), ht.out]; omega
  have q4 : IntKind.i64.wrap ((i : Int) + 1) = j := by rw [IntWalk.i64_in _ (by omega), hj.out]; omega
  have q5 : ((n : Int) + 1) = t := by rw [ht.out]; omega
  have q6 : ((i : Int) + 1) = j := by rw [hj.out]; omega
  have hmn : Hid (Nat.min 1 (t - i) = 1) := Nat.min_eq_left (by omega)
  have hmn2 : Hid (Nat.min (t - i) (t - j) = n - i) := (Nat.min_eq_right (by omega)).trans (by have := hj.out; have := ht.out; omega)
  have hcj : ¬ c = j := by omega
  have hci : ¬ c = i := by omega
  have hit : i ≤ t := by omega
  have hjt2 : j ≤ t := by omega
  have hin2 : i ≤ n := by omega
  have hov := fun m d => ov_N w g va (j * 2) m d 1 1 cur ns hne hg hv (by have := ht.out; have := hj.out; unfold Hid; omega)
  try simp only [Nat.mul_one] at hov
  go_enter Tryz.func88, Tryz.ntmps88
  go_upto_region 15 with (simp only [hov])
  have hgd : Hid (w.drew.heap[g]? = some (.cells cur.toArray 83 (0, 0))) := hg.out
  have hsrc := hid (seg_src hgd.out (i * 2) ((n - i) * 2))
  have hone := hid (one_seg ho.out (i * 2) ((n - i) * 2) (by omega))
  have hcl : Hid (((cur.drop (i * 2)).take ((n - i) * 2)).length = (n - i) * 2) := by unfold Hid; rw [List.length_take, List.length_drop, hcur]; apply Nat.min_eq_left; omega
  generalize hq1 : (cur.drop (i * 2)).take ((n - i) * 2) = cs at *
  replace hq1 := hid hq1
  have hfit : j * 2 + cs.length ≤ cur.length := by rw [hcl.out, hcur]; have := hj.out; have := ht.out; omega
  obtain ⟨w2, hcp, hg2, hr2⟩ := ex_copy_k (P := Tryz.prog) w.drew 52 52 3 83 2 g (j * 2) (t - j) (c - j) ⟨g, i * 2, none⟩ (t - i) (c - i) cur _ cs Tryz.underlying52 (by kernel_rfl) hgd (n - i) hmn2 hcl hsrc.out hfit hone.out
  have hl2 : Hid ((splice cur (j * 2) cs).length = c * 2) := by unfold Hid; rw [length_splice _ _ _ hfit]; exact hcur
  have hr : Hid (w.grownBy w2 (some g)) := (grown_draw w (some g)).trans hr2.out
  have hv2 : Hid (w2.heap[va]? = some (.cells ns.toArray 83 (0, 0))) := (hr2.out.block va (Array.getElem?_eq_some_iff.1 hv.out).1 (fun e => hne (Option.some.inj e).symm)).trans hv.out
  clear hr2 hgd hsrc hone hg hv hov ho hfit hcl
  try simp only [Nat.mul_one] at hcp
  go_region
  clear hcp
  have hsrc : ∀ k v, ns[k]? = some v → w2.cell? ((⟨va, 0, none⟩ : Addr).add k) = some v := fun k v h => row_cell hv2.out 0 k (by rw [Nat.zero_add]; exact h)
  have hfit : i * 2 + ns.length ≤ (splice cur (j * 2) cs).length := by rw [hl2.out, hns.out]; have := hj.out; have := ht.out; omega
  generalize hq2 : splice cur (j * 2) cs = cur2 at *
  replace hq2 := hid hq2
  obtain ⟨w3, hcp, hg3, hr3⟩ := ex_copy_k (P := Tryz.prog) w2 52 52 3 83 2 g (i * 2) (t - i) (c - i) ⟨va, 0, none⟩ 1 1 cur2 _ ns Tryz.underlying52 (by kernel_rfl) hg2 1 hmn hns hsrc hfit hon.out
  replace hr : Hid (w.grownBy w3 (some g)) := hr.out.trans hr3.out
  clear hsrc hfit hr3 hg2
  try simp only [Nat.mul_one] at hcp
  go_wp2_with fail
  go_ret
  exact ⟨rfl, by rw [hq1.out, hq2.out]; exact hg3, hr⟩
theorem infoK : (Tryz.prog.info? 51).map (fun i => (i.zero, i.size, i.bytes)) = some (some (.pointer none), 1, 8) := by kernel_rfl
theorem ov_K (w : World) (g va k n c m d : Nat) (cur news : List Value) (hne : g ≠ va) (hg : Hid (w.heap[g]? = some (.cells cur.toArray 51 (0, 0)))) (hv : Hid (w.heap[va]? = some (.cells news.toArray 51 (0, 0)))) (hn : Hid (cur.length ≠ 0)) :
    (callFunc 107 #[.slice (some ⟨va, 0, none⟩) m d, .slice (some ⟨g, k, none⟩) n c]).run Tryz.prog w = .ok (.value (.bool false)) w := by
  rw [run_callFunc_extern Tryz.func107 (by kernel_rfl) (by kernel_rfl) (by kernel_rfl) (e := Extern.SlicesOverlaps.overlaps #[53, 53] #[4]) (by kernel_rfl),
    Lib.run_overlaps_apart w 53 4 51 Tryz.underlying53 1 Tryz.sizeOf51 ⟨va, 0, none⟩ ⟨g, k, none⟩ m d n c (fun e => hne e.symm) _ _ _ _ (shape_row hv.out) (shape_row hg.out) hn.out (frozen_row hv.out _) (frozen_row hv.out _)]
  rfl
theorem azero_K (w : World) (g n i k : Nat) (cur : List Value) (hg : Hid (w.heap[g]? = some (.cells cur.toArray 51 (0, 0)))) (hcur : cur.length = n * 1) (hi : i ≤ n) (hgt : n < i + k) (h0 : 0 < k) (hb : i + k ≤ 2000000) :
    ∃ (c' : Nat) (r : List Value), (Builtin.append_ #[53, 3] 53 #[.slice (some ⟨g, 0, none⟩) i n, .int .i64 k]).run Tryz.prog w = .ok (.slice (some ⟨w.heap.size, 0, none⟩) (i + k) c') (w.drew.alloc (.cells r.toArray 51)) ∧ i + k ≤ c' ∧ c' ≤ maxLen ∧ r.length = c' * 1 ∧ r.take (i * 1) = cur.take (i * 1) := by
  obtain ⟨i0, hi0, hz0, hz1, hz2⟩ := info_parts infoK
  have hl : (cur.take (i * 1)).length = i * 1 := by rw [List.length_take]; omega
  have hold := run_firstCells_some (P := Tryz.prog) w.drew i0.size i ⟨g, 0, none⟩ i n (cur.take (i * 1)) (by rw [hz1]; exact hl) (fun j v h => by
    have := seg_src (w := w.drew) hg.out 0 (i * 1) j v (by rw [List.drop_zero]; exact h)
    exact this)
  have hr := Lib.run_append_grow_zeros (P := Tryz.prog) w 53 3 53 51 i0 _ .i64 .i64 Tryz.underlying53 Tryz.underlying3 hi0 hz0 (some ⟨g, 0, none⟩) i n _ hold k h0 (by rw [hz1]; decide) hgt (by omega) (by rw [hz2]; omega) (growslice_fits hgt (by rw [hz2]; omega))
  have hge := grownCap_ge w (i + k) n 51
  have hle := grownCap_le_maxLen w (i + k) n 51 (by unfold maxLen; omega)
  generalize grownCap w (i + k) n 51 = c' at *
  refine ⟨c', ((cur.take (i * 1)).toArray ++ Builtin.zeroCells (Value.cells (.pointer none)) k ++ Builtin.zeroCells (Value.cells (.pointer none)) (c' - (i + k))).toList, ?_, hge, hle, ?_, ?_⟩
  · rw [Array.toArray_toList]; exact hr
  · simp only [Array.toList_append, List.length_append, Array.length_toList, size_zeroCells, List.size_toArray, hl, Value.cells]
    simp only [List.size_toArray, List.length_cons, List.length_nil]
    omega
  · rw [Array.toList_append, Array.toList_append, List.append_assoc, List.take_left' (by simpa using hl)]
theorem insA_K (g n c i j t : Nat) (cur ns : List Value) (va : Nat) (w : World) (hj : Hid (j = i + 1)) (ht : Hid (t = n + 1)) (hin : i < n) (hjt : j < t) (hnt : n < t) (htc : t ≤ c) (hc : c ≤ 9223372036854775807) (hn2 : n ≤ 1000000) (hcur : cur.length = c * 1) (hns : Hid (ns.length = 1 * 1)) (hne : g ≠ va)
    (hg : Hid (w.heap[g]? = some (.cells cur.toArray 51 (0, 0)))) (hv : Hid (w.heap[va]? = some (.cells ns.toArray 51 (0, 0)))) (ho : Hid (∀ v ∈ cur.take (n * 1), v.oneCell' = true)) (hon : Hid (∀ v ∈ ns, v.oneCell' = true)) :
    Calls Tryz.prog 91 #[.slice (some ⟨g, 0, none⟩) n c, .int .i64 i, .slice (some ⟨va, 0, none⟩) 1 1] w fun e w' => e = .returned (.slice (some ⟨g, 0, none⟩) t c) ∧ Hid (w'.heap[g]? = some (.cells (splice (splice cur (j * 1) ((cur.drop (i * 1)).take ((n - i) * 1))) (i * 1) ns).toArray 51 (0, 0))) ∧ Hid (w.grownBy w' (some g)) := by
  have q1 : ((i : Int) == (n : Int)) = false := by rw [beq_eq_false_iff_ne]; omega
  have q3 : IntKind.i64.wrap ((n : Int) + 1) = t := by rw [IntWalk.i64_in _ (by omega), ht.out]; omega
  have q4 : IntKind.i64.wrap ((i : Int) + 1) = j := by rw [IntWalk.i64_in _ (by omega), hj.out]; omega
  have q5 : ((n : Int) + 1) = t := by rw [ht.out]; omega
  have q6 : ((i : Int) + 1) = j := by rw [hj.out]; omega
  have hmn : Hid (Nat.min 1 (t - i) = 1) := Nat.min_eq_left (by omega)
  have hmn2 : Hid (Nat.min (t - i) (t - j) = n - i) := (Nat.min_eq_right (by omega)).trans (by have := hj.out; have := ht.out; omega)
  have hcj : ¬ c = j := by omega
  have hci : ¬ c = i := by omega
  have hit : i ≤ t := by omega
  have hjt2 : j ≤ t := by omega
  have hin2 : i ≤ n := by omega
  have hov := fun m d => ov_K w g va (j * 1) m d 1 1 cur ns hne hg hv (by have := ht.out; have := hj.out; unfold Hid; omega)
  try simp only [Nat.mul_one] at hov
  go_enter Tryz.func91, Tryz.ntmps91
  go_upto_region 15 with (simp only [hov])
  have hgd : Hid (w.drew.heap[g]? = some (.cells cur.toArray 51 (0, 0))) := hg.out
  have hsrc := hid (seg_src hgd.out (i * 1) ((n - i) * 1))
  have hone := hid (one_seg ho.out (i * 1) ((n - i) * 1) (by omega))
  have hcl : Hid (((cur.drop (i * 1)).take ((n - i) * 1)).length = (n - i) * 1) := by unfold Hid; rw [List.length_take, List.length_drop, hcur]; apply Nat.min_eq_left; omega
  generalize hq1 : (cur.drop (i * 1)).take ((n - i) * 1) = cs at *
  replace hq1 := hid hq1
  have hfit : j * 1 + cs.length ≤ cur.length := by rw [hcl.out, hcur]; have := hj.out; have := ht.out; omega
  obtain ⟨w2, hcp, hg2, hr2⟩ := ex_copy_k (P := Tryz.prog) w.drew 53 53 3 51 1 g (j * 1) (t - j) (c - j) ⟨g, i * 1, none⟩ (t - i) (c - i) cur _ cs Tryz.underlying53 (by kernel_rfl) hgd (n - i) hmn2 hcl hsrc.out hfit hone.out
  have hl2 : Hid ((splice cur (j * 1) cs).length = c * 1) := by unfold Hid; rw [length_splice _ _ _ hfit]; exact hcur
  have hr : Hid (w.grownBy w2 (some g)) := (grown_draw w (some g)).trans hr2.out
  have hv2 : Hid (w2.heap[va]? = some (.cells ns.toArray 51 (0, 0))) := (hr2.out.block va (Array.getElem?_eq_some_iff.1 hv.out).1 (fun e => hne (Option.some.inj e).symm)).trans hv.out
  clear hr2 hgd hsrc hone hg hv hov ho hfit hcl
  try simp only [Nat.mul_one] at hcp
  go_region
  clear hcp
  have hsrc : ∀ k v, ns[k]? = some v → w2.cell? ((⟨va, 0, none⟩ : Addr).add k) = some v := fun k v h => row_cell hv2.out 0 k (by rw [Nat.zero_add]; exact h)
  have hfit : i * 1 + ns.length ≤ (splice cur (j * 1) cs).length := by rw [hl2.out, hns.out]; have := hj.out; have := ht.out; omega
  generalize hq2 : splice cur (j * 1) cs = cur2 at *
  replace hq2 := hid hq2
  obtain ⟨w3, hcp, hg3, hr3⟩ := ex_copy_k (P := Tryz.prog) w2 53 53 3 51 1 g (i * 1) (t - i) (c - i) ⟨va, 0, none⟩ 1 1 cur2 _ ns Tryz.underlying53 (by kernel_rfl) hg2 1 hmn hns hsrc hfit hon.out
  replace hr : Hid (w.grownBy w3 (some g)) := hr.out.trans hr3.out
  clear hsrc hfit hr3 hg2
  try simp only [Nat.mul_one] at hcp
  go_wp2_with fail
  go_ret
  exact ⟨rfl, by rw [hq1.out, hq2.out]; exact hg3, hr⟩
open Go.RowKit Go.Shelf
theorem insB_N (g n i j t : Nat) (cur ns : List Value) (va : Nat) (w : World) (hj : Hid (j = i + 1)) (ht : Hid (t = n + 1)) (hin : i < n) (hjt : j < t) (hnt : n < t) (hc : n ≤ 1000000) (hcur : cur.length = n * 2) (hns : Hid (ns.length = 1 * 2)) (hne : g ≠ va)
    (hg : Hid (w.heap[g]? = some (.cells cur.toArray 83 (0, 0)))) (hv : Hid (w.heap[va]? = some (.cells ns.toArray 83 (0, 0)))) (ho : Hid (∀ v ∈ cur.take (n * 2), v.oneCell' = true)) (hon : Hid (∀ v ∈ ns, v.oneCell' = true)) :
    Calls Tryz.prog 88 #[.slice (some ⟨g, 0, none⟩) n n, .int .i64 i, .slice (some ⟨va, 0, none⟩) 1 1] w fun e w' => ∃ (c' : Nat) (r : List Value), e = .returned (.slice (some ⟨w.heap.size, 0, none⟩) t c') ∧ t ≤ c' ∧ c' ≤ maxLen ∧ r.length = c' * 2 ∧ r.take (t * 2) = cur.take (i * 2) ++ (ns ++ (cur.drop (i * 2)).take ((n - i) * 2)) ∧ w'.heap[w.heap.size]? = some (.cells r.toArray 83 (0, 0)) ∧ Ext w w' := by
  have q1 : ((i : Int) == (n : Int)) = false := by rw [beq_eq_false_iff_ne]; omega
  have q3 : IntKind.i64.wrap ((n : Int) + 1) = t := by rw [IntWalk.i64_in _ (by omega), ht.out]; omega
  have q4 : IntKind.i64.wrap ((i : Int) + 1) = j := by rw [IntWalk.i64_in _ (by omega), hj.out]; omega
  have q5 : ((n : Int) + 1) = t := by rw [ht.out]; omega
  have q6 : ((i : Int) + 1) = j := by rw [hj.out]; omega
  have q7 : IntKind.i64.wrap ((t : Int) - (i : Int)) = ((t - i : Nat) : Int) := by have := ht.out; rw [IntWalk.i64_in _ (by omega)]; omega
  have hin2 : i ≤ n := by omega
  obtain ⟨c', r, hap, hc1, hc2, hr1, hr2⟩ := azero_N w g n i (t - i) cur hg hcur hin2 (by omega) (by omega) (by have := ht.out; omega)
  rw [show i + (t - i) = t by omega] at hap hc1
  have hxa : Hid (Ext w (w.drew.alloc (.cells r.toArray 83))) := ((Ext.refl w).drew_right).alloc_right _
  have hga : Hid ((w.drew.alloc (.cells r.toArray 83)).heap[w.heap.size]? = some (.cells r.toArray 83 (0, 0))) := heap_alloc_new w.drew _
  have hgb : Hid ((w.drew.alloc (.cells r.toArray 83)).heap[g]? = some (.cells cur.toArray 83 (0, 0))) := (hxa.out.block (Array.getElem?_eq_some_iff.1 hg.out).1).trans hg.out
  have hva : Hid ((w.drew.alloc (.cells r.toArray 83)).heap[va]? = some (.cells ns.toArray 83 (0, 0))) := (hxa.out.block (Array.getElem?_eq_some_iff.1 hv.out).1).trans hv.out
  have hgl : Hid (g < w.heap.size ∧ va < w.heap.size) := ⟨(Array.getElem?_eq_some_iff.1 hg.out).1, (Array.getElem?_eq_some_iff.1 hv.out).1⟩
  have hcb : c' ≤ 9223372036854775807 := hc2
  have hq0 : ¬ c' = i := by omega
  have hq9 : ¬ c' = j := by omega
  have hni : ¬ n = i := by omega
  have hit : i ≤ t := by omega
  have hjt2 : j ≤ t := by omega
  go_enter Tryz.func88, Tryz.ntmps88
  go_wp2_with (at_builtin; refine Lib.wpList_append_run _ rfl _ _ _ _ rfl _ _ rfl rfl _ _ hap ?_; clear hap; generalize w.drew.alloc (.cells r.toArray 83) = w2 at *)
  have hgl2 := hgl.out
  generalize hGe : w.heap.size = G at *
  replace hGe := hid hGe
  clear hgl hg hv
  have hsrc : ∀ k v, ns[k]? = some v → w2.cell? ((⟨va, 0, none⟩ : Addr).add k) = some v := fun k v h => row_cell hva.out 0 k (by rw [Nat.zero_add]; exact h)
  have hfit : i * 2 + ns.length ≤ r.length := by rw [hr1, hns.out]; have := hj.out; have := ht.out; omega
  have hmn : Hid (Nat.min 1 (t - i) = 1) := Nat.min_eq_left (by omega)
  have hmn2 : Hid (Nat.min (n - i) (t - j) = n - i) := Nat.min_eq_left (by have := hj.out; have := ht.out; omega)
  obtain ⟨w3, hcp, hg3, hr3⟩ := ex_copy_k (P := Tryz.prog) w2 52 52 3 83 2 G (i * 2) (t - i) (c' - i) ⟨va, 0, none⟩ 1 1 r _ ns Tryz.underlying52 (by kernel_rfl) hga 1 hmn hns hsrc hfit hon.out
  have hl3 : Hid ((splice r (i * 2) ns).length = c' * 2) := by unfold Hid; rw [length_splice _ _ _ hfit]; exact hr1
  have hgb3 : Hid (w3.drew.heap[g]? = some (.cells cur.toArray 83 (0, 0))) := (hr3.out.block g (Array.getElem?_eq_some_iff.1 hgb.out).1 (fun e => by have := Option.some.inj e; omega)).trans hgb.out
  have hg3d : Hid (w3.drew.heap[G]? = some (.cells (splice r (i * 2) ns).toArray 83 (0, 0))) := hg3.out
  have hx3 : Hid (Ext w w3.drew) := ⟨hr3.out.os.trans hxa.out.os, hr3.out.tape.trans hxa.out.tape, hr3.out.output.trans hxa.out.output, Nat.le_trans hxa.out.size hr3.out.size, fun k hk => (hr3.out.block k (Nat.lt_of_lt_of_le hk hxa.out.size) (fun e => by have := Option.some.inj e; rw [hGe.out] at hk; omega)).trans (hxa.out.block hk)⟩
  clear hsrc hfit hr3 hg3 hga hgb hva hxa
  have hsrc := hid (seg_src hgb3.out (i * 2) ((n - i) * 2))
  have hone := hid (one_seg ho.out (i * 2) ((n - i) * 2) (by omega))
  have hcl : Hid (((cur.drop (i * 2)).take ((n - i) * 2)).length = (n - i) * 2) := by unfold Hid; rw [List.length_take, List.length_drop, hcur]; apply Nat.min_eq_left; omega
  generalize hq1 : (cur.drop (i * 2)).take ((n - i) * 2) = cs at *
  replace hq1 := hid hq1
  have hfit : j * 2 + cs.length ≤ (splice r (i * 2) ns).length := by rw [hl3.out, hcl.out]; have := hj.out; have := ht.out; omega
  obtain ⟨w4, hcp2, hg4, hr4⟩ := ex_copy_k (P := Tryz.prog) w3.drew 52 52 3 83 2 G (j * 2) (t - j) (c' - j) ⟨g, i * 2, none⟩ (n - i) (n - i) (splice r (i * 2) ns) _ cs Tryz.underlying52 (by kernel_rfl) hg3d (n - i) hmn2 hcl hsrc.out hfit hone.out
  have hl4 : Hid ((splice (splice r (i * 2) ns) (j * 2) cs).length = c' * 2) := by unfold Hid; rw [length_splice _ _ _ hfit]; exact hl3.out
  have hx4 : Hid (Ext w w4) := ⟨hr4.out.os.trans hx3.out.os, hr4.out.tape.trans hx3.out.tape, hr4.out.output.trans hx3.out.output, Nat.le_trans hx3.out.size hr4.out.size, fun k hk => (hr4.out.block k (Nat.lt_of_lt_of_le hk hx3.out.size) (fun e => by have := Option.some.inj e; rw [hGe.out] at hk; omega)).trans (hx3.out.block hk)⟩
  have hfin : Hid ((splice (splice r (i * 2) ns) (j * 2) cs).take (t * 2) = cur.take (i * 2) ++ (ns ++ cs)) := by
    have h := splice_out2 (r := r) (ns := ns) (cs := cs) (a := i * 2) (b := j * 2) (by have := hj.out; rw [hns.out]; omega) (by rw [hr1, hcl.out]; have := hj.out; have := ht.out; omega)
    rw [hr2, hcl.out, show j * 2 + (n - i) * 2 = t * 2 by have := hj.out; have := ht.out; omega] at h
    exact h
  generalize splice (splice r (i * 2) ns) (j * 2) cs = r4 at *
  clear hsrc hone hfit hr4 hg3d hgb3 hx3
  try simp only [Nat.mul_one] at hcp
  try simp only [Nat.mul_one] at hcp2
  rw [hcp]
  clear hcp
  go_upto_region 11 with fail
  go_region
  go_wp2_with fail
  go_ret
  rw [hGe.out]
  exact ⟨c', r4, rfl, hc1, hc2, hl4.out, by rw [hq1.out]; exact hfin.out, hg4.out, hx4.out⟩
theorem insC_N (n : Nat) (v : Value) (xs ns : List Value) (va : Nat) (w : World) (hn : n ≤ 1000000) (hown : w.ownsRow 0 83 2 v n xs) (hv : w.heap[va]? = some (.cells ns.toArray 83 (0, 0))) (hns : ns.length = 1 * 2) (hon : ∀ v ∈ ns, v.oneCell' = true) :
    Calls Tryz.prog 88 #[v, .int .i64 n, .slice (some ⟨va, 0, none⟩) 1 1] w fun e w' => ∃ v', e = .returned v' ∧ w'.ownsRow 0 83 2 v' (n + 1) (xs ++ ns) ∧ Rw v v' w w' := by
  obtain ⟨i0, hi0, hz0, hz1, hz2⟩ := info_parts infoN
  obtain ⟨A, c, rfl, hr⟩ := own_rd hown
  have hmx := Rd.max hr
  have hnews : Hid (∀ j u, ns[j]? = some u → w.cell? ((⟨va, 0, none⟩ : Addr).add j) = some u) := fun k v h => row_cell hv 0 k (by rw [Nat.zero_add]; exact h)
  replace hns := hid hns
  replace hon := hid hon
  clear hr hv
  generalize hG : w.heap.size = G at *
  replace hG := hid hG
  rcases A with _ | ad
  · obtain ⟨rfl, rfl, rfl⟩ := own_none hown
    replace hown := hid hown
    go_enter Tryz.func88, Tryz.ntmps88
    go_wp2_with (at_builtin; refine wpList_append_lies _ rfl _ _ 52 rfl 0 83 i0 _ 2 24 Tryz.underlying52 hi0 hz0 hz1 hz2 rfl (by decide) _ _ _ rfl hown.out ⟨va, 0, none⟩ 1 1 ns rfl hns.out hnews.out hon.out (by decide) (by unfold maxLen; omega) (by omega) (Nat.zero_le _) G hG.out ?_)
    intro g' cap w1 own1 hg1 hat _
    have hrw : Hid (Rw (.slice none 0 0) (.slice (some ⟨g', 0, none⟩) (0 + 1) cap) w w1) := by
      refine ⟨hg1, ?_⟩
      rcases hat with h | h
      · left; rw [h]; rfl
      · right; intro k hk; have : g' = k := by simpa [Value.ownBlock] using hk
        have := hG.out; omega
    replace own1 := hid own1
    clear hg1 hat
    go_wp2
    go_ret
    exact ⟨_, rfl, own1.out, hrw.out⟩
  · replace hown := hid hown
    by_cases hcn : c = n
    · subst hcn
      go_enter Tryz.func88, Tryz.ntmps88
      go_wp2_with (at_builtin; refine wpList_append_lies _ rfl _ _ 52 rfl 0 83 i0 _ 2 24 Tryz.underlying52 hi0 hz0 hz1 hz2 rfl (by decide) _ _ _ rfl hown.out ⟨va, 0, none⟩ 1 1 ns rfl hns.out hnews.out hon.out (by decide) (by unfold maxLen; omega) (by omega) (Nat.zero_le _) G hG.out ?_)
      intro g' cap w1 own1 hg1 hat _
      have hrw : Hid (Rw (.slice (some ad) c c) (.slice (some ⟨g', 0, none⟩) (c + 1) cap) w w1) := by
        refine ⟨hg1, ?_⟩
        rcases hat with h | h
        · left; rw [h]; rfl
        · right; intro k hk; have : g' = k := by simpa [Value.ownBlock] using hk
          have := hG.out; omega
      replace own1 := hid own1
      clear hg1 hat
      go_wp2
      go_ret
      exact ⟨_, rfl, own1.out, hrw.out⟩
    · go_enter Tryz.func88, Tryz.ntmps88
      go_wp2_with (at_builtin; refine wpList_append_lies _ rfl _ _ 52 rfl 0 83 i0 _ 2 24 Tryz.underlying52 hi0 hz0 hz1 hz2 rfl (by decide) _ _ _ rfl hown.out ⟨va, 0, none⟩ 1 1 ns rfl hns.out hnews.out hon.out (by decide) (by unfold maxLen; omega) (by omega) (Nat.zero_le _) G hG.out ?_)
      intro g' cap w1 own1 hg1 hat _
      have hrw : Hid (Rw (.slice (some ad) n c) (.slice (some ⟨g', 0, none⟩) (n + 1) cap) w w1) := by
        refine ⟨hg1, ?_⟩
        rcases hat with h | h
        · left; rw [h]; rfl
        · right; intro k hk; have : g' = k := by simpa [Value.ownBlock] using hk
          have := hG.out; omega
      replace own1 := hid own1
      clear hg1 hat
      go_wp2
      go_ret
      exact ⟨_, rfl, own1.out, hrw.out⟩
theorem ins_N (n i : Nat) (v : Value) (xs ns : List Value) (va : Nat) (w : World) (hi : i ≤ n) (hn : n ≤ 1000000) (hown : w.ownsRow 0 83 2 v n xs) (h1 : ∀ u ∈ xs, u.oneCell' = true) (hv : w.heap[va]? = some (.cells ns.toArray 83 (0, 0))) (hns : ns.length = 1 * 2) (hon : ∀ v ∈ ns, v.oneCell' = true) (hne : v.ownBlock ≠ some va) :
    Calls Tryz.prog 88 #[v, .int .i64 i, .slice (some ⟨va, 0, none⟩) 1 1] w fun e w' => ∃ v', e = .returned v' ∧ w'.ownsRow 0 83 2 v' (n + 1) (xs.take (i * 2) ++ (ns ++ xs.drop (i * 2))) ∧ Rw v v' w w' := by
  have hxl : xs.length = n * 2 := hown.1
  by_cases hin : i = n
  · subst hin
    rw [List.take_of_length_le (by omega), List.drop_of_length_le (by omega), List.append_nil]
    exact insC_N i v xs ns va w hn hown hv hns hon
  · obtain ⟨g, c, cur, rfl, hg, hnc, hc, hl, ht⟩ := row_open hown (by omega)
    have hgv : g ≠ va := fun e => hne (by rw [e]; rfl)
    have e1 : cur.take (i * 2) = xs.take (i * 2) := by rw [← ht, List.take_take, Nat.min_eq_left (by omega)]
    have e2 : (cur.drop (i * 2)).take ((n - i) * 2) = xs.drop (i * 2) := by
      rw [← ht, List.drop_take]
      congr 1
      omega
    have hcl : ((cur.drop (i * 2)).take ((n - i) * 2)).length = (n - i) * 2 := by rw [e2, List.length_drop, hxl]; omega
    have hlen : (xs.take (i * 2) ++ (ns ++ xs.drop (i * 2))).length = (n + 1) * 2 := by
      rw [List.length_append, List.length_append, List.length_take, List.length_drop, hns, hxl]; omega
    by_cases hroom : n + 1 ≤ c
    · refine (insA_N g n c i (i + 1) (n + 1) cur ns va w rfl rfl (by omega) (by omega) (by omega) hroom hc hn hl hns hgv hg hv (by rw [ht]; exact h1) hon).mono ?_
      rintro e w' ⟨rfl, h2, h3⟩
      refine ⟨_, rfl, row_shut h2.out hroom hc (by rw [length_splice _ _ _ (by rw [length_splice _ _ _ (by rw [hcl, hl]; omega), hl, hns]; omega), length_splice _ _ _ (by rw [hcl, hl]; omega)]; exact hl) hlen ?_, h3.out, .inl rfl⟩
      have h := splice_in2 (cur := cur) (ns := ns) (cs := (cur.drop (i * 2)).take ((n - i) * 2)) (a := i * 2) (b := (i + 1) * 2) (by rw [hns]; omega) (by rw [hcl, hl]; omega)
      rw [hcl, show (i + 1) * 2 + (n - i) * 2 = (n + 1) * 2 by omega] at h
      rw [h, e1, e2]
    · obtain rfl : c = n := by omega
      refine (insB_N g c i (i + 1) (c + 1) cur ns va w rfl rfl (by omega) (by omega) (by omega) hn hl hns hgv hg hv (by rw [ht]; exact h1) hon).mono ?_
      rintro e w' ⟨c', r, rfl, h2, h3, h4, h5, h6, h7⟩
      refine ⟨_, rfl, row_shut h6 h2 h3 h4 hlen (by rw [h5, e1, e2]), Ext.grown h7 _, .inr (fun k hk => ?_)⟩
      have : w.heap.size = k := by simpa [Value.ownBlock] using hk
      omega
theorem insB_K (g n i j t : Nat) (cur ns : List Value) (va : Nat) (w : World) (hj : Hid (j = i + 1)) (ht : Hid (t = n + 1)) (hin : i < n) (hjt : j < t) (hnt : n < t) (hc : n ≤ 1000000) (hcur : cur.length = n * 1) (hns : Hid (ns.length = 1 * 1)) (hne : g ≠ va)
    (hg : Hid (w.heap[g]? = some (.cells cur.toArray 51 (0, 0)))) (hv : Hid (w.heap[va]? = some (.cells ns.toArray 51 (0, 0)))) (ho : Hid (∀ v ∈ cur.take (n * 1), v.oneCell' = true)) (hon : Hid (∀ v ∈ ns, v.oneCell' = true)) :
    Calls Tryz.prog 91 #[.slice (some ⟨g, 0, none⟩) n n, .int .i64 i, .slice (some ⟨va, 0, none⟩) 1 1] w fun e w' => ∃ (c' : Nat) (r : List Value), e = .returned (.slice (some ⟨w.heap.size, 0, none⟩) t c') ∧ t ≤ c' ∧ c' ≤ maxLen ∧ r.length = c' * 1 ∧ r.take (t * 1) = cur.take (i * 1) ++ (ns ++ (cur.drop (i * 1)).take ((n - i) * 1)) ∧ w'.heap[w.heap.size]? = some (.cells r.toArray 51 (0, 0)) ∧ Ext w w' := by
  have q1 : ((i : Int) == (n : Int)) = false := by rw [beq_eq_false_iff_ne]; omega
  have q3 : IntKind.i64.wrap ((n : Int) + 1) = t := by rw [IntWalk.i64_in _ (by omega), ht.out]; omega
  have q4 : IntKind.i64.wrap ((i : Int) + 1) = j := by rw [IntWalk.i64_in _ (by omega), hj.out]; omega
  have q5 : ((n : Int) + 1) = t := by rw [ht.out]; omega
  have q6 : ((i : Int) + 1) = j := by rw [hj.out]; omega
  have q7 : IntKind.i64.wrap ((t : Int) - (i : Int)) = ((t - i : Nat) : Int) := by have := ht.out; rw [IntWalk.i64_in _ (by omega)]; omega
  have hin2 : i ≤ n := by omega
  obtain ⟨c', r, hap, hc1, hc2, hr1, hr2⟩ := azero_K w g n i (t - i) cur hg hcur hin2 (by omega) (by omega) (by have := ht.out; omega)
  rw [show i + (t - i) = t by omega] at hap hc1
  have hxa : Hid (Ext w (w.drew.alloc (.cells r.toArray 51))) := ((Ext.refl w).drew_right).alloc_right _
  have hga : Hid ((w.drew.alloc (.cells r.toArray 51)).heap[w.heap.size]? = some (.cells r.toArray 51 (0, 0))) := heap_alloc_new w.drew _
  have hgb : Hid ((w.drew.alloc (.cells r.toArray 51)).heap[g]? = some (.cells cur.toArray 51 (0, 0))) := (hxa.out.block (Array.getElem?_eq_some_iff.1 hg.out).1).trans hg.out
  have hva : Hid ((w.drew.alloc (.cells r.toArray 51)).heap[va]? = some (.cells ns.toArray 51 (0, 0))) := (hxa.out.block (Array.getElem?_eq_some_iff.1 hv.out).1).trans hv.out
  have hgl : Hid (g < w.heap.size ∧ va < w.heap.size) := ⟨(Array.getElem?_eq_some_iff.1 hg.out).1, (Array.getElem?_eq_some_iff.1 hv.out).1⟩
  have hcb : c' ≤ 9223372036854775807 := hc2
  have hq0 : ¬ c' = i := by omega
  have hq9 : ¬ c' = j := by omega
  have hni : ¬ n = i := by omega
  have hit : i ≤ t := by omega
  have hjt2 : j ≤ t := by omega
  go_enter Tryz.func91, Tryz.ntmps91
  go_wp2_with (at_builtin; refine Lib.wpList_append_run _ rfl _ _ _ _ rfl _ _ rfl rfl _ _ hap ?_; clear hap; generalize w.drew.alloc (.cells r.toArray 51) = w2 at *)
  have hgl2 := hgl.out
  generalize hGe : w.heap.size = G at *
  replace hGe := hid hGe
  clear hgl hg hv
  have hsrc : ∀ k v, ns[k]? = some v → w2.cell? ((⟨va, 0, none⟩ : Addr).add k) = some v := fun k v h => row_cell hva.out 0 k (by rw [Nat.zero_add]; exact h)
  have hfit : i * 1 + ns.length ≤ r.length := by rw [hr1, hns.out]; have := hj.out; have := ht.out; omega
  have hmn : Hid (Nat.min 1 (t - i) = 1) := Nat.min_eq_left (by omega)
  have hmn2 : Hid (Nat.min (n - i) (t - j) = n - i) := Nat.min_eq_left (by have := hj.out; have := ht.out; omega)
  obtain ⟨w3, hcp, hg3, hr3⟩ := ex_copy_k (P := Tryz.prog) w2 53 53 3 51 1 G (i * 1) (t - i) (c' - i) ⟨va, 0, none⟩ 1 1 r _ ns Tryz.underlying53 (by kernel_rfl) hga 1 hmn hns hsrc hfit hon.out
  have hl3 : Hid ((splice r (i * 1) ns).length = c' * 1) := by unfold Hid; rw [length_splice _ _ _ hfit]; exact hr1
  have hgb3 : Hid (w3.drew.heap[g]? = some (.cells cur.toArray 51 (0, 0))) := (hr3.out.block g (Array.getElem?_eq_some_iff.1 hgb.out).1 (fun e => by have := Option.some.inj e; omega)).trans hgb.out
  have hg3d : Hid (w3.drew.heap[G]? = some (.cells (splice r (i * 1) ns).toArray 51 (0, 0))) := hg3.out
  have hx3 : Hid (Ext w w3.drew) := ⟨hr3.out.os.trans hxa.out.os, hr3.out.tape.trans hxa.out.tape, hr3.out.output.trans hxa.out.output, Nat.le_trans hxa.out.size hr3.out.size, fun k hk => (hr3.out.block k (Nat.lt_of_lt_of_le hk hxa.out.size) (fun e => by have := Option.some.inj e; rw [hGe.out] at hk; omega)).trans (hxa.out.block hk)⟩
  clear hsrc hfit hr3 hg3 hga hgb hva hxa
  have hsrc := hid (seg_src hgb3.out (i * 1) ((n - i) * 1))
  have hone := hid (one_seg ho.out (i * 1) ((n - i) * 1) (by omega))
  have hcl : Hid (((cur.drop (i * 1)).take ((n - i) * 1)).length = (n - i) * 1) := by unfold Hid; rw [List.length_take, List.length_drop, hcur]; apply Nat.min_eq_left; omega
  generalize hq1 : (cur.drop (i * 1)).take ((n - i) * 1) = cs at *
  replace hq1 := hid hq1
  have hfit : j * 1 + cs.length ≤ (splice r (i * 1) ns).length := by rw [hl3.out, hcl.out]; have := hj.out; have := ht.out; omega
  obtain ⟨w4, hcp2, hg4, hr4⟩ := ex_copy_k (P := Tryz.prog) w3.drew 53 53 3 51 1 G (j * 1) (t - j) (c' - j) ⟨g, i * 1, none⟩ (n - i) (n - i) (splice r (i * 1) ns) _ cs Tryz.underlying53 (by kernel_rfl) hg3d (n - i) hmn2 hcl hsrc.out hfit hone.out
  have hl4 : Hid ((splice (splice r (i * 1) ns) (j * 1) cs).length = c' * 1) := by unfold Hid; rw [length_splice _ _ _ hfit]; exact hl3.out
  have hx4 : Hid (Ext w w4) := ⟨hr4.out.os.trans hx3.out.os, hr4.out.tape.trans hx3.out.tape, hr4.out.output.trans hx3.out.output, Nat.le_trans hx3.out.size hr4.out.size, fun k hk => (hr4.out.block k (Nat.lt_of_lt_of_le hk hx3.out.size) (fun e => by have := Option.some.inj e; rw [hGe.out] at hk; omega)).trans (hx3.out.block hk)⟩
  have hfin : Hid ((splice (splice r (i * 1) ns) (j * 1) cs).take (t * 1) = cur.take (i * 1) ++ (ns ++ cs)) := by
    have h := splice_out2 (r := r) (ns := ns) (cs := cs) (a := i * 1) (b := j * 1) (by have := hj.out; rw [hns.out]; omega) (by rw [hr1, hcl.out]; have := hj.out; have := ht.out; omega)
    rw [hr2, hcl.out, show j * 1 + (n - i) * 1 = t * 1 by have := hj.out; have := ht.out; omega] at h
    exact h
  generalize splice (splice r (i * 1) ns) (j * 1) cs = r4 at *
  clear hsrc hone hfit hr4 hg3d hgb3 hx3
  try simp only [Nat.mul_one] at hcp
  try simp only [Nat.mul_one] at hcp2
  rw [hcp]
  clear hcp
  go_upto_region 11 with fail
  go_region
  go_wp2_with fail
  go_ret
  rw [hGe.out]
  exact ⟨c', r4, rfl, hc1, hc2, hl4.out, by rw [hq1.out]; exact hfin.out, hg4.out, hx4.out⟩
theorem insC_K (n : Nat) (v : Value) (xs ns : List Value) (va : Nat) (w : World) (hn : n ≤ 1000000) (hown : w.ownsRow 0 51 1 v n xs) (hv : w.heap[va]? = some (.cells ns.toArray 51 (0, 0))) (hns : ns.length = 1 * 1) (hon : ∀ v ∈ ns, v.oneCell' = true) :
    Calls Tryz.prog 91 #[v, .int .i64 n, .slice (some ⟨va, 0, none⟩) 1 1] w fun e w' => ∃ v', e = .returned v' ∧ w'.ownsRow 0 51 1 v' (n + 1) (xs ++ ns) ∧ Rw v v' w w' := by
  obtain ⟨i0, hi0, hz0, hz1, hz2⟩ := info_parts infoK
  obtain ⟨A, c, rfl, hr⟩ := own_rd hown
  have hmx := Rd.max hr
  have hnews : Hid (∀ j u, ns[j]? = some u → w.cell? ((⟨va, 0, none⟩ : Addr).add j) = some u) := fun k v h => row_cell hv 0 k (by rw [Nat.zero_add]; exact h)
  replace hns := hid hns
  replace hon := hid hon
  clear hr hv
  generalize hG : w.heap.size = G at *
  replace hG := hid hG
  rcases A with _ | ad
  · obtain ⟨rfl, rfl, rfl⟩ := own_none hown
    replace hown := hid hown
    go_enter Tryz.func91, Tryz.ntmps91
    go_wp2_with (at_builtin; refine wpList_append_lies _ rfl _ _ 53 rfl 0 51 i0 _ 1 8 Tryz.underlying53 hi0 hz0 hz1 hz2 rfl (by decide) _ _ _ rfl hown.out ⟨va, 0, none⟩ 1 1 ns rfl hns.out hnews.out hon.out (by decide) (by unfold maxLen; omega) (by omega) (Nat.zero_le _) G hG.out ?_)
    intro g' cap w1 own1 hg1 hat _
    have hrw : Hid (Rw (.slice none 0 0) (.slice (some ⟨g', 0, none⟩) (0 + 1) cap) w w1) := by
      refine ⟨hg1, ?_⟩
      rcases hat with h | h
      · left; rw [h]; rfl
      · right; intro k hk; have : g' = k := by simpa [Value.ownBlock] using hk
        have := hG.out; omega
    replace own1 := hid own1
    clear hg1 hat
    go_wp2
    go_ret
    exact ⟨_, rfl, own1.out, hrw.out⟩
  · replace hown := hid hown
    by_cases hcn : c = n
    · subst hcn
      go_enter Tryz.func91, Tryz.ntmps91
      go_wp2_with (at_builtin; refine wpList_append_lies _ rfl _ _ 53 rfl 0 51 i0 _ 1 8 Tryz.underlying53 hi0 hz0 hz1 hz2 rfl (by decide) _ _ _ rfl hown.out ⟨va, 0, none⟩ 1 1 ns rfl hns.out hnews.out hon.out (by decide) (by unfold maxLen; omega) (by omega) (Nat.zero_le _) G hG.out ?_)
      intro g' cap w1 own1 hg1 hat _
      have hrw : Hid (Rw (.slice (some ad) c c) (.slice (some ⟨g', 0, none⟩) (c + 1) cap) w w1) := by
        refine ⟨hg1, ?_⟩
        rcases hat with h | h
        · left; rw [h]; rfl
        · right; intro k hk; have : g' = k := by simpa [Value.ownBlock] using hk
          have := hG.out; omega
      replace own1 := hid own1
      clear hg1 hat
      go_wp2
      go_ret
      exact ⟨_, rfl, own1.out, hrw.out⟩
    · go_enter Tryz.func91, Tryz.ntmps91
      go_wp2_with (at_builtin; refine wpList_append_lies _ rfl _ _ 53 rfl 0 51 i0 _ 1 8 Tryz.underlying53 hi0 hz0 hz1 hz2 rfl (by decide) _ _ _ rfl hown.out ⟨va, 0, none⟩ 1 1 ns rfl hns.out hnews.out hon.out (by decide) (by unfold maxLen; omega) (by omega) (Nat.zero_le _) G hG.out ?_)
      intro g' cap w1 own1 hg1 hat _
      have hrw : Hid (Rw (.slice (some ad) n c) (.slice (some ⟨g', 0, none⟩) (n + 1) cap) w w1) := by
        refine ⟨hg1, ?_⟩
        rcases hat with h | h
        · left; rw [h]; rfl
        · right; intro k hk; have : g' = k := by simpa [Value.ownBlock] using hk
          have := hG.out; omega
      replace own1 := hid own1
      clear hg1 hat
      go_wp2
      go_ret
      exact ⟨_, rfl, own1.out, hrw.out⟩
theorem ins_K (n i : Nat) (v : Value) (xs ns : List Value) (va : Nat) (w : World) (hi : i ≤ n) (hn : n ≤ 1000000) (hown : w.ownsRow 0 51 1 v n xs) (h1 : ∀ u ∈ xs, u.oneCell' = true) (hv : w.heap[va]? = some (.cells ns.toArray 51 (0, 0))) (hns : ns.length = 1 * 1) (hon : ∀ v ∈ ns, v.oneCell' = true) (hne : v.ownBlock ≠ some va) :
    Calls Tryz.prog 91 #[v, .int .i64 i, .slice (some ⟨va, 0, none⟩) 1 1] w fun e w' => ∃ v', e = .returned v' ∧ w'.ownsRow 0 51 1 v' (n + 1) (xs.take (i * 1) ++ (ns ++ xs.drop (i * 1))) ∧ Rw v v' w w' := by
  have hxl : xs.length = n * 1 := hown.1
  by_cases hin : i = n
  · subst hin
    rw [List.take_of_length_le (by omega), List.drop_of_length_le (by omega), List.append_nil]
    exact insC_K i v xs ns va w hn hown hv hns hon
  · obtain ⟨g, c, cur, rfl, hg, hnc, hc, hl, ht⟩ := row_open hown (by omega)
    have hgv : g ≠ va := fun e => hne (by rw [e]; rfl)
    have e1 : cur.take (i * 1) = xs.take (i * 1) := by rw [← ht, List.take_take, Nat.min_eq_left (by omega)]
    have e2 : (cur.drop (i * 1)).take ((n - i) * 1) = xs.drop (i * 1) := by
      rw [← ht, List.drop_take]
      congr 1
      omega
    have hcl : ((cur.drop (i * 1)).take ((n - i) * 1)).length = (n - i) * 1 := by rw [e2, List.length_drop, hxl]; omega
    have hlen : (xs.take (i * 1) ++ (ns ++ xs.drop (i * 1))).length = (n + 1) * 1 := by
      rw [List.length_append, List.length_append, List.length_take, List.length_drop, hns, hxl]; omega
    by_cases hroom : n + 1 ≤ c
    · refine (insA_K g n c i (i + 1) (n + 1) cur ns va w rfl rfl (by omega) (by omega) (by omega) hroom hc hn hl hns hgv hg hv (by rw [ht]; exact h1) hon).mono ?_
      rintro e w' ⟨rfl, h2, h3⟩
      refine ⟨_, rfl, row_shut h2.out hroom hc (by rw [length_splice _ _ _ (by rw [length_splice _ _ _ (by rw [hcl, hl]; omega), hl, hns]; omega), length_splice _ _ _ (by rw [hcl, hl]; omega)]; exact hl) hlen ?_, h3.out, .inl rfl⟩
      have h := splice_in2 (cur := cur) (ns := ns) (cs := (cur.drop (i * 1)).take ((n - i) * 1)) (a := i * 1) (b := (i + 1) * 1) (by rw [hns]; omega) (by rw [hcl, hl]; omega)
      rw [hcl, show (i + 1) * 1 + (n - i) * 1 = (n + 1) * 1 by omega] at h
      rw [h, e1, e2]
    · obtain rfl : c = n := by omega
      refine (insB_K g c i (i + 1) (c + 1) cur ns va w rfl rfl (by omega) (by omega) (by omega) hn hl hns hgv hg hv (by rw [ht]; exact h1) hon).mono ?_
      rintro e w' ⟨c', r, rfl, h2, h3, h4, h5, h6, h7⟩
      refine ⟨_, rfl, row_shut h6 h2 h3 h4 hlen (by rw [h5, e1, e2]), Ext.grown h7 _, .inr (fun k hk => ?_)⟩
      have : w.heap.size = k := by simpa [Value.ownBlock] using hk
      omega
open Go.RowKit Go.Shelf
theorem clone_N (A : Option Addr) (n c : Nat) (xs : List Value) (w : World) (hn : n ≤ 1000000) (hr : Rd w 2 A n c xs) (h1 : ∀ u ∈ xs, u.oneCell' = true) :
    Calls Tryz.prog 89 #[.slice A n c] w fun e w' => ∃ v', e = .returned v' ∧ w'.ownsRow w.heap.size 83 2 v' n xs ∧ Ext w w' := by
  obtain ⟨i0, hi, hz0, hz1, hz2⟩ := info_parts infoN
  have hnil := fun w => Lib.run_eql_slice_nil (P := Tryz.prog) w 52 83 A n c 0 0 Tryz.underlying52
  rcases A with _ | ad
  · have h0 : n = 0 := by
      rcases Nat.eq_zero_or_pos n with h | h
      · exact h
      · obtain ⟨_, e, _⟩ := hr.2.2.2 h; cases e
    subst h0
    have hx : xs = [] := List.eq_nil_of_length_eq_zero (by have := hr.1; omega)
    subst hx
    clear hr hn
    go_enter Tryz.func89, Tryz.ntmps89
    go_wp2
    go_ret
    exact ⟨_, rfl, World.ownsRow_nil _ _ _ _, Ext.refl _⟩
  · have Ho : Hid ((w.alloc (.cells #[] 83)).ownsRow w.heap.size 83 2 (.slice (some ⟨w.heap.size, 0, none⟩) 0 0) 0 []) := World.ownsRow_lit w #[] 0 (Nat.le_refl _) (by decide) rfl
    replace h1 := hid h1
    go_enter Tryz.func89, Tryz.ntmps89
    go_wp2_with (at_builtin; refine wpList_appendAny _ rfl _ _ 52 rfl w.heap.size 83 i0 _ 2 24 Tryz.underlying52 hi hz0 hz1 hz2 rfl (by decide) _ _ _ rfl Ho.out _ _ _ _ rfl (hr.alloc _) h1.out (by unfold maxLen; omega) (by omega) (by simp) ?_)
    intro v' w1 own1 hg1
    have hb1 : Hid (Ext w w1) := Below.grown ((Below.refl _ _).alloc (Nat.le_refl _) _) hg1 (by simp) (fun k hk => by simp [Value.ownBlock] at hk; omega)
    clear hg1
    try simp only [List.nil_append, Nat.zero_add] at own1
    replace own1 := hid own1
    go_wp2
    go_ret
    exact ⟨_, rfl, own1.out, hb1.out⟩
theorem clone_K (A : Option Addr) (n c : Nat) (xs : List Value) (w : World) (hn : n ≤ 1000000) (hr : Rd w 1 A n c xs) (h1 : ∀ u ∈ xs, u.oneCell' = true) :
    Calls Tryz.prog 90 #[.slice A n c] w fun e w' => ∃ v', e = .returned v' ∧ w'.ownsRow w.heap.size 51 1 v' n xs ∧ Ext w w' := by
  obtain ⟨i0, hi, hz0, hz1, hz2⟩ := info_parts infoK
  have hnil := fun w => Lib.run_eql_slice_nil (P := Tryz.prog) w 53 51 A n c 0 0 Tryz.underlying53
  rcases A with _ | ad
  · have h0 : n = 0 := by
      rcases Nat.eq_zero_or_pos n with h | h
      · exact h
      · obtain ⟨_, e, _⟩ := hr.2.2.2 h; cases e
    subst h0
    have hx : xs = [] := List.eq_nil_of_length_eq_zero (by have := hr.1; omega)
    subst hx
    clear hr hn
    go_enter Tryz.func90, Tryz.ntmps90
    go_wp2
    go_ret
    exact ⟨_, rfl, World.ownsRow_nil _ _ _ _, Ext.refl _⟩
  · have Ho : Hid ((w.alloc (.cells #[] 51)).ownsRow w.heap.size 51 1 (.slice (some ⟨w.heap.size, 0, none⟩) 0 0) 0 []) := World.ownsRow_lit w #[] 0 (Nat.le_refl _) (by decide) rfl
    replace h1 := hid h1
    go_enter Tryz.func90, Tryz.ntmps90
    go_wp2_with (at_builtin; refine wpList_appendAny _ rfl _ _ 53 rfl w.heap.size 51 i0 _ 1 8 Tryz.underlying53 hi hz0 hz1 hz2 rfl (by decide) _ _ _ rfl Ho.out _ _ _ _ rfl (hr.alloc _) h1.out (by unfold maxLen; omega) (by omega) (by simp) ?_)
    intro v' w1 own1 hg1
    have hb1 : Hid (Ext w w1) := Below.grown ((Below.refl _ _).alloc (Nat.le_refl _) _) hg1 (by simp) (fun k hk => by simp [Value.ownBlock] at hk; omega)
    clear hg1
    try simp only [List.nil_append, Nat.zero_add] at own1
    replace own1 := hid own1
    go_wp2
    go_ret
    exact ⟨_, rfl, own1.out, hb1.out⟩
end Go.Proofs.YtpijfiaecicpfaaGreat
