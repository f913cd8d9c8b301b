/-
  Binary search among entries; place.
-/
import Derived.Test.YtpijfiaecicpfaaB1
namespace Go.Proofs.Ytpijfiaecicpfaa
open Go.RowKit Go.Shelf
set_option linter.unusedVariables false
set_option linter.unusedSimpArgs false
def tcells (x : Te) : List Value := [.string x.key, .int .i64 x.no]
def tents : List Te → List Value
  | [] => []
  | x :: l => tcells x ++ tents l
theorem tents_len : ∀ l : List Te, (tents l).length = l.length * 2
  | [] => rfl
  | x :: l => by rw [tents, List.length_append, tents_len l, List.length_cons]; simp [tcells]; omega
theorem tents_append : ∀ a b : List Te, tents (a ++ b) = tents a ++ tents b
  | [], b => rfl
  | x :: a, b => by rw [List.cons_append, tents, tents, tents_append a b, List.append_assoc]
theorem tents_at : ∀ (l : List Te) (k : Nat) (h : k < l.length) (j : Nat), j < 2 → (tents l)[k * 2 + j]? = (tcells l[k])[j]?
  | x :: l, 0, h, j, hj => by
    rw [tents, List.getElem?_append_left (by simp [tcells]; omega)]
    simp
  | x :: l, k + 1, h, j, hj => by
    have := tents_at l k (by simpa using h) j hj
    rw [tents, List.getElem?_append_right (by simp [tcells]; omega), List.getElem_cons_succ, ← this]
    congr 1
    simp [tcells]
    omega
theorem tents_one : ∀ (l : List Te), ∀ u ∈ tents l, u.oneCell' = true
  | [], u, h => by cases h
  | x :: l, u, h => by
    rcases List.mem_append.1 h with h | h
    · rcases List.mem_cons.1 h with rfl | h
      · rfl
      · rcases List.mem_cons.1 h with rfl | h
        · rfl
        · cases h
    · exact tents_one l u h
def tth (l : List Te) (k : Nat) : Te := l.getD k ⟨⟨#[]⟩, 0⟩
theorem tth_get {l : List Te} {k : Nat} (h : k < l.length) : tth l k = l[k] := by simp [tth, List.getD, h]
/-- A slice of entries. -/
def RdN (w : World) (A : Option Addr) (n c : Nat) (l : List Te) : Prop := Rd w 2 A n c (tents l)
theorem RdN.len {w : World} {A : Option Addr} {n c : Nat} {l : List Te} (h : RdN w A n c l) : l.length = n := by have := h.1; rw [tents_len] at this; omega
theorem RdN.ext {w w' : World} {A : Option Addr} {n c : Nat} {l : List Te} (h : RdN w A n c l) (hb : Ext w w') : RdN w' A n c l := Rd.ext h hb
theorem RdN.at_ {w : World} {A : Option Addr} {n c : Nat} {l : List Te} (h : RdN w A n c l) {k : Nat} (hk : k < n) : ∃ ad, A = some ad ∧ w.cell? (ad.add (k * 2)) = some (.string (tth l k).key) ∧ w.cell? ⟨(ad.add (k * 2)).block, (ad.add (k * 2)).off + 1, none⟩ = some (.int .i64 (tth l k).no) := by
  obtain ⟨ad, hA, hc⟩ := h.2.2.2 (by omega)
  have hl : k < l.length := by rw [h.len]; exact hk
  rw [tth_get hl]
  refine ⟨ad, hA, ?_, ?_⟩
  · exact hc (k * 2 + 0) _ (by rw [tents_at l k hl 0 (by decide)]; rfl)
  · exact cell_fk (hc (k * 2 + 1) _ (by rw [tents_at l k hl 1 (by decide)]; rfl)) (by decide)
/-- The rank is where the test turns. -/
theorem rank_is {l : List Te} {e : Te} {k : Nat} (hk : k ≤ l.length) (h1 : ∀ t, t < k → cmpT (tth l t) e < 0) (h2 : ∀ t, k ≤ t → t < l.length → ¬ cmpT (tth l t) e < 0) : rankT l e = k := by
  unfold rankT
  conv => lhs; rw [← List.take_append_drop k l]
  rw [List.countP_append]
  have e1 : (l.take k).countP (fun x => decide (cmpT x e < 0)) = (l.take k).length := by
    rw [List.countP_eq_length]
    intro x hx
    obtain ⟨i, hi, rfl⟩ := List.getElem_of_mem hx
    rw [List.length_take] at hi
    rw [List.getElem_take]
    have := h1 i (by omega)
    rw [tth_get (by omega)] at this
    simpa using this
  have e2 : (l.drop k).countP (fun x => decide (cmpT x e < 0)) = 0 := by
    rw [List.countP_eq_zero]
    intro x hx
    obtain ⟨i, hi, rfl⟩ := List.getElem_of_mem hx
    rw [List.length_drop] at hi
    rw [List.getElem_drop]
    have := h2 (k + i) (by omega) (by omega)
    rw [tth_get (by omega)] at this
    simpa using this
  rw [e1, e2, List.length_take]
  omega
theorem srt_nth {l : List Te} (h : Srt l) {i j : Nat} (hij : i < j) (hj : j < l.length) : cmpT (tth l i) (tth l j) < 0 := by
  rw [tth_get (by omega), tth_get hj]
  exact List.pairwise_iff_getElem.1 h i j (by omega) hj hij
theorem mem_at {l : List Te} (h : Srt l) (e : Te) : memT l e = (decide (rankT l e < l.length) && (cmpT (tth l (rankT l e)) e == 0)) := by
  obtain ⟨r1, r2, r3⟩ := rank_cut h e
  by_cases hr : rankT l e < l.length
  · rw [decide_eq_true hr, Bool.true_and]
    have hd := List.drop_eq_getElem_cons hr
    have hl : l = l.take (rankT l e) ++ l[rankT l e] :: l.drop (rankT l e + 1) := list_cut hr
    conv => lhs; rw [hl]
    rw [memT_app, memT_lt r2, Bool.false_or, tth_get hr]
    unfold memT
    rw [List.any_cons]
    by_cases q : cmpT l[rankT l e] e = 0
    · rw [beq_iff_eq.2 q, Bool.true_or]
    · rw [beq_eq_false_iff_ne.2 q, Bool.false_or]
      have h4 := r3 l[rankT l e] (by rw [hd]; exact List.mem_cons_self)
      have h5 : cmpT e l[rankT l e] < 0 := by rw [cmpT_anti]; omega
      rw [hl] at h
      obtain ⟨_, s2, _⟩ := srt_app.1 h
      exact memT_gt (fun x hx => cmpT_trans h5 ((srt_cons.1 s2).1 x hx))
  · rw [decide_eq_false hr, Bool.false_and]
    have : l.take (rankT l e) = l := List.take_of_length_le (by omega)
    rw [this] at r2
    exact memT_lt r2
set_option maxRecDepth 100000 in
set_option maxHeartbeats 4000000 in
theorem bsearch_any (A : Option Addr) (n c : Nat) (l : List Te) (e : Te) (w : World) (hl : RdN w A n c l) (hS : Srt l) (hn : n ≤ 1000000) : Calls Try.prog 118 #[.slice A n c, .agg #[.string e.key, .int .i64 e.no], .func (.func 40) #[] #[]] w (Give (.tuple #[.int .i64 (rankT l e), .bool (memT l e)]) w) := by
  have hmx := Rd.max hl
  have hlen := hl.len
  have hma := hid (mem_at hS e)
  have ha := heap_alloc_new w (.cells #[.string e.key, .int .i64 e.no] 71)
  have hxa := hid ((Ext.refl w).alloc_right (.cells #[.string e.key, .int .i64 e.no] 71))
  have z0 : (w.alloc (.cells #[.string e.key, .int .i64 e.no] 71)).cell? ⟨w.heap.size, 0, none⟩ = some (.string e.key) := by rw [Lib.cell_of_heap ha]; rfl
  have z1 : (w.alloc (.cells #[.string e.key, .int .i64 e.no] 71)).cell? ⟨w.heap.size, 1, none⟩ = some (.int .i64 e.no) := by rw [Lib.cell_of_heap ha]; rfl
  have en : ∀ (a b : Value) (w : World), (callFunc 40 #[a, b]).run Try.prog w = .ok (.enter 40 #[a, b]) w := fun a b w => by kernel_rfl
  have hlo := hid (fun t k (h1 : t < k) (h2 : k < l.length) (h : cmpT (tth l k) e < 0) => cmpT_trans (srt_nth hS h1 h2) h)
  have hri := hid (fun k h0 h1 h2 => rank_is (l := l) (e := e) (k := k) h0 h1 h2)
  replace hl := hid (hl.ext hxa.out)
  clear ha hS
  go_enter Try.func118, Try.ntmps118
  go_upto_region 1 with fail
  generalize w.alloc (.cells #[.string e.key, .int .i64 e.no] 71) = w1 at *
  generalize w.heap.size = p at *
  go_wp2_with fail
  go_loopw [9, 10] (fun i j wr => ∃ lo hi : Nat, i = .int .i64 lo ∧ j = .int .i64 hi ∧ lo ≤ hi ∧ hi ≤ n ∧ Hid (∀ t, t < lo → cmpT (tth l t) e < 0) ∧ Hid (∀ t, hi ≤ t → t < l.length → ¬ cmpT (tth l t) e < 0) ∧ Hid (Ext w1 wr)) (fun i j _ => (intOf j).toNat - (intOf i).toNat)
  case atStart => exact ⟨0, n, rfl, rfl, by omega, by omega, fun t h => by omega, fun t h h2 => by omega, Ext.refl _⟩
  case round =>
    obtain ⟨lo, hi, rfl, rfl, hle, hhi, hA, hB, hx⟩ := hrel
    by_cases hlt : lo < hi
    · obtain ⟨md, hmd⟩ : ∃ md, md = (lo + hi) / 2 := ⟨_, rfl⟩
      have hm1 : lo ≤ md ∧ md < hi := by omega
      obtain ⟨ad, rfl, x0, x1⟩ := (hl.out.ext hx.out).at_ (k := md) (by omega)
      have y0 := hx.out.cell z0
      have y1 := hx.out.cell z1
      have hms : ((lo : Int) + (hi : Int)) / 2 = (md : Int) := by omega
      have hmn : (md : Int) < (n : Int) := by omega
      generalize hxx : tth l md = x at *
      replace hxx := hid hxx
      have I0 : (fun w' : World => w'.cell? (ad.add (md * 2)) = some (.string x.key) ∧ w'.cell? ⟨(ad.add (md * 2)).block, (ad.add (md * 2)).off + 1, none⟩ = some (.int .i64 x.no) ∧ w'.cell? ⟨p, 0, none⟩ = some (.string e.key) ∧ w'.cell? ⟨p, 1, none⟩ = some (.int .i64 e.no)) wr.drew := ⟨x0, x1, y0, y1⟩
      replace hmd := hid hmd
      have hloT : Hid (cmpT x e < 0 → ∀ t, t < md + 1 → cmpT (tth l t) e < 0) := fun h t ht => by
        by_cases htm : t = md
        · subst htm; rw [hxx.out]; exact h
        · exact hlo.out t md (by omega) (by omega) (by rw [hxx.out]; exact h)
      have hhiT : Hid (¬ cmpT x e < 0 → ∀ t, md ≤ t → t < l.length → ¬ cmpT (tth l t) e < 0) := fun h t h1 h2 hc => by
        by_cases htm : t = md
        · subst htm; rw [hxx.out] at hc; exact h hc
        · exact h (by rw [← hxx.out]; exact hlo.out md t (by omega) h2 hc)
      go_upto_region 5 with fail
      refine region_J (fun w' : World => w'.cell? (ad.add (md * 2)) = some (.string x.key) ∧ w'.cell? ⟨(ad.add (md * 2)).block, (ad.add (md * 2)).off + 1, none⟩ = some (.int .i64 x.no) ∧ w'.cell? ⟨p, 0, none⟩ = some (.string e.key) ∧ w'.cell? ⟨p, 1, none⟩ = some (.int .i64 e.no)) 8 (by kernel_rfl) ?_
      refine J_takeO 0 (v := ?vc0) rfl (by kernel_rfl) (by kernel_rfl) (by kernel_rfl) (by kernel_rfl) (fun _ _ _ h => h) (Or.inl ⟨by rfl, ?yc0⟩) I0 ?rc0
      case yc0 => (intro w hSw; obtain ⟨_, _, _, _⟩ := hSw; (go_simp; with_reducible rfl))
      simp only [Act.put, List.getElem_toArray, List.getElem_cons_zero, List.getElem_cons_succ, List.setIfInBounds_toArray, List.set_cons_zero, List.set_cons_succ]
      refine J_takeO 1 (v := ?vc1) rfl (by kernel_rfl) (by kernel_rfl) (by kernel_rfl) (by kernel_rfl) (fun _ _ _ h => h) (Or.inl ⟨by rfl, ?yc1⟩) I0 ?rc1
      case yc1 => (intro w hSw; obtain ⟨_, _, _, _⟩ := hSw; (go_simp; with_reducible rfl))
      simp only [Act.put, List.getElem_toArray, List.getElem_cons_zero, List.getElem_cons_succ, List.setIfInBounds_toArray, List.set_cons_zero, List.set_cons_succ]
      refine J_takeO 2 (v := ?vc2) rfl (by kernel_rfl) (by kernel_rfl) (by kernel_rfl) (by kernel_rfl) (fun _ _ _ h => h) (Or.inl ⟨by rfl, ?yc2⟩) I0 ?rc2
      case yc2 => (intro w hSw; obtain ⟨_, _, _, _⟩ := hSw; (go_simp; with_reducible rfl))
      simp only [Act.put, List.getElem_toArray, List.getElem_cons_zero, List.getElem_cons_succ, List.setIfInBounds_toArray, List.set_cons_zero, List.set_cons_succ]
      refine J_takeO 3 (v := ?vc3) rfl (by kernel_rfl) (by kernel_rfl) (by kernel_rfl) (by kernel_rfl) (fun _ _ _ h => h) (Or.inl ⟨by rfl, ?yc3⟩) I0 ?rc3
      case yc3 => (intro w hSw; obtain ⟨_, _, _, _⟩ := hSw; (go_simp; with_reducible rfl))
      simp only [Act.put, List.getElem_toArray, List.getElem_cons_zero, List.getElem_cons_succ, List.setIfInBounds_toArray, List.set_cons_zero, List.set_cons_succ]
      refine J_takeO 4 (v := ?vc4) rfl (by kernel_rfl) (by kernel_rfl) (by kernel_rfl) (by kernel_rfl) (fun _ _ _ h => h) (Or.inl ⟨by rfl, ?yc4⟩) I0 ?rc4
      case yc4 => (intro w hSw; obtain ⟨_, _, _, _⟩ := hSw; (go_simp; with_reducible rfl))
      simp only [Act.put, List.getElem_toArray, List.getElem_cons_zero, List.getElem_cons_succ, List.setIfInBounds_toArray, List.set_cons_zero, List.set_cons_succ]
      refine J_takeO 5 (v := ?vc5) rfl (by kernel_rfl) (by kernel_rfl) (by kernel_rfl) (by kernel_rfl) (fun _ _ _ h => h) (Or.inl ⟨by rfl, ?yc5⟩) I0 ?rc5
      case yc5 => (intro w hSw; obtain ⟨_, _, _, _⟩ := hSw; (go_simp; with_reducible rfl))
      simp only [Act.put, List.getElem_toArray, List.getElem_cons_zero, List.getElem_cons_succ, List.setIfInBounds_toArray, List.set_cons_zero, List.set_cons_succ]
      refine J_one 6 rfl (by kernel_rfl) (fun K hK => ?_)
      go_simp
      refine (compare_any x e _).mono ?_
      rintro e' w5 ⟨rfl, hx5⟩
      have I5 : (fun w' : World => w'.cell? (ad.add (md * 2)) = some (.string x.key) ∧ w'.cell? ⟨(ad.add (md * 2)).block, (ad.add (md * 2)).off + 1, none⟩ = some (.int .i64 x.no) ∧ w'.cell? ⟨p, 0, none⟩ = some (.string e.key) ∧ w'.cell? ⟨p, 1, none⟩ = some (.int .i64 e.no)) w5 := ⟨hx5.cell I0.1, hx5.cell I0.2.1, hx5.cell I0.2.2.1, hx5.cell I0.2.2.2⟩
      have hx6 := hid (hx.out.drew_right.trans hx5)
      clear hx5
      refine hK _ _ ⟨fun _ => I5, ?_⟩
      clear hK K
      try simp only [Act.put, List.getElem_toArray, List.getElem_cons_zero, List.getElem_cons_succ, List.setIfInBounds_toArray, List.set_cons_zero, List.set_cons_succ]
      refine J_one 7 rfl (by kernel_rfl) (fun K hK => ?_)
      go_simp
      refine hK _ _ ⟨fun _ => I5, ?_⟩
      clear hK K
      try simp only [Act.put, List.setIfInBounds_toArray, List.set_cons_zero, List.set_cons_succ]
      refine J_done (by kernel_rfl) (OnlyOn.normal ?_)
      generalize cmpT x e = z at *
      by_cases hz : z < 0
      · have hA2 := hid (hloT.out hz)
        have hB2 := hB
        clear hloT hhiT hA hB hxx I5 x0 x1 y0 y1 I0
        go_wp2_with fail
        go_roundw
        case rel => exact ⟨md + 1, hi, by go_num, rfl, by omega, by omega, hA2, hB2, hx6⟩
        case measure => simp [intOf]; omega
      · have hB2 := hid (hhiT.out hz)
        have hA2 := hA
        clear hloT hhiT hA hB hxx I5 x0 x1 y0 y1 I0
        go_wp2_with fail
        go_roundw
        case rel => exact ⟨lo, md, rfl, rfl, by omega, by omega, hA2, hB2, hx6⟩
        case measure => simp [intOf]; omega
    · obtain rfl : hi = lo := by omega
      have hr := hri.out hi (by omega) hA.out (fun t h1 h2 => by have h3 := hB.out t h1 h2; omega)
      have hnl : ¬ (hi : Int) < (hi : Int) := by omega
      rw [hr] at hma
      replace hr := hid hr
      clear hA hB hlo hri
      by_cases hin : hi < n
      · obtain ⟨ad, rfl, x0, x1⟩ := (hl.out.ext hx.out).at_ hin
        have y0 := hx.out.cell z0
        have y1 := hx.out.cell z1
        have hmn : (hi : Int) < (n : Int) := by omega
        have hd : decide (hi < l.length) = true := by simp; omega
        rw [hd, Bool.true_and] at hma
        clear hd
        generalize tth l hi = x at *
        have I0 : (fun w' : World => w'.cell? (ad.add (hi * 2)) = some (.string x.key) ∧ w'.cell? ⟨(ad.add (hi * 2)).block, (ad.add (hi * 2)).off + 1, none⟩ = some (.int .i64 x.no) ∧ w'.cell? ⟨p, 0, none⟩ = some (.string e.key) ∧ w'.cell? ⟨p, 1, none⟩ = some (.int .i64 e.no)) wr.drew := ⟨x0, x1, y0, y1⟩
        go_upto_region 8 with fail
        refine region_J (fun w' : World => w'.cell? (ad.add (hi * 2)) = some (.string x.key) ∧ w'.cell? ⟨(ad.add (hi * 2)).block, (ad.add (hi * 2)).off + 1, none⟩ = some (.int .i64 x.no) ∧ w'.cell? ⟨p, 0, none⟩ = some (.string e.key) ∧ w'.cell? ⟨p, 1, none⟩ = some (.int .i64 e.no)) 16 (by kernel_rfl) ?_
        refine J_takeO 0 (v := ?vd0) rfl (by kernel_rfl) (by kernel_rfl) (by kernel_rfl) (by kernel_rfl) (fun _ _ _ h => h) (Or.inl ⟨by rfl, ?yd0⟩) I0 ?rd0
        case yd0 => (intro w hSw; obtain ⟨_, _, _, _⟩ := hSw; (go_simp; with_reducible rfl))
        simp only [Act.put, List.getElem_toArray, List.getElem_cons_zero, List.getElem_cons_succ, List.setIfInBounds_toArray, List.set_cons_zero, List.set_cons_succ]
        refine J_takeO 1 (v := ?vd1) rfl (by kernel_rfl) (by kernel_rfl) (by kernel_rfl) (by kernel_rfl) (fun _ _ _ h => h) (Or.inl ⟨by rfl, ?yd1⟩) I0 ?rd1
        case yd1 => (intro w hSw; obtain ⟨_, _, _, _⟩ := hSw; (go_simp; with_reducible rfl))
        simp only [Act.put, List.getElem_toArray, List.getElem_cons_zero, List.getElem_cons_succ, List.setIfInBounds_toArray, List.set_cons_zero, List.set_cons_succ]
        refine J_takeO 2 (v := ?vd2) rfl (by kernel_rfl) (by kernel_rfl) (by kernel_rfl) (by kernel_rfl) (fun _ _ _ h => h) (Or.inl ⟨by rfl, ?yd2⟩) I0 ?rd2
        case yd2 => (intro w hSw; obtain ⟨_, _, _, _⟩ := hSw; (go_simp; with_reducible rfl))
        simp only [Act.put, List.getElem_toArray, List.getElem_cons_zero, List.getElem_cons_succ, List.setIfInBounds_toArray, List.set_cons_zero, List.set_cons_succ]
        refine J_one 3 rfl (by kernel_rfl) (fun K hK => ?_)
        go_simp
        refine hK _ _ ⟨fun _ => I0, ?_⟩
        clear hK K
        try simp only [Act.put, List.setIfInBounds_toArray, List.set_cons_zero, List.set_cons_succ]
        refine J_one 4 rfl (by kernel_rfl) (fun K hK => ?_)
        go_simp
        refine hK _ _ ⟨fun _ => I0, ?_⟩
        clear hK K
        try simp only [Act.put, List.setIfInBounds_toArray, List.set_cons_zero, List.set_cons_succ]
        refine J_takeO 5 (v := ?vd5) rfl (by kernel_rfl) (by kernel_rfl) (by kernel_rfl) (by kernel_rfl) (fun _ _ _ h => h) (Or.inl ⟨by rfl, ?yd5⟩) I0 ?rd5
        case yd5 => (intro w hSw; obtain ⟨_, _, _, _⟩ := hSw; (go_simp; with_reducible rfl))
        simp only [Act.put, List.getElem_toArray, List.getElem_cons_zero, List.getElem_cons_succ, List.setIfInBounds_toArray, List.set_cons_zero, List.set_cons_succ]
        refine J_takeO 6 (v := ?vd6) rfl (by kernel_rfl) (by kernel_rfl) (by kernel_rfl) (by kernel_rfl) (fun _ _ _ h => h) (Or.inl ⟨by rfl, ?yd6⟩) I0 ?rd6
        case yd6 => (intro w hSw; obtain ⟨_, _, _, _⟩ := hSw; (go_simp; with_reducible rfl))
        simp only [Act.put, List.getElem_toArray, List.getElem_cons_zero, List.getElem_cons_succ, List.setIfInBounds_toArray, List.set_cons_zero, List.set_cons_succ]
        refine J_takeO 7 (v := ?vd7) rfl (by kernel_rfl) (by kernel_rfl) (by kernel_rfl) (by kernel_rfl) (fun _ _ _ h => h) (Or.inl ⟨by rfl, ?yd7⟩) I0 ?rd7
        case yd7 => (intro w hSw; obtain ⟨_, _, _, _⟩ := hSw; (go_simp; with_reducible rfl))
        simp only [Act.put, List.getElem_toArray, List.getElem_cons_zero, List.getElem_cons_succ, List.setIfInBounds_toArray, List.set_cons_zero, List.set_cons_succ]
        refine J_takeO 8 (v := ?vd8) rfl (by kernel_rfl) (by kernel_rfl) (by kernel_rfl) (by kernel_rfl) (fun _ _ _ h => h) (Or.inl ⟨by rfl, ?yd8⟩) I0 ?rd8
        case yd8 => (intro w hSw; obtain ⟨_, _, _, _⟩ := hSw; (go_simp; with_reducible rfl))
        simp only [Act.put, List.getElem_toArray, List.getElem_cons_zero, List.getElem_cons_succ, List.setIfInBounds_toArray, List.set_cons_zero, List.set_cons_succ]
        refine J_takeO 9 (v := ?vd9) rfl (by kernel_rfl) (by kernel_rfl) (by kernel_rfl) (by kernel_rfl) (fun _ _ _ h => h) (Or.inl ⟨by rfl, ?yd9⟩) I0 ?rd9
        case yd9 => (intro w hSw; obtain ⟨_, _, _, _⟩ := hSw; (go_simp; with_reducible rfl))
        simp only [Act.put, List.getElem_toArray, List.getElem_cons_zero, List.getElem_cons_succ, List.setIfInBounds_toArray, List.set_cons_zero, List.set_cons_succ]
        refine J_takeO 10 (v := ?vd10) rfl (by kernel_rfl) (by kernel_rfl) (by kernel_rfl) (by kernel_rfl) (fun _ _ _ h => h) (Or.inl ⟨by rfl, ?yd10⟩) I0 ?rd10
        case yd10 => (intro w hSw; obtain ⟨_, _, _, _⟩ := hSw; (go_simp; with_reducible rfl))
        simp only [Act.put, List.getElem_toArray, List.getElem_cons_zero, List.getElem_cons_succ, List.setIfInBounds_toArray, List.set_cons_zero, List.set_cons_succ]
        refine J_one 11 rfl (by kernel_rfl) (fun K hK => ?_)
        go_simp
        refine (compare_any x e _).mono ?_
        rintro e' w5 ⟨rfl, hx5⟩
        have I5 : (fun w' : World => w'.cell? (ad.add (hi * 2)) = some (.string x.key) ∧ w'.cell? ⟨(ad.add (hi * 2)).block, (ad.add (hi * 2)).off + 1, none⟩ = some (.int .i64 x.no) ∧ w'.cell? ⟨p, 0, none⟩ = some (.string e.key) ∧ w'.cell? ⟨p, 1, none⟩ = some (.int .i64 e.no)) w5 := ⟨hx5.cell I0.1, hx5.cell I0.2.1, hx5.cell I0.2.2.1, hx5.cell I0.2.2.2⟩
        have hx6 := hid (hx.out.drew_right.trans hx5)
        clear hx5
        refine hK _ _ ⟨fun _ => I5, ?_⟩
        clear hK K
        try simp only [Act.put, List.getElem_toArray, List.getElem_cons_zero, List.getElem_cons_succ, List.setIfInBounds_toArray, List.set_cons_zero, List.set_cons_succ]
        refine J_takeO 12 (v := ?ve12) rfl (by kernel_rfl) (by kernel_rfl) (by kernel_rfl) (by kernel_rfl) (fun _ _ _ h => h) (Or.inl ⟨by rfl, ?ye12⟩) I5 ?re12
        case ye12 => (intro w hSw; obtain ⟨_, _, _, _⟩ := hSw; (go_simp; with_reducible rfl))
        simp only [Act.put, List.getElem_toArray, List.getElem_cons_zero, List.getElem_cons_succ, List.setIfInBounds_toArray, List.set_cons_zero, List.set_cons_succ]
        refine J_takeO 13 (v := ?ve13) rfl (by kernel_rfl) (by kernel_rfl) (by kernel_rfl) (by kernel_rfl) (fun _ _ _ h => h) (Or.inl ⟨by rfl, ?ye13⟩) I5 ?re13
        case ye13 => (intro w hSw; obtain ⟨_, _, _, _⟩ := hSw; (go_simp; with_reducible rfl))
        simp only [Act.put, List.getElem_toArray, List.getElem_cons_zero, List.getElem_cons_succ, List.setIfInBounds_toArray, List.set_cons_zero, List.set_cons_succ]
        refine J_takeO 14 (v := ?ve14) rfl (by kernel_rfl) (by kernel_rfl) (by kernel_rfl) (by kernel_rfl) (fun _ _ _ h => h) (Or.inl ⟨by rfl, ?ye14⟩) I5 ?re14
        case ye14 => (intro w hSw; obtain ⟨_, _, _, _⟩ := hSw; (go_simp; with_reducible rfl))
        simp only [Act.put, List.getElem_toArray, List.getElem_cons_zero, List.getElem_cons_succ, List.setIfInBounds_toArray, List.set_cons_zero, List.set_cons_succ]
        refine J_one 15 rfl (by kernel_rfl) (fun K hK => ?_)
        go_simp
        refine hK _ _ ⟨fun _ => I5, ?_⟩
        clear hK K
        try simp only [Act.put, List.setIfInBounds_toArray, List.set_cons_zero, List.set_cons_succ]
        refine J_done (by kernel_rfl) (OnlyOn.normal ?_)
        have hx7 := hid (hxa.out.trans hx6.out)
        generalize cmpT x e = z at *
        go_wp2
        go_ret2
        exact ⟨by rw [hr.out, hma.out]; rfl, hx7.out⟩
      · have hd : decide (hi < l.length) = false := by simp; omega
        rw [hd, Bool.false_and] at hma
        have hmn : ¬ (hi : Int) < (n : Int) := by omega
        clear hd
        go_upto_region 8 with fail
        go_quiet (fail)
        have hx7 := hid (hxa.out.trans (hx.out.drewN_right nq))
        go_wp2
        go_ret2
        exact ⟨by rw [hr.out, hma.out]; rfl, hx7.out⟩
end Go.Proofs.Ytpijfiaecicpfaa
