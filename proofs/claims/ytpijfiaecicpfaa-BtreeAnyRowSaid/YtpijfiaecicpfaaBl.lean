/-
  An index as nodes in memory, read; the reference's small functions.
-/
import Derived.Test.YtpijfiaecicpfaaBi
namespace Go.Proofs.Ytpijfiaecicpfaa
open Go.RowKit Go.Shelf
set_option linter.unusedVariables false
set_option linter.unusedSimpArgs false
def nxD : Nx := ⟨[], [], []⟩
def xth (xs : List Nx) (k : Nat) : Nx := xs.getD k nxD
theorem xth_get {xs : List Nx} {k : Nat} (h : k < xs.length) : xth xs k = xs[k] := by simp [xth, List.getD, h]
/-- A node's slices, as they read. -/
def RF (w : World) (v : V3) (x : Nx) : Prop := ∃ A1 c1 A2 c2 A3 c3, v = ⟨.slice A1 x.keys.length c1, .slice A2 x.recs.length c2, .slice A3 x.kids.length c3⟩ ∧ Rd w 1 A1 x.keys.length c1 (strv x.keys) ∧ RdI w A2 x.recs.length c2 x.recs ∧ RdI w A3 x.kids.length c3 x.kids
def RFs (w : World) : List V3 → List Nx → Prop
  | [], [] => True
  | v :: vs, x :: xs => RF w v x ∧ RFs w vs xs
  | _, _ => False
/-- An index that reads as nodes. -/
def RX (w : World) (A : Option Addr) (n c : Nat) (xs : List Nx) : Prop := ∃ vs, Rd w 3 A n c (rowsV vs) ∧ RFs w vs xs
section
variable {w w' : World}
theorem RF.ext {v : V3} {x : Nx} (h : RF w v x) (hx : Ext w w') : RF w' v x := by
  obtain ⟨A1, c1, A2, c2, A3, c3, e, h1, h2, h3⟩ := h
  exact ⟨A1, c1, A2, c2, A3, c3, e, h1.ext hx, h2.ext hx, h3.ext hx⟩
theorem RFs.ext (hx : Ext w w') : ∀ {vs : List V3} {xs : List Nx}, RFs w vs xs → RFs w' vs xs
  | [], [], h => h
  | v :: vs, x :: xs, ⟨h1, h2⟩ => ⟨h1.ext hx, RFs.ext hx h2⟩
  | [], _ :: _, h => h.elim
  | _ :: _, [], h => h.elim
theorem RFs.len : ∀ {vs : List V3} {xs : List Nx}, RFs w vs xs → vs.length = xs.length
  | [], [], _ => rfl
  | v :: vs, x :: xs, ⟨_, h⟩ => by simp [h.len]
  | [], _ :: _, h => h.elim
  | _ :: _, [], h => h.elim
theorem RFs.at_ : ∀ {vs : List V3} {xs : List Nx} {k : Nat}, RFs w vs xs → (h : k < vs.length) → (h2 : k < xs.length) → RF w vs[k] xs[k]
  | v :: vs, x :: xs, 0, ⟨h, _⟩, _, _ => h
  | v :: vs, x :: xs, k + 1, ⟨_, h⟩, h1, h2 => RFs.at_ h (by simpa using h1) (by simpa using h2)
  | [], [], _, _, h, _ => absurd h (by simp)
  | [], _ :: _, _, h, _, _ => h.elim
  | _ :: _, [], _, h, _, _ => h.elim
theorem NL.reads {B : Nat} : ∀ {vs : List V3} {xs : List Nx} {g : Nat → Nat}, NL w B vs xs g → RFs w vs xs
  | [], [], g, _ => trivial
  | ⟨k, r, d⟩ :: vs, x :: xs, g, ⟨f1, f2, ⟨h1, h2, h3, _⟩, h5, _⟩ => by
    obtain ⟨A1, c1, e1, r1⟩ := own_rd h1
    obtain ⟨A2, c2, e2, r2⟩ := own_rd h2
    obtain ⟨A3, c3, e3, r3⟩ := own_rd h3
    have e1' : k = _ := e1
    have e2' : r = _ := e2
    have e3' : d = _ := e3
    subst e1' e2' e3'
    exact ⟨⟨A1, c1, A2, c2, A3, c3, rfl, r1, r2, r3⟩, NL.reads h5⟩
  | [], _ :: _, g, h => h.elim
  | _ :: _, [], g, h => h.elim
theorem rowsV_nth : ∀ {vs : List V3} {k : Nat} (h : k < vs.length), (rowsV vs)[k * 3]? = some vs[k].k ∧ (rowsV vs)[k * 3 + 1]? = some vs[k].r ∧ (rowsV vs)[k * 3 + 2]? = some vs[k].d := fun {vs k} h => by
  have := rowsV_at (vs.take k) vs[k] (vs.drop (k + 1)) (m := k) (by rw [List.length_take]; omega)
  rw [← list_cut h] at this
  exact this
section
variable {A : Option Addr} {n c : Nat} {xs : List Nx}
theorem RX.len (h : RX w A n c xs) : xs.length = n := by
  obtain ⟨vs, h1, h2⟩ := h
  have := h1.1
  rw [rowsV_len, h2.len] at this
  omega
theorem RX.ext (h : RX w A n c xs) (hx : Ext w w') : RX w' A n c xs := by
  obtain ⟨vs, h1, h2⟩ := h
  exact ⟨vs, h1.ext hx, h2.ext hx⟩
theorem RX.max (h : RX w A n c xs) : n ≤ 9223372036854775807 ∧ n ≤ c ∧ c ≤ 9223372036854775807 := by
  obtain ⟨vs, h1, h2⟩ := h
  exact Rd.max h1
theorem RX.at_ (h : RX w A n c xs) {k : Nat} (hk : k < n) : ∃ ad A1 c1 A2 c2 A3 c3, A = some ad ∧ w.cell? (ad.add (k * 3)) = some (.slice A1 (xth xs k).keys.length c1) ∧ w.cell? ⟨(ad.add (k * 3)).block, (ad.add (k * 3)).off + 1, none⟩ = some (.slice A2 (xth xs k).recs.length c2) ∧ w.cell? ⟨(ad.add (k * 3)).block, (ad.add (k * 3)).off + 2, none⟩ = some (.slice A3 (xth xs k).kids.length c3) ∧ Rd w 1 A1 (xth xs k).keys.length c1 (strv (xth xs k).keys) ∧ RdI w A2 (xth xs k).recs.length c2 (xth xs k).recs ∧ RdI w A3 (xth xs k).kids.length c3 (xth xs k).kids := by
  have hl := h.len
  obtain ⟨vs, h1, h2⟩ := h
  have hlv := h2.len
  obtain ⟨ad, rfl, hc⟩ := h1.2.2.2 (by omega)
  have hkv : k < vs.length := by omega
  have hkx : k < xs.length := by omega
  obtain ⟨A1, c1, A2, c2, A3, c3, e, r1, r2, r3⟩ := h2.at_ hkv hkx
  obtain ⟨q0, q1, q2⟩ := rowsV_nth hkv
  rw [e] at q0 q1 q2
  rw [xth_get hkx]
  exact ⟨ad, A1, c1, A2, c2, A3, c3, rfl, hc _ _ q0, cell_fk (hc _ _ q1) (by decide), cell_fk (hc _ _ q2) (by decide), r1, r2, r3⟩
end
theorem IX.reads {B : Nat} {v : Value} {xs : List Nx} (h : IX B w v xs) : ∃ A c, v = .slice A xs.length c ∧ RX w A xs.length c xs := by
  obtain ⟨vs, g, h1, h2, _⟩ := h
  obtain ⟨A, c, rfl, hr⟩ := own_rd h1
  exact ⟨A, c, rfl, vs, hr, h2.reads⟩
end
/-! ### Texts and numbers of a node -/
def sth (l : List ByteArray) (k : Nat) : ByteArray := l.getD k ⟨#[]⟩
def ith (l : List Int) (k : Nat) : Int := l.getD k 0
theorem sth_get {l : List ByteArray} {k : Nat} (h : k < l.length) : sth l k = l[k] := by simp [sth, List.getD, h]
theorem ith_get {l : List Int} {k : Nat} (h : k < l.length) : ith l k = l[k] := by simp [ith, List.getD, h]
theorem rds_at {w : World} {A : Option Addr} {n c k : Nat} {l : List ByteArray} (h : Rd w 1 A n c (strv l)) (hk : k < n) : ∃ ad, A = some ad ∧ w.cell? (ad.add k) = some (.string (sth l k)) := by
  obtain ⟨ad, hA, hc⟩ := h.2.2.2 (by omega)
  have h1 := h.1
  rw [strv_len] at h1
  have hl : k < l.length := by omega
  rw [sth_get hl]
  exact ⟨ad, hA, hc k _ (by unfold strv; rw [List.getElem?_map, List.getElem?_eq_getElem hl]; rfl)⟩
theorem rdi_at {w : World} {A : Option Addr} {n c k : Nat} {l : List Int} (h : RdI w A n c l) (hk : k < n) : ∃ ad, A = some ad ∧ w.cell? (ad.add k) = some (.int .i64 (ith l k)) := by
  obtain ⟨ad, hA, hc⟩ := h.2.2.2 (by omega)
  have h1 := h.1
  rw [show (ints l).length = l.length by simp [ints]] at h1
  have hl : k < l.length := by omega
  rw [ith_get hl]
  exact ⟨ad, hA, hc k _ (by unfold ints; rw [List.getElem?_map, List.getElem?_eq_getElem hl]; rfl)⟩
/-! ### The reference's small functions -/
theorem less_is (a b : ByteArray) (i k : Int) : decide (cmpT ⟨a, i⟩ ⟨b, k⟩ < 0) = (decide (cmpK a b < 0) || (decide (cmpK a b = 0) && decide (i < k))) := by
  unfold cmpT
  show decide ((if cmpK a b = 0 then cmpN i k else cmpK a b) < 0) = _
  by_cases h : cmpK a b = 0
  · rw [if_pos h, h]
    simp [cmpN_lt]
  · rw [if_neg h, decide_eq_false h]
    simp
set_option maxRecDepth 100000 in
set_option maxHeartbeats 4000000 in
theorem rLess_any (a b : ByteArray) (i k : Int) (w : World) : Calls Try.prog 43 #[.string a, .int .i64 i, .string b, .int .i64 k] w fun e w' => e = .returned (.bool (decide (cmpT ⟨a, i⟩ ⟨b, k⟩ < 0))) ∧ w = w' := by
  rw [less_is]
  have hb : Op.bytesLess a.toList b.toList = decide (cmpK a b < 0) := by rw [less_cmp, ByteArray.toList_eq, ByteArray.toList_eq]; rfl
  by_cases h1 : cmpK a b < 0
  · rw [decide_eq_true h1] at hb ⊢
    clear h1
    go_enter Try.func43, Try.ntmps43
    go_wp2
    go_ret
    exact ⟨rfl, rfl⟩
  · rw [decide_eq_false h1] at hb ⊢
    by_cases h2 : cmpK a b = 0
    · rw [decide_eq_true h2]
      obtain rfl := cmpK_zero.1 h2
      clear h1 h2
      go_enter Try.func43, Try.ntmps43
      go_wp2
      go_ret
      exact ⟨ret_bool (by simp), rfl⟩
    · rw [decide_eq_false h2]
      have h3 : ¬ a.toList = b.toList := fun h => h2 (cmpK_zero.2 (by
        rw [ByteArray.toList_eq, ByteArray.toList_eq] at h
        exact str_ext h))
      clear h1 h2
      go_enter Try.func43, Try.ntmps43
      go_wp2
      go_ret
      exact ⟨ret_bool (by simp), rfl⟩
set_option maxRecDepth 100000 in
set_option maxHeartbeats 4000000 in
theorem risEntry_any (s : ByteArray) (n : Int) (w : World) : Calls Try.prog 42 #[.string s, .int .i64 n] w fun e w' => e = .returned (.bool (okT ⟨s, n⟩)) ∧ w = w' := by
  unfold okT
  by_cases h1 : s.size ≤ 100
  · have d1 : (s.size : Int) ≤ 100 := by omega
    rw [show decide ((⟨s, n⟩ : Te).key.size ≤ 100) = true from decide_eq_true h1]
    by_cases h2 : 1 ≤ n
    · rw [show decide (1 ≤ (⟨s, n⟩ : Te).no) = true from decide_eq_true h2]
      by_cases h3 : n ≤ 300
      · rw [show decide ((⟨s, n⟩ : Te).no ≤ 300) = true from decide_eq_true h3]
        clear h1
        go_enter Try.func42, Try.ntmps42
        go_wp2
        go_ret
        exact ⟨rfl, rfl⟩
      · rw [show decide ((⟨s, n⟩ : Te).no ≤ 300) = false from decide_eq_false h3]
        clear h1
        go_enter Try.func42, Try.ntmps42
        go_wp2
        go_ret
        exact ⟨rfl, rfl⟩
    · rw [show decide (1 ≤ (⟨s, n⟩ : Te).no) = false from decide_eq_false h2]
      clear h1
      go_enter Try.func42, Try.ntmps42
      go_wp2
      go_ret
      exact ⟨rfl, rfl⟩
  · have d1 : ¬ (s.size : Int) ≤ 100 := by omega
    rw [show decide ((⟨s, n⟩ : Te).key.size ≤ 100) = false from decide_eq_false h1]
    clear h1
    go_enter Try.func42, Try.ntmps42
    go_wp2
    go_ret
    exact ⟨rfl, rfl⟩
def shapeN (a b d : Nat) : Bool := decide (b = a) && (decide (a ≤ 4) && (decide (d = 0) || decide (d = a + 1)))
def shapeB (x : Nx) : Bool := shapeN x.keys.length x.recs.length x.kids.length
set_option maxRecDepth 100000 in
set_option maxHeartbeats 4000000 in
theorem rShaped_any (A1 A2 A3 : Option Addr) (a b d c1 c2 c3 : Nat) (w : World) (ha : a ≤ 9223372036854775807) (hb : b ≤ 9223372036854775807) (hd : d ≤ 9223372036854775807) : Calls Try.prog 88 #[.agg #[.slice A1 a c1, .slice A2 b c2, .slice A3 d c3]] w (Give (.bool (shapeN a b d)) w) := by
  unfold shapeN
  by_cases h1 : b = a
  · subst h1
    by_cases h2 : b ≤ 4
    · have e2 : (b : Int) ≤ 4 := by omega
      rw [decide_eq_true h2, decide_eq_true rfl]
      by_cases h3 : d = 0
      · subst h3
        clear h2
        go_enter Try.func88, Try.ntmps88
        go_wp2
        go_ret
        exact ⟨rfl, (Ext.refl w).alloc_right _⟩
      · have e3 : ¬ (d : Int) = 0 := by omega
        rw [decide_eq_false h3]
        have e5 : IntKind.i64.wrap ((b : Int) + 1) = (b : Int) + 1 := IntWalk.i64_in _ (by omega)
        by_cases h4 : d = b + 1
        · have e4 : (d : Int) = (b : Int) + 1 := by omega
          rw [decide_eq_true h4]
          clear h2 h3 h4
          go_enter Try.func88, Try.ntmps88
          go_wp2
          go_ret
          exact ⟨rfl, (Ext.refl w).alloc_right _⟩
        · have e4 : ¬ (d : Int) = (b : Int) + 1 := by omega
          rw [decide_eq_false h4]
          clear h2 h3 h4
          go_enter Try.func88, Try.ntmps88
          go_wp2
          go_ret
          exact ⟨ret_bool (by rw [beq_eq_false_iff_ne.2 e3, beq_eq_false_iff_ne.2 e4]; rfl), (Ext.refl w).alloc_right _⟩
    · have e2 : ¬ (b : Int) ≤ 4 := by omega
      rw [decide_eq_false h2, decide_eq_true rfl]
      clear h2
      go_enter Try.func88, Try.ntmps88
      go_wp2
      go_ret
      exact ⟨rfl, (Ext.refl w).alloc_right _⟩
  · have e1 : ¬ (b : Int) = (a : Int) := by omega
    rw [decide_eq_false h1]
    clear h1
    go_enter Try.func88, Try.ntmps88
    go_wp2
    go_ret
    exact ⟨rfl, (Ext.refl w).alloc_right _⟩
end Go.Proofs.Ytpijfiaecicpfaa
