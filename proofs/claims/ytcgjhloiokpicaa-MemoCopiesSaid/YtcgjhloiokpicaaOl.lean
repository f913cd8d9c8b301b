/-
  Two lists of rows of three numbers, and of two, that are the same.
-/
import Derived.Test.YtcgjhloiokpicaaOj
import Derived.ChangeKeysEq
namespace Go.Proofs.Ytcgjhloiokpicaa
open Go.RowKit Go.Shelf
set_option linter.unusedVariables false
set_option linter.unusedSimpArgs false
theorem trip_under : Try.prog.underlying 90 = some (.array 3 3) := by kernel_rfl
theorem trip_guard : Try.prog.eqGuardType Try.prog.depth 90 = false := by kernel_rfl
theorem pair_under : Try.prog.underlying 101 = some (.array 2 3) := by kernel_rfl
theorem pair_guard : Try.prog.eqGuardType Try.prog.depth 101 = false := by kernel_rfl
theorem int_info : (Try.prog.info? 3).map (fun i => i.size) = some 1 := by kernel_rfl
theorem int_under : Try.prog.underlying 3 = some (.int .i64) := by kernel_rfl
theorem int_cells : Try.prog.cellsOf 3 = 1 := by kernel_rfl
theorem pair_eq (w : World) (d : Nat) (a b c e : Int) : (Op.equalIn (d + 2) 101 (.agg #[.int .i64 a, .int .i64 b]) (.agg #[.int .i64 c, .int .i64 e])).run Try.prog w = .ok (a == c && b == e) w := by
  obtain ⟨i, hi, -⟩ := Option.map_eq_some_iff.1 int_info
  rw [run_equalIn_array w (d + 1) _ _ pair_under hi, int_cells]
  have p1 : ∀ (x y : Int) (w : World), (part 3 #[.int .i64 x, .int .i64 y] (0 * 1)).run Try.prog w = .ok (.int .i64 x) w := by intro x y w; go_simp
  have p2 : ∀ (x y : Int) (w : World), (part 3 #[.int .i64 x, .int .i64 y] (1 * 1)).run Try.prog w = .ok (.int .i64 y) w := by intro x y w; go_simp
  have q1 : ∀ (x y : Int) (w : World), (Op.equalIn (d + 1) 3 (.int .i64 x) (.int .i64 y)).run Try.prog w = .ok (x == y) w := fun x y w => run_equalIn_int w d 3 .i64 .i64 x y int_under
  simp only [show List.range 2 = [0, 1] from rfl, Op.eqItems, Sem.run_bind, p1, p2, Result.andThen_ok, q1]
  by_cases h1 : a == c <;> by_cases h2 : b == e <;> simp_all
theorem trip_eq (w : World) (d : Nat) (a b c e f g : Int) : (Op.equalIn (d + 2) 90 (.agg #[.int .i64 a, .int .i64 b, .int .i64 c]) (.agg #[.int .i64 e, .int .i64 f, .int .i64 g])).run Try.prog w = .ok (a == e && b == f && c == g) w := by
  obtain ⟨i, hi, -⟩ := Option.map_eq_some_iff.1 int_info
  rw [run_equalIn_array w (d + 1) _ _ trip_under hi, int_cells]
  have p1 : ∀ (x y z : Int) (w : World), (part 3 #[.int .i64 x, .int .i64 y, .int .i64 z] (0 * 1)).run Try.prog w = .ok (.int .i64 x) w := by intro x y z w; go_simp
  have p2 : ∀ (x y z : Int) (w : World), (part 3 #[.int .i64 x, .int .i64 y, .int .i64 z] (1 * 1)).run Try.prog w = .ok (.int .i64 y) w := by intro x y z w; go_simp
  have p3 : ∀ (x y z : Int) (w : World), (part 3 #[.int .i64 x, .int .i64 y, .int .i64 z] (2 * 1)).run Try.prog w = .ok (.int .i64 z) w := by intro x y z w; go_simp
  have q1 : ∀ (x y : Int) (w : World), (Op.equalIn (d + 1) 3 (.int .i64 x) (.int .i64 y)).run Try.prog w = .ok (x == y) w := fun x y w => run_equalIn_int w d 3 .i64 .i64 x y int_under
  simp only [show List.range 3 = [0, 1, 2] from rfl, Op.eqItems, Sem.run_bind, p1, p2, p3, Result.andThen_ok, q1]
  by_cases h1 : a == e <;> by_cases h2 : b == f <;> by_cases h3 : c == g <;> simp_all
attribute [local go_sem] pair_eq pair_guard trip_eq trip_guard
/-- A slice of rows of three numbers. -/
def RdT (w : World) (A : Option Addr) (n c : Nat) (l : List En) : Prop := Rd w 3 A n c (ecs l)
theorem ecs_len : ∀ l : List En, (ecs l).length = l.length * 3
  | [] => rfl
  | x :: l => by rw [ecs, List.length_append, ecs_len l, List.length_cons]; simp [ecells]; omega
theorem ecs_at : ∀ (l : List En) (k : Nat) (h : k < l.length) (j : Nat), j < 3 → (ecs l)[k * 3 + j]? = (ecells l[k])[j]?
  | x :: l, 0, h, j, hj => by
    rw [ecs, List.getElem?_append_left (by simp [ecells]; omega)]
    simp
  | x :: l, k + 1, h, j, hj => by
    have := ecs_at l k (by simpa using h) j hj
    rw [ecs, List.getElem?_append_right (by simp [ecells]; omega), List.getElem_cons_succ, ← this]
    congr 1
    simp [ecells]
    omega
theorem RdT.len {w : World} {A : Option Addr} {n c : Nat} {l : List En} (h : RdT w A n c l) : l.length = n := by have := h.1; rw [ecs_len] at this; omega
theorem RdT.ext {w w' : World} {A : Option Addr} {n c : Nat} {l : List En} (h : RdT w A n c l) (hb : Ext w w') : RdT w' A n c l := Rd.ext h hb
theorem RdT.at_ {w : World} {A : Option Addr} {n c : Nat} {l : List En} (h : RdT w A n c l) {k : Nat} (hk : k < n) : ∃ ad, A = some ad ∧ w.cell? (ad.add (k * 3)) = some (.int .i64 (eth l k).block) ∧ w.cell? ⟨(ad.add (k * 3)).block, (ad.add (k * 3)).off + 1, none⟩ = some (.int .i64 (eth l k).blocks) ∧ w.cell? ⟨(ad.add (k * 3)).block, (ad.add (k * 3)).off + 2, none⟩ = some (.int .i64 (lenE (eth l k))) := by
  obtain ⟨ad, hA, hc⟩ := h.2.2.2 (by omega)
  have hl : k < l.length := by rw [h.len]; exact hk
  rw [eth_get hl]
  refine ⟨ad, hA, ?_, ?_, ?_⟩
  · exact hc (k * 3 + 0) _ (by rw [ecs_at l k hl 0 (by decide)]; rfl)
  · exact cell_fk (hc (k * 3 + 1) _ (by rw [ecs_at l k hl 1 (by decide)]; rfl)) (by decide)
  · exact cell_fk (hc (k * 3 + 2) _ (by rw [ecs_at l k hl 2 (by decide)]; rfl)) (by decide)
/-- The same rows: true. -/
theorem entries_any (A B : Option Addr) (n ca cb : Nat) (l : List En) (w : World) (hA : RdT w A n ca l) (hB : RdT w B n cb l) : Calls Try.prog 15 #[.slice A n ca, .slice B n cb] w (Quiet (.bool true) w) := by
  have hmA := Rd.max hA
  have hmB := Rd.max hB
  replace hA := hid hA
  replace hB := hid hB
  go_enter Try.func15, Try.ntmps15
  go_wp2
  go_loopw [5] (fun v wr => ∃ k : Nat, k ≤ n ∧ v = .int .i64 k ∧ Dr w wr) (fun v _ => n - (intOf v).toNat)
  case atStart => exact ⟨0, by omega, rfl, Dr.refl _⟩
  case round =>
    obtain ⟨k, hk, rfl, hb⟩ := hrel
    by_cases hlt : k < n
    · obtain ⟨ad, rfl, c1, c2, c3⟩ := (hA.out.ext hb.ext).at_ hlt
      obtain ⟨bd, rfl, d1, d2, d3⟩ := (hB.out.ext hb.ext).at_ hlt
      generalize (eth l k).block = x1 at *
      generalize (eth l k).blocks = x2 at *
      generalize lenE (eth l k) = x3 at *
      clear hA hB
      go_wp2
      go_quiet (fail)
      go_wp2
      go_roundw
      case rel => exact ⟨k + 1, by omega, by go_num, hb.step _⟩
      case measure => simp [intOf]; omega
    · go_wp2
      go_ret
      exact ⟨rfl, hb⟩
/-- A slice of rows of two numbers. -/
def pcs : List (Int × Int) → List Value
  | [] => []
  | x :: l => [.int .i64 x.1, .int .i64 x.2] ++ pcs l
theorem pcs_len : ∀ l : List (Int × Int), (pcs l).length = l.length * 2
  | [] => rfl
  | x :: l => by rw [pcs, List.length_append, pcs_len l, List.length_cons]; simp; omega
theorem pcs_at : ∀ (l : List (Int × Int)) (k : Nat) (h : k < l.length) (j : Nat), j < 2 → (pcs l)[k * 2 + j]? = [Value.int .i64 l[k].1, .int .i64 l[k].2][j]?
  | x :: l, 0, h, j, hj => by
    rw [pcs, List.getElem?_append_left (by simp; omega)]
    simp
  | x :: l, k + 1, h, j, hj => by
    have := pcs_at l k (by simpa using h) j hj
    rw [pcs, List.getElem?_append_right (by simp; omega), List.getElem_cons_succ, ← this]
    congr 1
    simp
    omega
theorem pcs_append : ∀ a b : List (Int × Int), pcs (a ++ b) = pcs a ++ pcs b
  | [], b => rfl
  | x :: a, b => by rw [List.cons_append, pcs, pcs, pcs_append a b, List.append_assoc]
def RdP (w : World) (A : Option Addr) (n c : Nat) (l : List (Int × Int)) : Prop := Rd w 2 A n c (pcs l)
theorem RdP.len {w : World} {A : Option Addr} {n c : Nat} {l : List (Int × Int)} (h : RdP w A n c l) : l.length = n := by have := h.1; rw [pcs_len] at this; omega
theorem RdP.ext {w w' : World} {A : Option Addr} {n c : Nat} {l : List (Int × Int)} (h : RdP w A n c l) (hb : Ext w w') : RdP w' A n c l := Rd.ext h hb
theorem RdP.at_ {w : World} {A : Option Addr} {n c : Nat} {l : List (Int × Int)} (h : RdP w A n c l) {k : Nat} (hk : k < n) : ∃ ad x y, A = some ad ∧ l[k]? = some (x, y) ∧ w.cell? (ad.add (k * 2)) = some (.int .i64 x) ∧ w.cell? ⟨(ad.add (k * 2)).block, (ad.add (k * 2)).off + 1, none⟩ = some (.int .i64 y) := by
  obtain ⟨ad, hA, hc⟩ := h.2.2.2 (by omega)
  have hl : k < l.length := by rw [h.len]; exact hk
  refine ⟨ad, l[k].1, l[k].2, hA, by rw [List.getElem?_eq_getElem hl], ?_, ?_⟩
  · exact hc (k * 2 + 0) _ (by rw [pcs_at l k hl 0 (by decide)]; rfl)
  · exact cell_fk (hc (k * 2 + 1) _ (by rw [pcs_at l k hl 1 (by decide)]; rfl)) (by decide)
/-- The same pairs: true. -/
theorem pairs_any (A B : Option Addr) (n ca cb : Nat) (l : List (Int × Int)) (w : World) (hA : RdP w A n ca l) (hB : RdP w B n cb l) : Calls Try.prog 51 #[.slice A n ca, .slice B n cb] w (Quiet (.bool true) w) := by
  have hmA := Rd.max hA
  have hmB := Rd.max hB
  replace hA := hid hA
  replace hB := hid hB
  go_enter Try.func51, Try.ntmps51
  go_wp2
  go_loopw [5] (fun v wr => ∃ k : Nat, k ≤ n ∧ v = .int .i64 k ∧ Dr w wr) (fun v _ => n - (intOf v).toNat)
  case atStart => exact ⟨0, by omega, rfl, Dr.refl _⟩
  case round =>
    obtain ⟨k, hk, rfl, hb⟩ := hrel
    by_cases hlt : k < n
    · obtain ⟨ad, x1, x2, rfl, e1, c1, c2⟩ := (hA.out.ext hb.ext).at_ hlt
      obtain ⟨bd, y1, y2, rfl, e2, d1, d2⟩ := (hB.out.ext hb.ext).at_ hlt
      obtain ⟨rfl, rfl⟩ := Prod.mk.inj (Option.some.inj (e1.symm.trans e2))
      clear hA hB e1 e2
      go_wp2
      go_quiet (fail)
      go_wp2
      go_roundw
      case rel => exact ⟨k + 1, by omega, by go_num, hb.step _⟩
      case measure => simp [intOf]; omega
    · go_wp2
      go_ret
      exact ⟨rfl, hb⟩
end Go.Proofs.Ytcgjhloiokpicaa
