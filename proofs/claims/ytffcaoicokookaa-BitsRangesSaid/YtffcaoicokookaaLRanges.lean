import Derived.Test.YtffcaoicokookaaT20
import Derived.ChangeKeysEq
namespace Go.Proofs.Ytffcaoicokookaa
open Go.RowKit
set_option linter.unusedVariables false
set_option linter.unusedSimpArgs false

theorem pair_under : Try.prog.underlying 38 = some (.array 2 3) := by kernel_rfl
theorem pair_guard : Try.prog.eqGuardType Try.prog.depth 38 = false := by kernel_rfl
theorem pair_info : (Try.prog.info? 3).map (fun i => i.size) = some 1 := by kernel_rfl
theorem pair_int : Try.prog.underlying 3 = some (.int .i64) := by kernel_rfl
theorem pair_cells : Try.prog.cellsOf 3 = 1 := by kernel_rfl
theorem pair_eq (w : World) (d : Nat) (a b c e : Int) : (Op.equalIn (d + 2) 38 (.agg #[.int .i64 a, .int .i64 b]) (.agg #[.int .i64 c, .int .i64 e])).run Try.prog w = .ok (a == c && b == e) w := by
  obtain ⟨i, hi, -⟩ := Option.map_eq_some_iff.1 pair_info
  rw [run_equalIn_array w (d + 1) _ _ pair_under hi, pair_cells]
  have p1 : ∀ (x y : Int) (w : World), (part 3 #[.int .i64 x, .int .i64 y] (0 * 1)).run Try.prog w = .ok (.int .i64 x) w := by intro x y w; go_simp
  have p2 : ∀ (x y : Int) (w : World), (part 3 #[.int .i64 x, .int .i64 y] (1 * 1)).run Try.prog w = .ok (.int .i64 y) w := by intro x y w; go_simp
  have q1 : ∀ (x y : Int) (w : World), (Op.equalIn (d + 1) 3 (.int .i64 x) (.int .i64 y)).run Try.prog w = .ok (x == y) w := fun x y w => run_equalIn_int w d 3 .i64 .i64 x y pair_int
  simp only [show List.range 2 = [0, 1] from rfl, Op.eqItems, Sem.run_bind, p1, p2, Result.andThen_ok, q1]
  by_cases h1 : a == c <;> by_cases h2 : b == e <;> simp_all
attribute [local go_sem] pair_eq pair_guard


set_option maxRecDepth 100000 in
set_option maxHeartbeats 2000000 in
theorem ranges_over (A : Option Addr) (n c : Nat) (l : List Int) (w : World) (hs : RdI w A n c l) (h1 : 3000 < n) : Calls Try.prog 5 #[.slice A n c] w (Give (.bool true) w) := by
  have e1 : decide ((3000 : Int) < (n : Int)) = true := by simp; omega
  go_enter Try.func5, Try.ntmps5
  go_wp2_with fail
  refine (known_any _).mono ?_
  rintro e w1 ⟨rfl, hx⟩
  go_wp2
  go_ret
  exact ⟨rfl, hx⟩

set_option maxRecDepth 100000 in
set_option maxHeartbeats 2000000 in
theorem ranges_no (A : Option Addr) (n c : Nat) (l : List Int) (w : World) (hs : RdI w A n c l) (h1 : n ≤ 3000) (h2 : isSetS 300 l = false) : Calls Try.prog 5 #[.slice A n c] w (Give (.bool true) w) := by
  have e1 : decide ((3000 : Int) < (n : Int)) = false := by simp; omega
  have hm := hs.max
  go_enter Try.func5, Try.ntmps5
  go_wp2_with fail
  refine (Ranges_no _ _ _ _ _ hs h2).mono ?_
  rintro e w1 ⟨B, p, cp, rfl, g1, hx1, -⟩
  have z1 := g1.len
  simp only [List.length_nil] at z1
  subst z1
  go_wp2_with fail
  refine (rRanges_no _ _ _ _ _ (hs.ext hx1) h2).mono ?_
  rintro e w2 ⟨C, q, cq, rfl, g2, hx2, -⟩
  have z2 := g2.len
  simp only [List.length_nil] at z2
  subst z2
  go_wp2
  go_loopw [7] (fun v wr => v = .int .i64 0 ∧ wr = w2) (fun _ _ => 0)
  case atStart => exact ⟨rfl, rfl⟩
  case round =>
    obtain ⟨rfl, rfl⟩ := hrel
    go_wp2_with fail
    refine (known_any _).mono ?_
    rintro e w3 ⟨rfl, hx3⟩
    go_wp2
    go_ret
    exact ⟨rfl, (hx1.trans hx2).trans hx3⟩

set_option maxRecDepth 100000 in
set_option maxHeartbeats 2000000 in
theorem ranges_yes (A : Option Addr) (n c : Nat) (l : List Int) (w : World) (hs : RdI w A n c l) (h1 : n ≤ 3000) (h2 : isSetS 300 l = true) : Calls Try.prog 5 #[.slice A n c] w (Give (.bool true) w) := by
  have e1 : decide ((3000 : Int) < (n : Int)) = false := by simp; omega
  have hm := hs.max
  go_enter Try.func5, Try.ntmps5
  go_wp2_with fail
  refine (Ranges_yes _ _ _ _ _ hs (by omega) h2).mono ?_
  rintro e w1 ⟨B, p, cp, rfl, g1, hx1, -⟩
  go_wp2_with fail
  refine (rRanges_yes _ _ _ _ _ (hs.ext hx1) (by omega) h2).mono ?_
  rintro e w2 ⟨C, q, cq, rfl, g2, hx2, -⟩
  have z : q = p := by rw [← g1.len, ← g2.len]
  subst z
  have G1 := hid (g1.ext hx2)
  have G2 := hid g2
  have hE := hid (hx1.trans hx2)
  have hm2 := g2.max
  clear g1 g2 hx1 hx2
  go_wp2
  go_loopw [7] (fun v wr => ∃ k : Nat, k ≤ q ∧ v = .int .i64 k ∧ Dr w2 wr) (fun v _ => q - (intOf v).toNat)
  case atStart => exact ⟨0, by omega, rfl, Dr.refl _⟩
  case round =>
    obtain ⟨k, hk, rfl, hb⟩ := hrel
    by_cases hlt : k < q
    · obtain ⟨ad, rfl, c1, c2⟩ := (G1.out.ext hb.ext).at_ hlt
      obtain ⟨bd, rfl, d1, d2⟩ := (G2.out.ext hb.ext).at_ hlt
      go_wp2
      go_quiet (fail)
      go_wp2
      go_roundw
      case rel => exact ⟨k + 1, by omega, by go_num, hb.step _⟩
      case measure => simp [intOf]; omega
    · go_wp2_with fail
      refine (known_any _).mono ?_
      rintro e w3 ⟨rfl, hx3⟩
      go_wp2
      go_ret
      exact ⟨rfl, (hE.out.trans hb.ext).trans hx3⟩

theorem ranges_law (A : Option Addr) (n c : Nat) (l : List Int) (w : World) (hs : RdI w A n c l) : Calls Try.prog 5 #[.slice A n c] w (Give (.bool true) w) := by
  by_cases h1 : 3000 < n
  · exact ranges_over A n c l w hs h1
  · by_cases h2 : isSetS 300 l = true
    · exact ranges_yes A n c l w hs (by omega) h2
    · exact ranges_no A n c l w hs (by omega) (by simpa using h2)
end Go.Proofs.Ytffcaoicokookaa
