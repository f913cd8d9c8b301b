/-
  fill: a kid with too few entries gets one, or is joined.
-/
import Derived.Test.YtpijfiaecicpfaaEe
namespace Go.Proofs.Ytpijfiaecicpfaa
open Go.RowKit Go.Shelf
set_option linter.unusedVariables false
set_option linter.unusedSimpArgs false
/-- How many entries a kid has, in memory. -/
theorem kid_cells {w : World} {h p : Nat} {l : List Te} {ks : List BT} {f : Nat → Nat} (hT : TN w (h + 1) p (.nd l ks) f) (h0 : 0 < ks.length) : ∃ A c kad kc, w.cell? ⟨p, 0, none⟩ = some (.slice A l.length c) ∧ w.cell? ⟨p, 1, none⟩ = some (.slice (some kad) ks.length kc) ∧ ks.length ≤ kc ∧ kc ≤ 9223372036854775807 ∧ ∀ k, k < ks.length → ∃ q A c, w.cell? (kad.add k) = some (.pointer (some ⟨q, 0, none⟩)) ∧ w.cell? ⟨q, 0, none⟩ = some (.slice A (kth ks k).l.length c) ∧ q < w.heap.size := by
  obtain ⟨lv, kv, ps, g, e1, e2, e3, e5, e4⟩ := hT
  have hl := e5.len
  obtain ⟨A, c, rfl, hr⟩ := own_rd e2
  obtain ⟨kA, kc, rfl, hkr⟩ := own_rd e3
  obtain ⟨kad, rfl, -⟩ := hkr.2.2.2 (by omega)
  have hm := Rd.max hkr
  refine ⟨A, c, kad, kc, node_c0 e1, by rw [← hl]; exact node_c1 e1, by omega, by omega, fun k hk => ?_⟩
  obtain ⟨q, g0, g1, g2, hq, hK, -⟩ := e5.cut (kth_some hk)
  rw [← nd_eta (kth ks k)] at hK
  obtain ⟨A', c', kA', kn, kc', z0, -⟩ := hK.cells
  have lq := World.block_lt_of_cell? _ _ z0
  exact ⟨q, A', c', rd_ptr hkr hq, z0, lq⟩
set_option maxHeartbeats 1000000 in
set_option maxRecDepth 100000 in
theorem fill_A (p q i L N n c kc cq : Nat) (A Aq : Option Addr) (kad : Addr) (w : World) (z0 : w.cell? ⟨p, 0, none⟩ = some (.slice A L c)) (z1 : w.cell? ⟨p, 1, none⟩ = some (.slice (some kad) N kc)) (y0 : w.cell? (kad.add i) = some (.pointer (some ⟨q, 0, none⟩))) (y1 : w.cell? ⟨q, 0, none⟩ = some (.slice Aq n cq)) (lq : q < w.heap.size) (hi : i < N) (hN : N ≤ 10) (hL : L ≤ 10) (hn : n ≤ 10) (h2 : 2 ≤ n) :
    Calls Try.prog 99 #[.pointer (some ⟨p, 0, none⟩), .int .i64 i] w (fun e w' => e = .returned (.tuple #[]) ∧ w = w') := by
  have lp := World.block_lt_of_cell? _ _ z0
  dsimp only at lp
  have hiN : (i : Int) < (N : Int) := by omega
  have f1 : (2 : Int) ≤ (n : Int) := by omega
  go_enter Try.func99, Try.ntmps99
  go_wp2_with fail
  refine bodyPost_ret (results_none rfl _ _ _) rfl ?_
  exact ⟨rfl, rfl⟩
set_option maxHeartbeats 1000000 in
set_option maxRecDepth 100000 in
theorem fill_B (p q i L N n c kc cq : Nat) (A Aq : Option Addr) (kad : Addr) (w : World) (z0 : w.cell? ⟨p, 0, none⟩ = some (.slice A L c)) (z1 : w.cell? ⟨p, 1, none⟩ = some (.slice (some kad) N kc)) (y0 : w.cell? (kad.add i) = some (.pointer (some ⟨q, 0, none⟩))) (y1 : w.cell? ⟨q, 0, none⟩ = some (.slice Aq n cq)) (lq : q < w.heap.size) (hi : i < N) (hN : N ≤ 10) (hL : L ≤ 10) (hn : n ≤ 10) (q1 j n1 c1 : Nat) (A1 : Option Addr) (hj : i = j + 1) (x0 : w.cell? (kad.add j) = some (.pointer (some ⟨q1, 0, none⟩))) (x1 : w.cell? ⟨q1, 0, none⟩ = some (.slice A1 n1 c1)) (lq1 : q1 < w.heap.size) (hn1 : n1 ≤ 10) (h2 : n < 2) (h3 : 2 < n1) (P : World → Prop) (hC : Calls Try.prog 119 #[.pointer (some ⟨p, 0, none⟩), .int .i64 i] w (fun e w' => e = .returned (.tuple #[]) ∧ P w')) :
    Calls Try.prog 99 #[.pointer (some ⟨p, 0, none⟩), .int .i64 i] w (fun e w' => e = .returned (.tuple #[]) ∧ P w') := by
  have lp := World.block_lt_of_cell? _ _ z0
  dsimp only at lp
  have hiN : (i : Int) < (N : Int) := by omega
  have j1 : IntKind.i64.wrap ((i : Int) - 1) = (j : Int) := by rw [IntWalk.i64_in _ (by omega)]; omega
  have j2 : ((i : Int) - 1) = (j : Int) := by omega
  have j3 : (j : Int) < (N : Int) := by omega
  have j4 : j < N := by omega
  have j5 : (0 : Int) < (i : Int) := by omega
  have f1 : ¬ (2 : Int) ≤ (n : Int) := by omega
  have f2 : (2 : Int) < (n1 : Int) := by omega
  replace hj := hid hj
  replace hC := hid hC
  go_enter Try.func99, Try.ntmps99
  go_wp2_with fail
  refine hC.out.mono ?_
  rintro e w' ⟨rfl, hP⟩
  clear hC
  go_wp2_with fail
  go_end0
  exact ⟨rfl, hP⟩
set_option maxHeartbeats 1000000 in
set_option maxRecDepth 100000 in
theorem fill_C0 (p q i L N n c kc cq : Nat) (A Aq : Option Addr) (kad : Addr) (w : World) (z0 : w.cell? ⟨p, 0, none⟩ = some (.slice A L c)) (z1 : w.cell? ⟨p, 1, none⟩ = some (.slice (some kad) N kc)) (y0 : w.cell? (kad.add i) = some (.pointer (some ⟨q, 0, none⟩))) (y1 : w.cell? ⟨q, 0, none⟩ = some (.slice Aq n cq)) (lq : q < w.heap.size) (hi : i < N) (hN : N ≤ 10) (hL : L ≤ 10) (hn : n ≤ 10) (q2 k n2 c2 : Nat) (A2 : Option Addr) (hk : k = i + 1) (hkN : k < N) (u0 : w.cell? (kad.add k) = some (.pointer (some ⟨q2, 0, none⟩))) (u1 : w.cell? ⟨q2, 0, none⟩ = some (.slice A2 n2 c2)) (lq2 : q2 < w.heap.size) (hn2 : n2 ≤ 10) (h2 : n < 2) (h0 : i = 0) (h1 : i < L) (h3 : 2 < n2) (P : World → Prop) (hC : Calls Try.prog 120 #[.pointer (some ⟨p, 0, none⟩), .int .i64 i] w (fun e w' => e = .returned (.tuple #[]) ∧ P w')) :
    Calls Try.prog 99 #[.pointer (some ⟨p, 0, none⟩), .int .i64 i] w (fun e w' => e = .returned (.tuple #[]) ∧ P w') := by
  have lp := World.block_lt_of_cell? _ _ z0
  dsimp only at lp
  have hiN : (i : Int) < (N : Int) := by omega
  have k1 : IntKind.i64.wrap ((i : Int) + 1) = (k : Int) := by rw [IntWalk.i64_in _ (by omega)]; omega
  have k2 : ((i : Int) + 1) = (k : Int) := by omega
  have k3 : (k : Int) < (N : Int) := by omega
  have f1 : ¬ (2 : Int) ≤ (n : Int) := by omega
  have f0 : ¬ (0 : Int) < (i : Int) := by omega
  have f2 : (i : Int) < (L : Int) := by omega
  have f3 : (2 : Int) < (n2 : Int) := by omega
  replace hk := hid hk
  replace h0 := hid h0
  replace hC := hid hC
  go_enter Try.func99, Try.ntmps99
  go_wp2_with fail
  refine hC.out.mono ?_
  rintro e w' ⟨rfl, hP⟩
  clear hC
  go_wp2_with fail
  go_end0
  exact ⟨rfl, hP⟩
set_option maxHeartbeats 1000000 in
set_option maxRecDepth 100000 in
theorem fill_C1 (p q i L N n c kc cq : Nat) (A Aq : Option Addr) (kad : Addr) (w : World) (z0 : w.cell? ⟨p, 0, none⟩ = some (.slice A L c)) (z1 : w.cell? ⟨p, 1, none⟩ = some (.slice (some kad) N kc)) (y0 : w.cell? (kad.add i) = some (.pointer (some ⟨q, 0, none⟩))) (y1 : w.cell? ⟨q, 0, none⟩ = some (.slice Aq n cq)) (lq : q < w.heap.size) (hi : i < N) (hN : N ≤ 10) (hL : L ≤ 10) (hn : n ≤ 10) (q1 j n1 c1 : Nat) (A1 : Option Addr) (hj : i = j + 1) (x0 : w.cell? (kad.add j) = some (.pointer (some ⟨q1, 0, none⟩))) (x1 : w.cell? ⟨q1, 0, none⟩ = some (.slice A1 n1 c1)) (lq1 : q1 < w.heap.size) (hn1 : n1 ≤ 10) (q2 k n2 c2 : Nat) (A2 : Option Addr) (hk : k = i + 1) (hkN : k < N) (u0 : w.cell? (kad.add k) = some (.pointer (some ⟨q2, 0, none⟩))) (u1 : w.cell? ⟨q2, 0, none⟩ = some (.slice A2 n2 c2)) (lq2 : q2 < w.heap.size) (hn2 : n2 ≤ 10) (h2 : n < 2) (h4 : n1 ≤ 2) (h1 : i < L) (h3 : 2 < n2) (P : World → Prop) (hC : Calls Try.prog 120 #[.pointer (some ⟨p, 0, none⟩), .int .i64 i] w (fun e w' => e = .returned (.tuple #[]) ∧ P w')) :
    Calls Try.prog 99 #[.pointer (some ⟨p, 0, none⟩), .int .i64 i] w (fun e w' => e = .returned (.tuple #[]) ∧ P w') := by
  have lp := World.block_lt_of_cell? _ _ z0
  dsimp only at lp
  have hiN : (i : Int) < (N : Int) := by omega
  have j1 : IntKind.i64.wrap ((i : Int) - 1) = (j : Int) := by rw [IntWalk.i64_in _ (by omega)]; omega
  have j2 : ((i : Int) - 1) = (j : Int) := by omega
  have j3 : (j : Int) < (N : Int) := by omega
  have j4 : j < N := by omega
  have j5 : (0 : Int) < (i : Int) := by omega
  have k1 : IntKind.i64.wrap ((i : Int) + 1) = (k : Int) := by rw [IntWalk.i64_in _ (by omega)]; omega
  have k2 : ((i : Int) + 1) = (k : Int) := by omega
  have k3 : (k : Int) < (N : Int) := by omega
  have f1 : ¬ (2 : Int) ≤ (n : Int) := by omega
  have f4 : ¬ (2 : Int) < (n1 : Int) := by omega
  have f2 : (i : Int) < (L : Int) := by omega
  have f3 : (2 : Int) < (n2 : Int) := by omega
  replace hj := hid hj
  replace hk := hid hk
  replace hC := hid hC
  go_enter Try.func99, Try.ntmps99
  go_wp2_with fail
  refine hC.out.mono ?_
  rintro e w' ⟨rfl, hP⟩
  clear hC
  go_wp2_with fail
  go_end0
  exact ⟨rfl, hP⟩
set_option maxHeartbeats 1000000 in
set_option maxRecDepth 100000 in
theorem fill_D0 (p q i L N n c kc cq : Nat) (A Aq : Option Addr) (kad : Addr) (w : World) (z0 : w.cell? ⟨p, 0, none⟩ = some (.slice A L c)) (z1 : w.cell? ⟨p, 1, none⟩ = some (.slice (some kad) N kc)) (y0 : w.cell? (kad.add i) = some (.pointer (some ⟨q, 0, none⟩))) (y1 : w.cell? ⟨q, 0, none⟩ = some (.slice Aq n cq)) (lq : q < w.heap.size) (hi : i < N) (hN : N ≤ 10) (hL : L ≤ 10) (hn : n ≤ 10) (q1 j n1 c1 : Nat) (A1 : Option Addr) (hj : i = j + 1) (x0 : w.cell? (kad.add j) = some (.pointer (some ⟨q1, 0, none⟩))) (x1 : w.cell? ⟨q1, 0, none⟩ = some (.slice A1 n1 c1)) (lq1 : q1 < w.heap.size) (hn1 : n1 ≤ 10) (h2 : n < 2) (h4 : n1 ≤ 2) (h1 : ¬ i < L) (P : World → Prop) (hC : Calls Try.prog 121 #[.pointer (some ⟨p, 0, none⟩), .int .i64 j] w (fun e w' => e = .returned (.tuple #[]) ∧ P w')) :
    Calls Try.prog 99 #[.pointer (some ⟨p, 0, none⟩), .int .i64 i] w (fun e w' => e = .returned (.tuple #[]) ∧ P w') := by
  have lp := World.block_lt_of_cell? _ _ z0
  dsimp only at lp
  have hiN : (i : Int) < (N : Int) := by omega
  have j1 : IntKind.i64.wrap ((i : Int) - 1) = (j : Int) := by rw [IntWalk.i64_in _ (by omega)]; omega
  have j2 : ((i : Int) - 1) = (j : Int) := by omega
  have j3 : (j : Int) < (N : Int) := by omega
  have j4 : j < N := by omega
  have j5 : (0 : Int) < (i : Int) := by omega
  have f1 : ¬ (2 : Int) ≤ (n : Int) := by omega
  have f4 : ¬ (2 : Int) < (n1 : Int) := by omega
  have f2 : ¬ (i : Int) < (L : Int) := by omega
  replace hj := hid hj
  replace hC := hid hC
  go_enter Try.func99, Try.ntmps99
  go_wp2_with fail
  refine hC.out.mono ?_
  rintro e w' ⟨rfl, hP⟩
  clear hC
  go_wp2_with fail
  go_end0
  exact ⟨rfl, hP⟩
set_option maxHeartbeats 1000000 in
set_option maxRecDepth 100000 in
theorem fill_D1 (p q i L N n c kc cq : Nat) (A Aq : Option Addr) (kad : Addr) (w : World) (z0 : w.cell? ⟨p, 0, none⟩ = some (.slice A L c)) (z1 : w.cell? ⟨p, 1, none⟩ = some (.slice (some kad) N kc)) (y0 : w.cell? (kad.add i) = some (.pointer (some ⟨q, 0, none⟩))) (y1 : w.cell? ⟨q, 0, none⟩ = some (.slice Aq n cq)) (lq : q < w.heap.size) (hi : i < N) (hN : N ≤ 10) (hL : L ≤ 10) (hn : n ≤ 10) (q1 j n1 c1 : Nat) (A1 : Option Addr) (hj : i = j + 1) (x0 : w.cell? (kad.add j) = some (.pointer (some ⟨q1, 0, none⟩))) (x1 : w.cell? ⟨q1, 0, none⟩ = some (.slice A1 n1 c1)) (lq1 : q1 < w.heap.size) (hn1 : n1 ≤ 10) (q2 k n2 c2 : Nat) (A2 : Option Addr) (hk : k = i + 1) (hkN : k < N) (u0 : w.cell? (kad.add k) = some (.pointer (some ⟨q2, 0, none⟩))) (u1 : w.cell? ⟨q2, 0, none⟩ = some (.slice A2 n2 c2)) (lq2 : q2 < w.heap.size) (hn2 : n2 ≤ 10) (h2 : n < 2) (h4 : n1 ≤ 2) (h1 : i < L) (h3 : n2 ≤ 2) (P : World → Prop) (hC : Calls Try.prog 121 #[.pointer (some ⟨p, 0, none⟩), .int .i64 j] w (fun e w' => e = .returned (.tuple #[]) ∧ P w')) :
    Calls Try.prog 99 #[.pointer (some ⟨p, 0, none⟩), .int .i64 i] w (fun e w' => e = .returned (.tuple #[]) ∧ P w') := by
  have lp := World.block_lt_of_cell? _ _ z0
  dsimp only at lp
  have hiN : (i : Int) < (N : Int) := by omega
  have j1 : IntKind.i64.wrap ((i : Int) - 1) = (j : Int) := by rw [IntWalk.i64_in _ (by omega)]; omega
  have j2 : ((i : Int) - 1) = (j : Int) := by omega
  have j3 : (j : Int) < (N : Int) := by omega
  have j4 : j < N := by omega
  have j5 : (0 : Int) < (i : Int) := by omega
  have k1 : IntKind.i64.wrap ((i : Int) + 1) = (k : Int) := by rw [IntWalk.i64_in _ (by omega)]; omega
  have k2 : ((i : Int) + 1) = (k : Int) := by omega
  have k3 : (k : Int) < (N : Int) := by omega
  have f1 : ¬ (2 : Int) ≤ (n : Int) := by omega
  have f4 : ¬ (2 : Int) < (n1 : Int) := by omega
  have f2 : (i : Int) < (L : Int) := by omega
  have f3 : ¬ (2 : Int) < (n2 : Int) := by omega
  replace hj := hid hj
  replace hk := hid hk
  replace hC := hid hC
  go_enter Try.func99, Try.ntmps99
  go_wp2_with fail
  refine hC.out.mono ?_
  rintro e w' ⟨rfl, hP⟩
  clear hC
  go_wp2_with fail
  go_end0
  exact ⟨rfl, hP⟩
set_option maxHeartbeats 1000000 in
set_option maxRecDepth 100000 in
theorem fill_E (p q i L N n c kc cq : Nat) (A Aq : Option Addr) (kad : Addr) (w : World) (z0 : w.cell? ⟨p, 0, none⟩ = some (.slice A L c)) (z1 : w.cell? ⟨p, 1, none⟩ = some (.slice (some kad) N kc)) (y0 : w.cell? (kad.add i) = some (.pointer (some ⟨q, 0, none⟩))) (y1 : w.cell? ⟨q, 0, none⟩ = some (.slice Aq n cq)) (lq : q < w.heap.size) (hi : i < N) (hN : N ≤ 10) (hL : L ≤ 10) (hn : n ≤ 10) (q2 k n2 c2 : Nat) (A2 : Option Addr) (hk : k = i + 1) (hkN : k < N) (u0 : w.cell? (kad.add k) = some (.pointer (some ⟨q2, 0, none⟩))) (u1 : w.cell? ⟨q2, 0, none⟩ = some (.slice A2 n2 c2)) (lq2 : q2 < w.heap.size) (hn2 : n2 ≤ 10) (h2 : n < 2) (h0 : i = 0) (h1 : i < L) (h3 : n2 ≤ 2) (P : World → Prop) (hC : Calls Try.prog 121 #[.pointer (some ⟨p, 0, none⟩), .int .i64 i] w (fun e w' => e = .returned (.tuple #[]) ∧ P w')) :
    Calls Try.prog 99 #[.pointer (some ⟨p, 0, none⟩), .int .i64 i] w (fun e w' => e = .returned (.tuple #[]) ∧ P w') := by
  have lp := World.block_lt_of_cell? _ _ z0
  dsimp only at lp
  have hiN : (i : Int) < (N : Int) := by omega
  have k1 : IntKind.i64.wrap ((i : Int) + 1) = (k : Int) := by rw [IntWalk.i64_in _ (by omega)]; omega
  have k2 : ((i : Int) + 1) = (k : Int) := by omega
  have k3 : (k : Int) < (N : Int) := by omega
  have f1 : ¬ (2 : Int) ≤ (n : Int) := by omega
  have f0 : ¬ (0 : Int) < (i : Int) := by omega
  have f2 : (i : Int) < (L : Int) := by omega
  have f3 : ¬ (2 : Int) < (n2 : Int) := by omega
  replace hk := hid hk
  replace h0 := hid h0
  replace hC := hid hC
  go_enter Try.func99, Try.ntmps99
  go_wp2_with fail
  refine hC.out.mono ?_
  rintro e w' ⟨rfl, hP⟩
  clear hC
  go_wp2_with fail
  go_end0
  exact ⟨rfl, hP⟩
theorem fill_any (h p i : Nat) (l : List Te) (ks : List BT) (f : Nat → Nat) (w : World) (hT : TN w (h + 1) p (.nd l ks) f) (hn : ∀ a, f a ≤ 1) (hN : Near h l ks i) (hl4 : l.length ≤ 4) :
    Calls Try.prog 99 #[.pointer (some ⟨p, 0, none⟩), .int .i64 i] w fun e w' => e = .returned (.tuple #[]) ∧ Turned w w' (h + 1) p f (fillT l ks i) := by
  have hkl := hN.len
  have hle := hN.le
  have n1 := hN.n1
  have hi3 := hN.it
  obtain ⟨A, c, kad, kc, z0, z1, zc1, zc2, hk⟩ := kid_cells hT (by omega)
  obtain ⟨q, Aq, cq, y0, y1, lq⟩ := hk i (by omega)
  unfold fillT
  by_cases h2 : 2 ≤ (kth ks i).l.length
  · rw [if_pos h2]
    refine (fill_A p q i l.length ks.length _ c kc cq A Aq kad w z0 z1 y0 y1 lq (by omega) (by omega) (by omega) (by omega) h2).mono ?_
    rintro e w' ⟨rfl, rfl⟩
    exact ⟨rfl, f, hT, hn, fun _ _ => Nat.le_refl _, FR.of_ext (Ext.refl w)⟩
  rw [if_neg h2]
  rcases Nat.eq_zero_or_pos i with h0 | h0
  · rw [if_neg (show ¬ (0 < i ∧ 2 < (kth ks (i - 1)).l.length) from fun hh => by omega)]
    have hr := hN.rest (i + 1) (by omega) (by omega)
    obtain ⟨q2, A2, c2, u0, u1, lq2⟩ := hk (i + 1) (by omega)
    by_cases h3 : 2 < (kth ks (i + 1)).l.length
    · rw [if_pos ⟨by omega, h3⟩]
      exact fill_C0 p q i l.length ks.length _ c kc cq A Aq kad w z0 z1 y0 y1 lq (by omega) (by omega) (by omega) (by omega) q2 (i + 1) _ c2 A2 rfl (by omega) u0 u1 lq2 (by omega) (by omega) h0 (by omega) h3 _ (right_T hT hn hkl hl4 (by omega) hi3.2.2 hr.2.2 (by omega) hi3.2.1 hr.2.1)
    · rw [if_neg (fun hh => h3 hh.2), if_neg (by omega)]
      exact fill_E p q i l.length ks.length _ c kc cq A Aq kad w z0 z1 y0 y1 lq (by omega) (by omega) (by omega) (by omega) q2 (i + 1) _ c2 A2 rfl (by omega) u0 u1 lq2 (by omega) (by omega) h0 (by omega) (by omega) _ (join_T hT hn hkl hl4 (by omega) hi3.2.2 hr.2.2 hi3.2.1 hr.2.1)
  · obtain ⟨j, rfl⟩ : ∃ j, i = j + 1 := ⟨i - 1, by omega⟩
    rw [Nat.add_sub_cancel]
    obtain ⟨q1, A1, c1, x0, x1, lq1⟩ := hk j (by omega)
    have hp := hN.rest j (by omega) (by omega)
    by_cases hB : 2 < (kth ks j).l.length
    · rw [if_pos ⟨h0, hB⟩]
      exact fill_B p q (j + 1) l.length ks.length _ c kc cq A Aq kad w z0 z1 y0 y1 lq (by omega) (by omega) (by omega) (by omega) q1 j _ c1 A1 rfl x0 x1 lq1 (by omega) (by omega) hB _ (left_T hT hn hkl hl4 rfl (by omega) hp.2.2 hi3.2.2 (by omega) hp.2.1 hi3.2.1)
    · rw [if_neg (fun hh => hB hh.2), if_pos h0]
      have hJ := join_T hT hn hkl hl4 (show j < l.length by omega) hp.2.2 hi3.2.2 hp.2.1 hi3.2.1
      by_cases h1 : j + 1 < l.length
      · have hr := hN.rest (j + 1 + 1) (by omega) (by omega)
        obtain ⟨q2, A2, c2, u0, u1, lq2⟩ := hk (j + 1 + 1) (by omega)
        by_cases h3 : 2 < (kth ks (j + 1 + 1)).l.length
        · rw [if_pos ⟨h1, h3⟩]
          exact fill_C1 p q (j + 1) l.length ks.length _ c kc cq A Aq kad w z0 z1 y0 y1 lq (by omega) (by omega) (by omega) (by omega) q1 j _ c1 A1 rfl x0 x1 lq1 (by omega) q2 (j + 1 + 1) _ c2 A2 rfl (by omega) u0 u1 lq2 (by omega) (by omega) (by omega) h1 h3 _ (right_T hT hn hkl hl4 (by omega) hi3.2.2 hr.2.2 (by omega) hi3.2.1 hr.2.1)
        · rw [if_neg (fun hh => h3 hh.2)]
          exact fill_D1 p q (j + 1) l.length ks.length _ c kc cq A Aq kad w z0 z1 y0 y1 lq (by omega) (by omega) (by omega) (by omega) q1 j _ c1 A1 rfl x0 x1 lq1 (by omega) q2 (j + 1 + 1) _ c2 A2 rfl (by omega) u0 u1 lq2 (by omega) (by omega) (by omega) h1 (by omega) _ hJ
      · rw [if_neg (fun hh => h1 hh.1)]
        exact fill_D0 p q (j + 1) l.length ks.length _ c kc cq A Aq kad w z0 z1 y0 y1 lq (by omega) (by omega) (by omega) (by omega) q1 j _ c1 A1 rfl x0 x1 lq1 (by omega) (by omega) (by omega) h1 _ hJ
end Go.Proofs.Ytpijfiaecicpfaa
