import Derived.Test.YtffcaoicokookaaT21
namespace Go.Proofs.Ytffcaoicokookaa
open Go.RowKit
set_option linter.unusedVariables false
set_option linter.unusedSimpArgs false

set_option maxRecDepth 100000 in
set_option maxHeartbeats 2000000 in
theorem rUnmap_nc (A : Option Addr) (n c : Nat) (l : List UInt8) (N : Int) (w : World) (h1' : countB N = false) : Calls Try.prog 40 #[.slice A n c, .int .i64 N] w (GiveIN [] 1 w) := by
  have h1 : belowB [] N = false := by rw [below_nil]; exact h1'
  clear h1'
  go_enter Try.func40, Try.ntmps40
  go_wp2_with fail
  refine (isBelow_any _ _ _ _ _ _ (RdI.nil _)).mono ?_
  rintro e w1 ⟨rfl, rfl⟩
  go_wp2
  go_ret2
  exact ⟨_, _, _, rfl, RdI.nil _, Ext.refl _, Fr.none_ _⟩

set_option maxRecDepth 100000 in
set_option maxHeartbeats 2000000 in
theorem rUnmap_nf (A : Option Addr) (n c : Nat) (l : List UInt8) (N : Int) (w : World) (h0 : 0 ≤ N ∧ N ≤ 300) (h1' : countB N = true) (h2 : fitB n N = false) : Calls Try.prog 40 #[.slice A n c, .int .i64 N] w (GiveIN [] 11 w) := by
  have e2 : ((n : Int) != (N + 7) / 8) = true := by unfold fitB at h2; simpa [bne] using h2
  clear h2
  have ew := IntWalk.i64_in (N + 7) (by omega)
  have h1 : belowB [] N = true := by rw [below_nil]; exact h1'
  clear h1'
  go_enter Try.func40, Try.ntmps40
  go_wp2_with fail
  refine (isBelow_any _ _ _ _ _ _ (RdI.nil _)).mono ?_
  rintro e w1 ⟨rfl, rfl⟩
  go_wp2
  go_ret2
  exact ⟨_, _, _, rfl, RdI.nil _, Ext.refl _, Fr.none_ _⟩

set_option maxRecDepth 100000 in
set_option maxHeartbeats 2000000 in
theorem rUnmap_yes (A : Option Addr) (n c : Nat) (l : List UInt8) (N : Int) (w : World) (hs : RdB w A n c l) (h0 : 0 ≤ N ∧ N ≤ 300) (h1' : countB N = true) (h2 : fitB n N = true) (hn : n ≤ 40) : Calls Try.prog 40 #[.slice A n c, .int .i64 N] w (GiveIN (unA l N) (unE l N) w) := by
  have h1 := h1'
  obtain ⟨i0, hi, hz0, hz1, hz2⟩ := info_parts Try.info3
  have h2' := h2
  have e2 : ((n : Int) != (N + 7) / 8) = false := by unfold fitB at h2; simpa [bne] using h2
  clear h2
  have Hl := hid hs.len
  have HA : Hid (goodTo l N (8 * n) = true → unA l N = umTo l (8 * n) ∧ unE l N = 0) := by intro h; unfold unA unE; rw [Hl.out, h1, h2', h]; simp
  have HB : Hid (goodTo l N (8 * n) = false → unA l N = [] ∧ unE l N = 11) := by intro h; unfold unA unE; rw [Hl.out, h1, h2', h]; simp
  clear h2'
  have ew := IntWalk.i64_in (N + 7) (by omega)
  have ew2 := IntWalk.i64_in (8 * (n : Int)) (by omega)
  have ew3 : wrap64 (8 * (n : Int)) = 8 * (n : Int) := by unfold wrap64; omega
  have h1 : belowB [] N = true := by rw [below_nil]; exact h1'
  clear h1'
  go_enter Try.func40, Try.ntmps40
  go_wp2_with fail
  refine (isBelow_any _ _ _ _ _ _ (RdI.nil _)).mono ?_
  rintro e w1 ⟨rfl, rfl⟩
  go_wp2
  go_loopw [6, 7] (fun v i wr => ∃ k j : Nat, k ≤ 8 * n ∧ j ≤ k ∧ i = .int .i64 ((k : Int) + 1) ∧ (Hid (goodTo l N k = true)) ∧ wr.ownsRow w.heap.size 3 1 v j (ints (umTo l k)) ∧ Below w.heap.size w wr) (fun _ i _ => 8 * n + 1 - (intOf i).toNat)
  case atStart => exact ⟨0, 0, by omega, by omega, rfl, (rfl : goodTo l N 0 = true), World.ownsRow_nil _ _ _ _, Below.refl _ _⟩
  case round =>
    obtain ⟨k, j, hk, hj, rfl, hg, hown, hb⟩ := hrel
    have hbs := hb.size
    by_cases hlt : k < 8 * n
    · obtain ⟨ad, rfl, hc⟩ := (hs.ext (w' := wr) hb).at_ (k := k / 8) (by omega)
      have hbi := bth_in l (k / 8)
      have hba := bit_and l k
      cases hbit : bitv l k
      · have hst := hid (umTo_no l k hbit)
        have hg2 : Hid (goodTo l N (k + 1) = true) := by unfold Hid; rw [goodTo_succ, hg.out, hbit]; rfl
        rw [hbit] at hba
        clear hbit
        go_wp2
        go_roundw
        case rel => exact ⟨k + 1, j, by omega, by omega, by go_num, hg2, by rw [hst.out]; exact hown, hb⟩
        case measure => simp [intOf]; omega
      · by_cases hN : N ≤ (k : Int)
        · have e3 : decide (N < (k : Int) + 1) = true := by simp; omega
          have hbad := HB.out (goodTo_bad l N hlt hbit hN)
          have hE1 := hid hbad.1
          have hE2 := hid hbad.2
          rw [hbit] at hba
          clear hbit hN hbad
          go_wp2
          go_ret2
          exact ⟨none, 0, 0, by rw [hE2.out]; rfl, by rw [hE1.out]; exact RdI.nil _, hb, Fr.none_ _⟩
        · have e3 : decide (N < (k : Int) + 1) = false := by simp; omega
          have hst := hid (umTo_yes l k hbit)
          have hg2 : Hid (goodTo l N (k + 1) = true) := by unfold Hid; rw [goodTo_succ, hg.out, hbit]; simp; omega
          rw [hbit] at hba
          clear hbit hN
          obtain ⟨A0, c0, rfl, -⟩ := own_form hown
          go_wp2_with (at_builtin; refine wpList_pushI _ rfl _ _ 22 rfl w.heap.size 3 i0 Try.underlying22 hi hz0 hz1 hz2 _ _ _ rfl hown ((k : Int) + 1) rfl (by omega) (by omega) ?_)
          intro g cap w1 hown1 hg1 _
          go_wp2
          go_roundw
          case rel => exact ⟨k + 1, j + 1, by omega, by omega, by go_num, hg2, by rw [hst.out]; exact hown1, below_push hb hown hg1 hbs⟩
          case measure => simp [intOf]; omega
    · go_wp2
      obtain ⟨A1, c1, rfl, hcc⟩ := own_form hown
      go_ret2
      obtain rfl : k = 8 * n := by omega
      have := HA.out hg.out
      exact ⟨A1, _, c1, by rw [this.2]; rfl, by rw [this.1]; exact Rd.of_own hown, hb, own_fresh hown⟩
end Go.Proofs.Ytffcaoicokookaa
