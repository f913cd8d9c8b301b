import Derived.Test.YtffcaoicokookaaT20
import Derived.Laws.ShiftsVarLaws
import Derived.Laws.BitsAllLaws
namespace Go.Proofs.Ytffcaoicokookaa
open Go.RowKit
set_option linter.unusedVariables false
set_option linter.unusedSimpArgs false

/-- The k-th byte's number (closed to simp). -/
def bth (l : List UInt8) (k : Nat) : Int := ((l.getD k 0).toNat : Int)
theorem bth_in (l : List UInt8) (k : Nat) : 0 ≤ bth l k ∧ bth l k ≤ 255 := by unfold bth; have := (l.getD k 0).toNat_lt; omega
theorem RdB.at_ {w : World} {A : Option Addr} {n c : Nat} {l : List UInt8} (h : RdB w A n c l) {k : Nat} (hk : k < n) : ∃ ad, A = some ad ∧ w.cell? (ad.add k) = some (.int .u8 (bth l k)) := by
  obtain ⟨ad, hA, hc⟩ := h.2.2.2 (by omega)
  have hl := h.len
  exact ⟨ad, hA, hc k _ (by simp [bytesC, byt, bth, List.getD, hl, hk])⟩
theorem RdB.cells {w : World} {ad : Addr} {n c : Nat} {l : List UInt8} (h : RdB w (some ad) n c l) {k : Nat} (hk : k < n) : w.cell? (ad.add k) = some (.int .u8 (bth l k)) := by
  obtain ⟨ad', hA, hc⟩ := h.at_ hk
  injection hA with hA
  subst hA
  exact hc
theorem RdB.ext {w w' : World} {A : Option Addr} {n c : Nat} {l : List UInt8} (h : RdB w A n c l) (hb : Ext w w') : RdB w' A n c l := Rd.ext h hb
theorem RdB.max {w : World} {A : Option Addr} {n c : Nat} {l : List UInt8} (h : RdB w A n c l) : n ≤ 9223372036854775807 ∧ n ≤ c ∧ c ≤ 9223372036854775807 := Rd.max h

/-- The j-th bit (closed to simp). -/
def bitv (l : List UInt8) (j : Nat) : Bool := bth l (j / 8) / 2 ^ (j % 8) % 2 == 1
/-- The numbers of the set bits among the first k. -/
def umTo (l : List UInt8) : Nat → List Int
  | 0 => []
  | j + 1 => if bitv l j then umTo l j ++ [(j : Int) + 1] else umTo l j
theorem umTo_yes (l : List UInt8) (j : Nat) (h : bitv l j = true) : umTo l (j + 1) = umTo l j ++ [(j : Int) + 1] := by simp [umTo, h]
theorem umTo_no (l : List UInt8) (j : Nat) (h : bitv l j = false) : umTo l (j + 1) = umTo l j := by simp [umTo, h]
/-- No set bit among the first k lies at N or behind it. -/
def goodTo (l : List UInt8) (N : Int) (k : Nat) : Bool := (List.range k).all fun j => !bitv l j || decide ((j : Int) < N)
theorem goodTo_succ (l : List UInt8) (N : Int) (k : Nat) : goodTo l N (k + 1) = (goodTo l N k && (!bitv l k || decide ((k : Int) < N))) := by simp [goodTo, List.range_succ, List.all_append]
theorem goodTo_bad (l : List UInt8) (N : Int) {k m : Nat} (hk : k < m) (h1 : bitv l k = true) (h2 : N ≤ (k : Int)) : goodTo l N m = false := by
  unfold goodTo
  rw [List.all_eq_false]
  exact ⟨k, by simpa using hk, by simp [h1]; omega⟩
def fitB (n : Nat) (N : Int) : Bool := (n : Int) == (N + 7) / 8
def unA (l : List UInt8) (N : Int) : List Int := if countB N && (fitB l.length N && goodTo l N (8 * l.length)) then umTo l (8 * l.length) else []
def unE (l : List UInt8) (N : Int) : Int := if countB N then (if fitB l.length N && goodTo l N (8 * l.length) then 0 else 11) else 1

theorem bit_and (l : List UInt8) (k : Nat) : (bits BinOp.and IntKind.u8 (bth l (k / 8) / 2 ^ (k % 8)) 1 == 0) = !bitv l k := by
  have h := bth_in l (k / 8)
  have h0 : 0 ≤ bth l (k / 8) / 2 ^ (k % 8) := Int.ediv_nonneg h.1 (by apply Int.le_of_lt; exact Int.pow_pos (by decide))
  have h1 : bth l (k / 8) / 2 ^ (k % 8) ≤ 255 := Int.le_trans (Int.ediv_le_self _ h.1) h.2
  unfold bitv
  generalize bth l (k / 8) / 2 ^ (k % 8) = x at *
  obtain ⟨X, rfl⟩ := Int.eq_ofNat_of_zero_le h0
  have hb : bits BinOp.and IntKind.u8 (X : Int) 1 = ((X % 2 : Nat) : Int) := by
    have : ∀ Y : Nat, Y ≤ 255 → bits BinOp.and IntKind.u8 (Y : Int) 1 = ((Y % 2 : Nat) : Int) := by decide +kernel
    exact this X (by omega)
  rw [hb]
  have e : ((X : Int) % 2) = ((X % 2 : Nat) : Int) := by omega
  rw [e]
  rcases Nat.mod_two_eq_zero_or_one X with h | h <;> rw [h] <;> decide

set_option maxRecDepth 100000 in
set_option maxHeartbeats 2000000 in
theorem Unmap_nc (A : Option Addr) (n c : Nat) (l : List UInt8) (N : Int) (w : World) (h1 : countB N = false) : Calls Try.prog 39 #[.slice A n c, .int .i64 N] w (GiveIN [] 1 w) := by
  go_enter Try.func39, Try.ntmps39
  go_wp2_with fail
  refine (isCount_any _ _).mono ?_
  rintro e w1 ⟨rfl, rfl⟩
  go_wp2
  go_ret2
  exact ⟨_, _, _, rfl, RdI.nil _, Ext.refl _, Fr.none_ _⟩

set_option maxRecDepth 100000 in
set_option maxHeartbeats 2000000 in
theorem Unmap_nf (A : Option Addr) (n c : Nat) (l : List UInt8) (N : Int) (w : World) (h0 : 0 ≤ N ∧ N ≤ 300) (h1 : countB N = true) (h2 : fitB n N = false) : Calls Try.prog 39 #[.slice A n c, .int .i64 N] w (GiveIN [] 11 w) := by
  have e2 : ((n : Int) != (N + 7) / 8) = true := by unfold fitB at h2; simpa [bne] using h2
  clear h2
  have ew := IntWalk.i64_in (N + 7) (by omega)
  go_enter Try.func39, Try.ntmps39
  go_wp2_with fail
  refine (isCount_any _ _).mono ?_
  rintro e w1 ⟨rfl, rfl⟩
  go_wp2
  go_ret2
  exact ⟨_, _, _, rfl, RdI.nil _, Ext.refl _, Fr.none_ _⟩

set_option maxRecDepth 100000 in
set_option maxHeartbeats 2000000 in
theorem Unmap_yes (A : Option Addr) (n c : Nat) (l : List UInt8) (N : Int) (w : World) (hs : RdB w A n c l) (h0 : 0 ≤ N ∧ N ≤ 300) (h1 : countB N = true) (h2 : fitB n N = true) (hn : n ≤ 40) : Calls Try.prog 39 #[.slice A n c, .int .i64 N] w (GiveIN (unA l N) (unE l N) w) := by
  obtain ⟨i0, hi, hz0, hz1, hz2⟩ := info_parts Try.info3
  have h2' := h2
  have e2 : ((n : Int) != (N + 7) / 8) = false := by unfold fitB at h2; simpa [bne] using h2
  clear h2
  have Hl := hid hs.len
  have HA : Hid (goodTo l N (8 * n) = true → unA l N = umTo l (8 * n) ∧ unE l N = 0) := by intro h; unfold unA unE; rw [Hl.out, h1, h2', h]; simp
  have HB : Hid (goodTo l N (8 * n) = false → unA l N = [] ∧ unE l N = 11) := by intro h; unfold unA unE; rw [Hl.out, h1, h2', h]; simp
  clear h2'
  have ew := IntWalk.i64_in (N + 7) (by omega)
  have ew2 := IntWalk.i64_in (8 * (n : Int)) (by omega)
  have ew3 : wrap64 (8 * (n : Int)) = 8 * (n : Int) := by unfold wrap64; omega
  go_enter Try.func39, Try.ntmps39
  go_wp2_with fail
  refine (isCount_any _ _).mono ?_
  rintro e w1 ⟨rfl, rfl⟩
  go_wp2
  go_loopw [6, 20] (fun v i wr => ∃ k j : Nat, k ≤ 8 * n ∧ j ≤ k ∧ i = .int .i64 k ∧ (Hid (goodTo l N k = true)) ∧ wr.ownsRow w.heap.size 3 1 v j (ints (umTo l k)) ∧ Below w.heap.size w wr) (fun _ i _ => 8 * n - (intOf i).toNat)
  case atStart => exact ⟨0, 0, by omega, by omega, rfl, (rfl : goodTo l N 0 = true), World.ownsRow_nil _ _ _ _, Below.refl _ _⟩
  case round =>
    obtain ⟨k, j, hk, hj, rfl, hg, hown, hb⟩ := hrel
    have hbs := hb.size
    by_cases hlt : k < 8 * n
    · obtain ⟨ad, rfl, hc⟩ := (hs.ext (w' := wr) hb).at_ (k := k / 8) (by omega)
      have hbi := bth_in l (k / 8)
      have hba := bit_and l k
      cases hbit : bitv l k
      · have hst := hid (umTo_no l k hbit)
        have hg2 : Hid (goodTo l N (k + 1) = true) := by unfold Hid; rw [goodTo_succ, hg.out, hbit]; rfl
        rw [hbit] at hba
        clear hbit
        go_wp2
        go_roundw
        case rel => exact ⟨k + 1, j, by omega, by omega, by go_num, hg2, by rw [hst.out]; exact hown, hb⟩
        case measure => simp [intOf]; omega
      · by_cases hN : N ≤ (k : Int)
        · have e3 : decide (N ≤ (k : Int)) = true := by simpa using hN
          have hbad := HB.out (goodTo_bad l N hlt hbit hN)
          have hE1 := hid hbad.1
          have hE2 := hid hbad.2
          rw [hbit] at hba
          clear hbit hN hbad
          go_wp2
          go_ret2
          exact ⟨none, 0, 0, by rw [hE2.out]; rfl, by rw [hE1.out]; exact RdI.nil _, hb, Fr.none_ _⟩
        · have e3 : decide (N ≤ (k : Int)) = false := by simpa using hN
          have hst := hid (umTo_yes l k hbit)
          have hg2 : Hid (goodTo l N (k + 1) = true) := by unfold Hid; rw [goodTo_succ, hg.out, hbit]; simp; omega
          rw [hbit] at hba
          clear hbit hN
          obtain ⟨A0, c0, rfl, -⟩ := own_form hown
          go_wp2_with (at_builtin; refine wpList_pushI _ rfl _ _ 22 rfl w.heap.size 3 i0 Try.underlying22 hi hz0 hz1 hz2 _ _ _ rfl hown ((k : Int) + 1) rfl (by omega) (by omega) ?_)
          intro g cap w1 hown1 hg1 _
          go_wp2
          go_roundw
          case rel => exact ⟨k + 1, j + 1, by omega, by omega, by go_num, hg2, by rw [hst.out]; exact hown1, below_push hb hown hg1 hbs⟩
          case measure => simp [intOf]; omega
    · go_wp2
      obtain ⟨A1, c1, rfl, hcc⟩ := own_form hown
      go_ret2
      obtain rfl : k = 8 * n := by omega
      have := HA.out hg.out
      exact ⟨A1, _, c1, by rw [this.2]; rfl, by rw [this.1]; exact Rd.of_own hown, hb, own_fresh hown⟩
end Go.Proofs.Ytffcaoicokookaa
