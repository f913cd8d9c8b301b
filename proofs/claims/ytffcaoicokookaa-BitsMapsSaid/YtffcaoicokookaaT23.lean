import Derived.Test.YtffcaoicokookaaT22
import Derived.OwnWalk
namespace Go.Proofs.Ytffcaoicokookaa
open Go.RowKit
set_option linter.unusedVariables false
set_option linter.unusedSimpArgs false

/-- How many bytes a number takes (0: none is there), and the number. -/
def tkN (l : List UInt8) : Nat := if l.length = 0 then 0 else if bth l 0 < 128 then 1 else if l.length = 1 then 0 else 2
def tkV (l : List UInt8) : Int := if bth l 0 < 128 then bth l 0 else bth l 0 - 128 + 128 * bth l 1
theorem tkN_le (l : List UInt8) : tkN l ≤ l.length := by unfold tkN; split; omega; split; omega; split <;> omega
theorem tkV_in (l : List UInt8) : 0 ≤ tkV l ∧ tkV l ≤ 40000 := by
  have h0 := bth_in l 0
  have h1 := bth_in l 1
  unfold tkV
  split <;> omega
theorem RdB.cut {w : World} {A : Option Addr} {n c : Nat} {l : List UInt8} (h : RdB w A n c l) {k : Nat} (hk : k ≤ n) :
    RdB w (if c = k then A else A.map (·.add k)) (n - k) (c - k) (l.drop k) := by
  have := Rd.cut h hk
  rw [Nat.mul_one, show (bytesC l).drop k = bytesC (l.drop k) by simp [bytesC]] at this
  exact this
/-- What take gives: the number, the rest, whether one is there. -/
def TakeP (A : Option Addr) (n c : Nat) (l : List UInt8) (w : World) (e : Ending) (w' : World) : Prop :=
  (Hid (tkN l = 0) ∧ (∃ B m d, e = .returned (.tuple #[.int .i64 0, .slice B m d, .bool false])) ∧ Dr w w') ∨
  (Hid (0 < tkN l) ∧ (∃ B m d, e = .returned (.tuple #[.int .i64 (tkV l), .slice B m d, .bool true]) ∧ ∀ w0, RdB w0 A n c l → RdB w0 B m d (l.drop (tkN l))) ∧ Dr w w')

set_option maxRecDepth 100000 in
set_option maxHeartbeats 2000000 in
theorem take_any (A : Option Addr) (n c : Nat) (l : List UInt8) (w : World) (hs : RdB w A n c l) : Calls Try.prog 65 #[.slice A n c] w (TakeP A n c l w) := by
  have Hl := hid hs.len
  have hm := hs.max
  have hb0 := bth_in l 0
  have hb1 := bth_in l 1
  rcases Nat.eq_zero_or_pos n with rfl | hn
  · have HN : Hid (tkN l = 0) := by unfold Hid tkN; rw [Hl.out]; rfl
    go_enter Try.func65, Try.ntmps65
    go_wp2
    go_ret3
    exact Or.inl ⟨HN, ⟨_, _, _, rfl⟩, Dr.refl _⟩
  · have e0 : ((n : Int) == 0) = false := by simp; omega
    obtain ⟨ad, rfl, -⟩ := hs.at_ hn
    have c0 : w.cell? ad = some (.int .u8 (bth l 0)) := by
      have := hs.cells hn
      rwa [show ad.add 0 = ad by unfold Addr.add; simp] at this
    by_cases h1 : bth l 0 < 128
    · have e1 : decide (bth l 0 < 128) = true := by simpa using h1
      have HN : Hid (tkN l = 1 ∧ tkV l = bth l 0) := by unfold Hid tkN tkV; rw [Hl.out, if_neg (by omega), if_pos h1, if_pos h1]; exact ⟨rfl, rfl⟩
      have Hc : Hid (∀ w0, RdB w0 (some ad) n c l → _) := fun w0 (h0 : RdB w0 (some ad) n c l) => h0.cut (k := 1) (by omega)
      have ew := IntWalk.i64_in (bth l 0) (by omega)
      clear h1
      go_enter Try.func65, Try.ntmps65
      go_wp2
      go_quiet (fail)
      go_wp2
      all_goals
        go_ret3
        refine Or.inr ⟨by unfold Hid; rw [HN.out.1]; decide, ⟨_, _, _, by rw [HN.out.2]; rfl, ?_⟩, Dr.mk1 _ _⟩
        intro w0 hw0
        have hq := Hc.out w0 (by first | exact hw0 | (rw [show c = 1 by assumption]; exact hw0) | (rw [show c = 2 by assumption]; exact hw0))
        rw [HN.out.1]
        by_cases hc1 : c = 1
        · rw [if_pos hc1, show c - 1 = 0 by omega] at hq; first | exact hq | (exfalso; exact absurd hc1 (by assumption))
        · rw [if_neg hc1] at hq; first | exact (show RdB w0 (some (ad.add 1)) _ _ _ from hq) | (unfold Addr.add at hq; exact hq) | (simpa [Addr.add] using hq) | (exfalso; omega)
    · have e1 : decide (bth l 0 < 128) = false := by simpa using h1
      by_cases h2 : n = 1
      · subst h2
        have HN : Hid (tkN l = 0) := by unfold Hid tkN; rw [Hl.out, if_neg (by omega), if_neg h1]; rfl
        clear h1
        go_enter Try.func65, Try.ntmps65
        go_wp2
        go_ret3
        exact Or.inl ⟨HN, ⟨_, _, _, rfl⟩, Dr.refl _⟩
      · have e2 : ((n : Int) == 1) = false := by simp; omega
        have HN : Hid (tkN l = 2 ∧ tkV l = bth l 0 - 128 + 128 * bth l 1) := by unfold Hid tkN tkV; rw [Hl.out, if_neg (by omega), if_neg h1, if_neg h1, if_neg h2]; exact ⟨rfl, rfl⟩
        have Hc : Hid (∀ w0, RdB w0 (some ad) n c l → _) := fun w0 (h0 : RdB w0 (some ad) n c l) => h0.cut (k := 2) (by omega)
        have c1 : w.cell? ⟨ad.block, ad.off + 1, none⟩ = some (.int .u8 (bth l 1)) := by
          have := hs.cells (k := 1) (by omega)
          rwa [show ad.add 1 = ⟨ad.block, ad.off + 1, none⟩ by unfold Addr.add; simp] at this
        have i1 : (1 : Int) < (n : Int) := by omega
        have ew := IntWalk.i64_in (bth l 0) (by omega)
        have ew1 := IntWalk.i64_in (bth l 1) (by omega)
        have ew2 := IntWalk.i64_in (bth l 0 - 128) (by omega)
        have ew3 := IntWalk.i64_in (128 * bth l 1) (by omega)
        have ew4 := IntWalk.i64_in (bth l 0 - 128 + 128 * bth l 1) (by omega)
        clear h1
        go_enter Try.func65, Try.ntmps65
        go_wp2
        go_quiet (fail)
        go_wp2
        all_goals
          go_ret3
          refine Or.inr ⟨by unfold Hid; rw [HN.out.1]; decide, ⟨_, _, _, by rw [HN.out.2]; rfl, ?_⟩, Dr.mk1 _ _⟩
          intro w0 hw0
          have hq := Hc.out w0 (by first | exact hw0 | (rw [show c = 1 by assumption]; exact hw0) | (rw [show c = 2 by assumption]; exact hw0))
          rw [HN.out.1]
          by_cases hc1 : c = 2
          · rw [if_pos hc1, show c - 2 = 0 by omega] at hq; first | exact hq | (exfalso; exact absurd hc1 (by assumption))
          · rw [if_neg hc1] at hq; first | exact (show RdB w0 (some (ad.add 2)) _ _ _ from hq) | (unfold Addr.add at hq; exact hq) | (simpa [Addr.add] using hq) | (exfalso; omega)

set_option maxRecDepth 100000 in
set_option maxHeartbeats 2000000 in
theorem rtake_any (A : Option Addr) (n c : Nat) (l : List UInt8) (w : World) (hs : RdB w A n c l) : Calls Try.prog 68 #[.slice A n c] w fun e w' => (∃ x, e = .returned (.tuple #[.int .i64 x, .int .i64 (tkN l)]) ∧ Hid (0 < tkN l → x = tkV l) ∧ 0 ≤ x ∧ x ≤ 40000) ∧ Dr w w' := by
  have Hl := hid hs.len
  have hm := hs.max
  have hb0 := bth_in l 0
  have hb1 := bth_in l 1
  rcases Nat.eq_zero_or_pos n with rfl | hn
  · have HN : Hid (tkN l = 0) := by unfold Hid tkN; rw [Hl.out]; rfl
    go_enter Try.func68, Try.ntmps68
    go_wp2
    go_ret2
    exact ⟨⟨0, by rw [HN.out]; rfl, fun h => absurd h (by rw [HN.out]; decide), by omega, by omega⟩, Dr.refl _⟩
  · have e0 : ((n : Int) == 0) = false := by simp; omega
    obtain ⟨ad, rfl, -⟩ := hs.at_ hn
    have c0 : w.cell? ad = some (.int .u8 (bth l 0)) := by
      have := hs.cells hn
      rwa [show ad.add 0 = ad by unfold Addr.add; simp] at this
    by_cases h1 : bth l 0 < 128
    · have e1 : decide (bth l 0 < 128) = true := by simpa using h1
      have HN : Hid (tkN l = 1 ∧ tkV l = bth l 0) := by unfold Hid tkN tkV; rw [Hl.out, if_neg (by omega), if_pos h1, if_pos h1]; exact ⟨rfl, rfl⟩
      have ew := IntWalk.i64_in (bth l 0) (by omega)
      clear h1
      go_enter Try.func68, Try.ntmps68
      go_wp2
      go_ret2
      exact ⟨⟨_, by rw [HN.out.1]; rfl, fun _ => HN.out.2.symm, by omega, by omega⟩, Dr.refl _⟩
    · have e1 : decide (bth l 0 < 128) = false := by simpa using h1
      by_cases h2 : n = 1
      · subst h2
        have HN : Hid (tkN l = 0) := by unfold Hid tkN; rw [Hl.out, if_neg (by omega), if_neg h1]; rfl
        clear h1
        go_enter Try.func68, Try.ntmps68
        go_wp2
        go_ret2
        exact ⟨⟨0, by rw [HN.out]; rfl, fun h => absurd h (by rw [HN.out]; decide), by omega, by omega⟩, Dr.refl _⟩
      · have e2 : ((n : Int) == 1) = false := by simp; omega
        have HN : Hid (tkN l = 2 ∧ tkV l = bth l 0 - 128 + 128 * bth l 1) := by unfold Hid tkN tkV; rw [Hl.out, if_neg (by omega), if_neg h1, if_neg h1, if_neg h2]; exact ⟨rfl, rfl⟩
        have c1 : w.cell? ⟨ad.block, ad.off + 1, none⟩ = some (.int .u8 (bth l 1)) := by
          have := hs.cells (k := 1) (by omega)
          rwa [show ad.add 1 = ⟨ad.block, ad.off + 1, none⟩ by unfold Addr.add; simp] at this
        have i1 : (1 : Int) < (n : Int) := by omega
        have ew := IntWalk.i64_in (bth l 0) (by omega)
        have ew1 := IntWalk.i64_in (bth l 1) (by omega)
        have ew2 := IntWalk.i64_in (bth l 0 - 128) (by omega)
        have ew3 := IntWalk.i64_in (128 * bth l 1) (by omega)
        have ew4 := IntWalk.i64_in (bth l 0 - 128 + 128 * bth l 1) (by omega)
        have Hge : Hid (128 ≤ bth l 0) := by unfold Hid; omega
        clear h1
        go_enter Try.func68, Try.ntmps68
        go_wp2
        go_quiet (fail)
        go_wp2
        go_ret2
        exact ⟨⟨_, by rw [HN.out.1]; rfl, fun _ => HN.out.2.symm, by have := Hge.out; omega, by omega⟩, Dr.mk1 _ _⟩

theorem bsame_round (l m : List UInt8) (k : Nat) (hl : k < l.length) (hm : k < m.length) (h : l.take k = m.take k) (he : (bth l k != bth m k) = false) : l.take (k+1) = m.take (k+1) := by
  rw [List.take_succ_eq_append_getElem hl, List.take_succ_eq_append_getElem hm, h]
  simp [bth, List.getD, hl, hm] at he
  have he' : l[k] = m[k] := UInt8.toNat_inj.1 (by omega)
  rw [he']
theorem bsame_no (l m : List UInt8) (k : Nat) (he : (bth l k != bth m k) = true) : decide (l = m) = false := by
  simp
  rintro rfl
  simp at he

set_option maxHeartbeats 400000 in
theorem bsame_any (A : Option Addr) (n c : Nat) (l : List UInt8) (B : Option Addr) (m d : Nat) (k : List UInt8) (w : World) (hs : RdB w A n c l) (ht : RdB w B m d k) :
    Calls Try.prog 66 #[.slice A n c, .slice B m d] w (Quiet (.bool (decide (l = k))) w) := by
  have hl := hs.len
  have hk := ht.len
  have hm := hs.max
  by_cases hnm : n = m
  · subst hnm
    have hb : ((n : Int) != (n : Int)) = false := by simp
    have Hl := hid hl; clear hl
    have Hk := hid hk; clear hk
    go_enter Try.func66, Try.ntmps66
    go_wp2
    go_loopw [13] (fun i wr => (∃ j : Nat, j ≤ n ∧ i = .int .i64 j ∧ l.take j = k.take j) ∧ Dr w wr) (fun i _ => n - (intOf i).toNat)
    case atStart => exact ⟨⟨0, by omega, rfl, by simp⟩, Dr.refl _⟩
    case round =>
      obtain ⟨⟨j, hj, rfl, hno⟩, q, rfl⟩ := hrel
      have Hno := hid hno; clear hno
      by_cases hlt : j < n
      · obtain ⟨ad, rfl, hc⟩ := hs.at_ hlt
        obtain ⟨bd, rfl, hd⟩ := ht.at_ hlt
        go_wp2
        go_quiet (fail)
        go_wp2
        · go_ret
          exact ⟨ret_bool (bsame_no l k j (by assumption)).symm, by first | exact Dr.mk1 _ _ | exact Dr.mk2 _ _ _⟩
        · go_roundw
          case rel => exact ⟨⟨j + 1, by omega, by go_num, bsame_round l k j (by rw [Hl.out]; exact hlt) (by rw [Hk.out]; exact hlt) Hno.out (by assumption)⟩, by first | exact Dr.mk1 _ _ | exact Dr.mk2 _ _ _⟩
          case measure => simp [intOf]; omega
      · go_wp2
        go_ret
        have h := Hno.out
        rw [List.take_of_length_le (by rw [Hl.out]; omega), List.take_of_length_le (by rw [Hk.out]; omega)] at h
        exact ⟨ret_bool (by simp [h]), Dr.mk1 _ _⟩
  · have hb : ((n : Int) != (m : Int)) = true := by simp; omega
    have h : decide (l = k) = false := by simp; rintro rfl; omega
    clear hl hk
    go_enter Try.func66, Try.ntmps66
    go_wp2
    go_ret
    exact ⟨ret_bool h.symm, Dr.refl _⟩
end Go.Proofs.Ytffcaoicokookaa
