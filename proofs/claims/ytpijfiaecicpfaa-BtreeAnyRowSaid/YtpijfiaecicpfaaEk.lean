/-
  The entries between two keys; Count.
-/
import Derived.Test.YtpijfiaecicpfaaEj
import Derived.Test.YtpijfiaecicpfaaEb
namespace Go.Proofs.Ytpijfiaecicpfaa
open Go.RowKit Go.Shelf
set_option linter.unusedVariables false
set_option linter.unusedSimpArgs false
/-- What a call gives: a slice that reads as entries. -/
def GiveN (l : List Te) (w : World) (e : Ending) (w' : World) : Prop := ∃ A c, e = .returned (.slice A l.length c) ∧ RdN w' A l.length c l ∧ Ext w w'
theorem betw_len (L : List Te) (lo hi : ByteArray) (h : endR L hi ≤ L.length) : (betwT L lo hi).length = endR L hi - min (keyR L lo) (endR L hi) := by
  unfold betwT
  rw [List.length_drop, List.length_take, Nat.min_eq_left h]
theorem end_le {L : List Te} (hS : Srt L) (hi : ByteArray) : endR L hi ≤ L.length := by
  unfold endR
  split
  · exact Nat.le_refl _
  · exact (keyR_cut hS hi).1
theorem rd_part {w : World} {B c a b : Nat} {A : Option Addr} {L : List Te} (h : w.ownsRow B 71 2 (.slice A L.length c) L.length (tents L)) (hab : a ≤ b) (hb : b ≤ L.length) : RdN w (if c = a then A else A.map (·.add (a * 2))) (b - a) (c - a) ((L.take b).drop a) := by
  have hl : ((L.take b).drop a).length = b - a := by rw [List.length_drop, List.length_take, Nat.min_eq_left hb]
  have hr := Rd.of_own h
  have hmx := Rd.max hr
  have e0 : tents ((L.take b).drop a) = ((tents L).drop (a * 2)).take ((b - a) * 2) := by
    rw [tents_drop, tents_take, List.drop_take]
  rcases Nat.eq_zero_or_pos (b - a) with h0 | h0
  · refine ⟨by rw [tents_len, hl], by omega, by unfold maxLen; omega, fun h1 => by omega⟩
  · rw [if_neg (by omega)]
    obtain ⟨ad, rfl, -⟩ := hr.2.2.2 (by omega)
    have e := own_lit h
    rw [e] at hr
    have h2 := hr.sub hab hb
    rw [← e0] at h2
    rw [e]
    show Rd w 2 (some ((⟨ad.block, 0, none⟩ : Addr).add (a * 2))) _ _ _
    rw [lit_add, Nat.zero_add]
    exact h2
set_option maxRecDepth 100000 in
set_option maxHeartbeats 4000000 in
theorem between_any (t : Nat) (L : List Te) (h p : Nat) (T : BT) (fT : Nat → Nat) (lo hi : ByteArray) (w : World) (H : TreeAt 0 w t L h p T fT) (l : List Te) (hl : Hid (l = betwT L lo hi)) : Calls Try.prog 63 #[.pointer (some ⟨t, 0, none⟩), .string lo, .string hi] w (GiveN l w) := by
  have hE := hid (entries_any t L h p T fT w H)
  have hsr := hid H.sr
  have hle := hid H.le
  clear H
  have hend := end_le hsr.out hi
  have hlo := (keyR_cut hsr.out lo).1
  have hln := betw_len L lo hi hend
  rw [← hl.out] at hln
  obtain ⟨en, hen⟩ : ∃ en, endR L hi = en := ⟨_, rfl⟩
  obtain ⟨r, hr⟩ : ∃ r, keyR L lo = r := ⟨_, rfl⟩
  obtain ⟨a, ha⟩ : ∃ a, min r en = a := ⟨_, rfl⟩
  rw [hen] at hend hln
  rw [hr] at hlo hln
  rw [ha] at hln
  have hae : a ≤ en := by omega
  have hfk := hid (fun (A : Option Addr) (c : Nat) (w2 : World) (hrd : RdN w2 A L.length c L) (s : ByteArray) => fromKey_any A L.length c L s w2 hrd hsr.out (by have := hle.out; omega))
  have hpart : Hid (l = (L.take en).drop a) := by unfold Hid; rw [hl.out]; unfold betwT; rw [hen, hr, ha]
  have hen2 := hen
  unfold endR at hen2
  have hmn : min (r : Int) (en : Int) = (a : Int) := by omega
  replace hln := hid hln
  replace hen := hid hen
  replace ha := hid ha
  have hle10 : L.length ≤ 10000 := hle.out
  have hae2 : (a : Int) ≤ (en : Int) := by omega
  have hfl := hid (fun (A : Option Addr) (c : Nat) (w2 : World) (hrd : RdN w2 A L.length c L) => hfk.out A c w2 hrd lo)
  rw [hr] at hfl
  replace hr := hid hr
  by_cases hb : hi = ⟨#[]⟩
  · rw [if_pos hb] at hen2
    subst hb
    subst hen2
    clear hen
    go_enter Try.func63, Try.ntmps63
    go_wp2_with fail
    refine hE.out.mono ?_
    rintro e w2 ⟨v, rfl, own2, hx⟩
    obtain ⟨A, c, rfl, -⟩ := own_form own2
    have hrd := hid (show RdN w2 A L.length c L from Rd.of_own own2)
    have hmx := Rd.max hrd.out
    have own2' := hid own2
    replace hx := hid hx
    clear own2
    go_wp2_with fail
    refine (hfl.out A c w2 hrd.out).mono ?_
    rintro e w3 ⟨rfl, hx3⟩
    replace hx := hid (hx.out.trans hx3)
    have hrd3 := hid (rd_part (hx3.own own2'.out) hae (Nat.le_refl _))
    rw [← hpart.out] at hrd3
    clear hx3
    by_cases hca : c = a
    · rw [if_pos hca, hca, Nat.sub_self] at hrd3
      go_wp2
      go_ret
      exact ⟨A, 0, by rw [hln.out]; rfl, by rw [hln.out]; exact hrd3.out, hx.out⟩
    · rw [if_neg hca] at hrd3
      go_wp2
      go_ret
      exact ⟨_, _, by rw [hln.out]; rfl, by rw [hln.out]; exact hrd3.out, hx.out⟩
  · rw [if_neg hb] at hen2
    have hfh := hid (fun (A : Option Addr) (c : Nat) (w2 : World) (hrd : RdN w2 A L.length c L) => hfk.out A c w2 hrd hi)
    rw [hen2] at hfh
    clear hen hen2
    have hbe : hi.toList.isEmpty = false := by
      cases he : hi.toList.isEmpty with
      | false => rfl
      | true => exact absurd (empty_is he) hb
    go_enter Try.func63, Try.ntmps63
    go_wp2_with fail
    refine hE.out.mono ?_
    rintro e w2 ⟨v, rfl, own2, hx⟩
    obtain ⟨A, c, rfl, -⟩ := own_form own2
    have hrd := hid (show RdN w2 A L.length c L from Rd.of_own own2)
    have hmx := Rd.max hrd.out
    have own2' := hid own2
    replace hx := hid hx
    clear own2
    go_wp2_with fail
    refine (hfh.out A c w2 hrd.out).mono ?_
    rintro e w3 ⟨rfl, hx3⟩
    replace hx := hid (hx.out.trans hx3)
    replace own2' := hid (hx3.own own2'.out)
    replace hrd := hid (hrd.out.ext hx3)
    clear hx3
    go_wp2_with fail
    refine (hfl.out A c w3 hrd.out).mono ?_
    rintro e w4 ⟨rfl, hx4⟩
    replace hx := hid (hx.out.trans hx4)
    have hrd3 := hid (rd_part (hx4.own own2'.out) hae hend)
    rw [← hpart.out] at hrd3
    clear hx4
    by_cases hca : c = a
    · rw [if_pos hca, hca, Nat.sub_self] at hrd3
      go_wp2
      go_ret
      exact ⟨A, 0, by rw [hln.out]; rfl, by rw [hln.out]; exact hrd3.out, hx.out⟩
    · rw [if_neg hca] at hrd3
      go_wp2
      go_ret
      exact ⟨_, _, by rw [hln.out]; rfl, by rw [hln.out]; exact hrd3.out, hx.out⟩
set_option maxRecDepth 100000 in
set_option maxHeartbeats 4000000 in
theorem Count_any (t : Nat) (L : List Te) (h p : Nat) (T : BT) (fT : Nat → Nat) (lo hi : ByteArray) (w : World) (H : TreeAt 0 w t L h p T fT) (l : List Te) (hl : Hid (l = betwT L lo hi)) : Calls Try.prog 36 #[.pointer (some ⟨t, 0, none⟩), .string lo, .string hi] w (Give (.int .i64 l.length) w) := by
  have hB := hid (between_any t L h p T fT lo hi w H l hl)
  clear H
  go_enter Try.func36, Try.ntmps36
  go_wp2_with fail
  refine hB.out.mono ?_
  rintro e w2 ⟨A, c, rfl, hrd, hx⟩
  have hmx := Rd.max hrd
  clear hrd
  go_wp2
  go_ret
  exact ⟨rfl, hx⟩
end Go.Proofs.Ytpijfiaecicpfaa
