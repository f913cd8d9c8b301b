/-
  Is a text as a pattern says: the program.
-/
import Derived.Test.YtlhnabkfacmmnaaPg15
import Derived.Test.YtlhnabkfacmmnaaPgLm
import Derived.WalkMore
namespace Go.Proofs.Ytlhnabkfacmmnaa
open Go.RowKit
set_option linter.unusedVariables false
set_option linter.unusedSimpArgs false
def qW (p c : Int) (a b : UInt8) : Bool := weightS (a.toNat : Int) p c == weightS (b.toNat : Int) p c
def likeB (P S : ByteArray) (p c : Int) : Bool := mat (qW p c) P.data.toList S.data.toList
def okT (p c : Int) (l : List ByteArray) (b : Bool) : Bool := if askC p c l = 0 then b else false
def GiveBE (b : Bool) (y : Int) (w : World) (e : Ending) (w' : World) : Prop := e = .returned (.tuple #[.bool b, .int .i64 y]) ∧ Ext w w'
def starV : Option Nat → Int | none => -1 | some r => r
/-- What holds in the loop, with the slots' numbers. -/
def StI (p c : Int) (P S : ByteArray) (sv : Int) (pp aa fr : Nat) : Prop := fr ≤ aa ∧ ∃ st, sv = starV st ∧ (∀ r, st = some r → r < pp) ∧ LkI (qW p c) P.data.toList S.data.toList pp aa st fr
def NoM (p c : Int) (P S : ByteArray) (pp aa : Nat) : Prop := MD (qW p c) P.data.toList S.data.toList pp aa = false
section
variable {p c sv : Int} {P S : ByteArray} {pp aa fr : Nat}
theorem u8_42 (b : UInt8) : ((b.toNat : Int) == 42) = (b == 42) := by
  rw [Bool.eq_iff_iff, beq_iff_eq, beq_iff_eq]
  exact ⟨fun h => UInt8.toNat_inj.1 (by show b.toNat = 42; omega), fun h => by rw [h]; rfl⟩
theorem u8_63 (b : UInt8) : ((b.toNat : Int) == 63) = (b == 63) := by
  rw [Bool.eq_iff_iff, beq_iff_eq, beq_iff_eq]
  exact ⟨fun h => UInt8.toNat_inj.1 (by show b.toNat = 63; omega), fun h => by rw [h]; rfl⟩
theorem szl (P : ByteArray) : P.data.toList.length = P.size := rfl
theorem gtl (P : ByteArray) {k : Nat} (hk : k < P.size) : P.data.toList[k]'hk = P[k] := rfl
theorem StI.start : StI p c P S (-1) 0 0 0 := ⟨Nat.le_refl _, none, rfl, fun _ h => (by cases h), LkI.start⟩
theorem StI.rng (h : StI p c P S sv pp aa fr) : -1 ≤ sv ∧ sv < pp ∧ fr ≤ aa := by
  obtain ⟨h1, st, rfl, h2, _⟩ := h
  cases st with
  | none => exact ⟨by simp [starV], by show (-1 : Int) < pp; omega, h1⟩
  | some r => have := h2 r rfl; exact ⟨by show (-1 : Int) ≤ (r : Int); omega, by show (r : Int) < pp; omega, h1⟩
theorem StI.star (h : StI p c P S sv pp aa fr) (hp : pp < P.size) (h2 : ((P[pp].toNat : Int) == 42) = true) (ha : aa ≤ S.size) : StI p c P S pp (pp + 1) aa aa := by
  obtain ⟨h1, st, rfl, h3, h4⟩ := h
  rw [u8_42, beq_iff_eq] at h2
  exact ⟨Nat.le_refl _, some pp, rfl, fun r hr => by injection hr with hr; omega, h4.star (by rw [szl]; exact hp) (by rw [gtl]; exact h2) (by rw [szl]; exact ha)⟩
theorem ne42 {b : UInt8} (h : ((b.toNat : Int) == 42) = false) : b ≠ 42 := by
  rw [u8_42] at h
  intro e
  rw [e] at h
  cases h
theorem StI.step (h : StI p c P S sv pp aa fr) (hp : pp < P.size) (ha : aa < S.size) (h2 : ((P[pp].toNat : Int) == 42) = false) (ok : ((P[pp].toNat : Int) == 63) = true ∨ (weightS (P[pp].toNat : Int) p c == weightS (S[aa].toNat : Int) p c) = true) : StI p c P S sv (pp + 1) (aa + 1) fr := by
  obtain ⟨h1, st, rfl, h3, h4⟩ := h
  refine ⟨by omega, st, rfl, fun r hr => by have := h3 r hr; omega, h4.step (by rw [szl]; exact hp) (by rw [szl]; exact ha) (by rw [gtl]; exact ne42 h2) ?_⟩
  rw [Bool.or_eq_true, gtl P hp, gtl S ha]
  rw [u8_63] at ok
  exact ok
theorem StI.back (h : StI p c P S sv pp aa fr) (hn : NoM p c P S pp aa) (h0 : 0 ≤ sv) (hf : fr < S.size) : StI p c P S sv (sv.toNat + 1) (fr + 1) (fr + 1) := by
  obtain ⟨h1, st, rfl, h3, h4⟩ := h
  cases st with
  | none => exact absurd h0 (by decide)
  | some r => exact ⟨Nat.le_refl _, some r, rfl, fun r' hr => by injection hr with hr; subst hr; show r < (r : Int).toNat + 1; omega, by have := h4.back hn (by rw [szl]; exact hf); simpa [starV] using this⟩
theorem StI.no (h : StI p c P S sv pp aa fr) (hn : NoM p c P S pp aa) (h0 : sv < 0 ∨ S.size ≤ fr) : likeB P S p c = false := by
  obtain ⟨h1, st, rfl, h3, h4⟩ := h
  refine h4.no hn ?_
  rw [szl]
  cases st with
  | none => exact Or.inl rfl
  | some r => exact Or.inr (by rcases h0 with h | h; · simp [starV] at h; omega
                               · exact h)
theorem StI.yes (h : StI p c P S sv pp aa fr) (hp : P.size ≤ pp) (ha : S.size ≤ aa) : likeB P S p c = true := by
  obtain ⟨h1, st, rfl, h3, h4⟩ := h
  exact h4.yes hp ha
theorem noM1 (hp : pp < P.size) (h2 : ((P[pp].toNat : Int) == 42) = false) (ha : ¬ aa < S.size) : NoM p c P S pp aa := MD_no1 (by rw [szl]; exact hp) (by rw [gtl]; exact ne42 h2) (by rw [szl]; exact ha)
theorem noM2 (hp : pp < P.size) (h2 : ((P[pp].toNat : Int) == 42) = false) (ha : aa < S.size) (q1 : ((P[pp].toNat : Int) == 63) = false) (q2 : (weightS (P[pp].toNat : Int) p c == weightS (S[aa].toNat : Int) p c) = false) : NoM p c P S pp aa := by
  refine MD_no2 (by rw [szl]; exact hp) (by rw [gtl]; exact ne42 h2) (by rw [szl]; exact ha) ?_
  rw [gtl P hp, gtl S ha]
  rw [u8_63] at q1
  rw [Bool.or_eq_false_iff]
  exact ⟨q1, q2⟩
theorem noM3 (hp : ¬ pp < P.size) (ha : aa < S.size) : NoM p c P S pp aa := MD_no3 (by rw [szl]; exact hp) (by rw [szl]; exact ha)
end
theorem mul_dn (a b n : Nat) (h : b + 1 = a) : a * (n + 1) = b * (n + 1) + (n + 1) := by subst h; rw [Nat.add_mul, Nat.one_mul]
set_option maxRecDepth 100000 in
set_option maxHeartbeats 4000000 in
theorem Like_any (P S : ByteArray) (p c : Int) (w : World) : Calls Try.prog 21 #[.string P, .string S, .int .i64 p, .int .i64 c] w (GiveBE (okT p c [P, S] (likeB P S p c)) (askC p c [P, S]) w) := by
  by_cases h : askC p c [P, S] = 0
  · have e1 : (askC p c [P, S] != 0) = false := by simp [h]
    have Fin : Hid (okT p c [P, S] (likeB P S p c) = likeB P S p c) := by unfold Hid okT; rw [if_pos h]
    have Fin2 := hid h
    have ho := ask_ok2 h
    have hpg := hid ho.2.2
    have hP := ho.1
    have hS := ho.2.1
    clear h ho
    go_enter Try.func21, Try.ntmps21
    go_wp2
    go_step3
    go_wp2_with fail
    refine (askedColl_any p c _ _ _ [P, S] _ (RdS.new2 w P S _)).mono ?_
    rintro e w1 ⟨rfl, rfl⟩
    have hx1 := hid ((Ext.refl w).alloc_right (.cells #[.string P, .string S] 9))
    generalize hw1 : w.alloc (.cells #[.string P, .string S] 9) = w1 at *
    clear hw1
    go_wp2
    go_step3
    go_wp2_with fail
    go_loopw [11, 12, 13, 14] (fun vp va vs vf wr => ∃ (pp aa fr : Nat) (sv : Int), pp ≤ P.size ∧ aa ≤ S.size ∧ vp = .int .i64 pp ∧ va = .int .i64 aa ∧ vs = .int .i64 sv ∧ vf = .int .i64 fr ∧ Hid (StI p c P S sv pp aa fr) ∧ Hid (Dr w1 wr)) (fun vp va vs vf _ => ((P.size : Int) - intOf vs).toNat + (S.size - (intOf vf).toNat) * (S.size + 1) + (S.size - (intOf va).toNat))
    case atStart => exact ⟨0, 0, 0, -1, by omega, by omega, rfl, rfl, rfl, rfl, StI.start, Dr.refl _⟩
    case round =>
      obtain ⟨pp, aa, fr, sv, hp, ha, rfl, rfl, rfl, rfl, hst, hx⟩ := hrel
      obtain ⟨s1, s2, s3⟩ := hst.out.rng
      by_cases hlt : pp < P.size
      · have b1 : decide ((pp : Int) < (P.size : Int)) = true := by simp; omega
        have r1 : (P[pp].toNat : Int) ≤ 255 := by have := P[pp].toNat_lt; omega
        rcases Bool.eq_false_or_eq_true ((P[pp].toNat : Int) == 42) with h42 | h42
        · have hst2 := hid (hst.out.star hlt h42 ha)
          have hm := Nat.mul_le_mul_right (S.size + 1) (show S.size - aa ≤ S.size - fr by omega)
          have hm := hid hm
          by_cases hat : aa < S.size
          · have b2 : decide ((aa : Int) < (S.size : Int)) = true := by simp; omega
            go_wp2
            go_roundw
            case rel => exact ⟨pp + 1, aa, aa, pp, by omega, ha, by go_num, rfl, rfl, rfl, hst2, hx⟩
            case measure =>
              have hm := hm.out
              simp [intOf] <;> omega
          · have b2 : decide ((aa : Int) < (S.size : Int)) = false := by simp; omega
            go_wp2
            go_roundw
            case rel => exact ⟨pp + 1, aa, aa, pp, by omega, ha, by go_num, rfl, rfl, rfl, hst2, hx⟩
            case measure =>
              have hm := hm.out
              simp [intOf] <;> omega
        · by_cases hat : aa < S.size
          · have b2 : decide ((aa : Int) < (S.size : Int)) = true := by simp; omega
            have r2 : (S[aa].toNat : Int) ≤ 255 := by have := S[aa].toNat_lt; omega
            rcases Bool.eq_false_or_eq_true ((P[pp].toNat : Int) == 63) with h63 | h63
            · have hst2 := hid (hst.out.step hlt hat h42 (Or.inl h63))
              go_wp2
              go_quiet ((go_at_call 45; exact quiet_left (weight_any _ _ _ hpg.out _ (by omega) (by assumption))))
              go_wp2
              go_roundw
              case rel => exact ⟨pp + 1, aa + 1, fr, sv, by omega, by omega, by go_num, by go_num, rfl, rfl, hst2, Dr.step hx.out _⟩
              case measure =>
                simp [intOf] <;> omega
            · rcases Bool.eq_false_or_eq_true (weightS (P[pp].toNat : Int) p c == weightS (S[aa].toNat : Int) p c) with hw | hw
              · have hst2 := hid (hst.out.step hlt hat h42 (Or.inr hw))
                go_wp2
                go_quiet ((go_at_call 45; exact quiet_left (weight_any _ _ _ hpg.out _ (by omega) (by assumption))))
                go_wp2
                go_roundw
                case rel => exact ⟨pp + 1, aa + 1, fr, sv, by omega, by omega, by go_num, by go_num, rfl, rfl, hst2, Dr.step hx.out _⟩
                case measure =>
                  simp [intOf] <;> omega
              · have hn := hid (noM2 hlt h42 hat h63 hw)
                by_cases z1 : sv < 0
                · have d5 : decide (sv < 0) = true := by simp; omega
                  have hv := hid (hst.out.no hn.out (Or.inl z1))
                  go_wp2
                  go_quiet ((go_at_call 45; exact quiet_left (weight_any _ _ _ hpg.out _ (by omega) (by assumption))))
                  go_wp2
                  try rw [Exit.noGoto_ret]
                  go_ret2
                  exact ⟨by rw [Fin.out, Fin2.out, hv.out]; rfl, hx1.out.trans (Dr.step hx.out _).ext⟩
                · have d5 : decide (sv < 0) = false := by simp; omega
                  by_cases z2 : fr < S.size
                  · have d6 : decide ((S.size : Int) ≤ (fr : Int)) = false := by simp; omega
                    have hst2 := hid (hst.out.back hn.out (by omega) z2)
                    have hi : sv ≤ 2048 := by omega
                    go_wp2
                    go_quiet ((go_at_call 45; exact quiet_left (weight_any _ _ _ hpg.out _ (by omega) (by assumption))))
                    go_wp2
                    go_roundw
                    case rel => exact ⟨sv.toNat + 1, fr + 1, fr + 1, sv, by omega, by omega, by simp; omega, by go_num, rfl, by go_num, hst2, Dr.step hx.out _⟩
                    case measure =>
                      have hm := mul_dn (S.size - fr) (S.size - (fr + 1)) S.size (by omega)
                      have hn1 : ((sv + 1).toNat : Int) = sv + 1 := by omega
                      simp [intOf] <;> omega
                  · exfalso; omega
          · have b2 : decide ((aa : Int) < (S.size : Int)) = false := by simp; omega
            have hn := hid (noM1 (p := p) (c := c) hlt h42 hat)
            by_cases z1 : sv < 0
            · have d5 : decide (sv < 0) = true := by simp; omega
              have hv := hid (hst.out.no hn.out (Or.inl z1))
              go_wp2
              go_quiet ((go_at_call 45; exact quiet_left (weight_any _ _ _ hpg.out _ (by omega) (by assumption))))
              go_wp2
              try rw [Exit.noGoto_ret]
              go_ret2
              exact ⟨by rw [Fin.out, Fin2.out, hv.out]; rfl, hx1.out.trans (Dr.step hx.out _).ext⟩
            · have d5 : decide (sv < 0) = false := by simp; omega
              by_cases z2 : fr < S.size
              · have d6 : decide ((S.size : Int) ≤ (fr : Int)) = false := by simp; omega
                have hst2 := hid (hst.out.back hn.out (by omega) z2)
                have hi : sv ≤ 2048 := by omega
                go_wp2
                go_quiet ((go_at_call 45; exact quiet_left (weight_any _ _ _ hpg.out _ (by omega) (by assumption))))
                go_wp2
                go_roundw
                case rel => exact ⟨sv.toNat + 1, fr + 1, fr + 1, sv, by omega, by omega, by simp; omega, by go_num, rfl, by go_num, hst2, Dr.step hx.out _⟩
                case measure =>
                  have hm := mul_dn (S.size - fr) (S.size - (fr + 1)) S.size (by omega)
                  have hn1 : ((sv + 1).toNat : Int) = sv + 1 := by omega
                  simp [intOf] <;> omega
              · have d6 : decide ((S.size : Int) ≤ (fr : Int)) = true := by simp; omega
                have hv := hid (hst.out.no hn.out (Or.inr (by omega)))
                go_wp2
                go_quiet ((go_at_call 45; exact quiet_left (weight_any _ _ _ hpg.out _ (by omega) (by assumption))))
                go_wp2
                try rw [Exit.noGoto_ret]
                go_ret2
                exact ⟨by rw [Fin.out, Fin2.out, hv.out]; rfl, hx1.out.trans (Dr.step hx.out _).ext⟩
      · have b1 : decide ((pp : Int) < (P.size : Int)) = false := by simp; omega
        by_cases hat : aa < S.size
        · have b2 : decide ((aa : Int) < (S.size : Int)) = true := by simp; omega
          have hn := hid (noM3 (p := p) (c := c) hlt hat)
          by_cases z1 : sv < 0
          · have d5 : decide (sv < 0) = true := by simp; omega
            have hv := hid (hst.out.no hn.out (Or.inl z1))
            go_wp2
            go_quiet ((go_at_call 45; exact quiet_left (weight_any _ _ _ hpg.out _ (by omega) (by assumption))))
            go_wp2
            try rw [Exit.noGoto_ret]
            go_ret2
            exact ⟨by rw [Fin.out, Fin2.out, hv.out]; rfl, hx1.out.trans (Dr.step hx.out _).ext⟩
          · have d5 : decide (sv < 0) = false := by simp; omega
            by_cases z2 : fr < S.size
            · have d6 : decide ((S.size : Int) ≤ (fr : Int)) = false := by simp; omega
              have hst2 := hid (hst.out.back hn.out (by omega) z2)
              have hi : sv ≤ 2048 := by omega
              go_wp2
              go_quiet ((go_at_call 45; exact quiet_left (weight_any _ _ _ hpg.out _ (by omega) (by assumption))))
              go_wp2
              go_roundw
              case rel => exact ⟨sv.toNat + 1, fr + 1, fr + 1, sv, by omega, by omega, by simp; omega, by go_num, rfl, by go_num, hst2, Dr.step hx.out _⟩
              case measure =>
                have hm := mul_dn (S.size - fr) (S.size - (fr + 1)) S.size (by omega)
                have hn1 : ((sv + 1).toNat : Int) = sv + 1 := by omega
                simp [intOf] <;> omega
            · exfalso; omega
        · have b2 : decide ((aa : Int) < (S.size : Int)) = false := by simp; omega
          have hv := hid (hst.out.yes (by omega) (by omega))
          go_wp2
          try rw [Exit.noGoto_ret]
          go_ret2
          exact ⟨by rw [Fin.out, Fin2.out, hv.out]; rfl, hx1.out.trans hx.out.ext⟩
  · have e1 : (askC p c [P, S] != 0) = true := by simp [h]
    have Fin : Hid (okT p c [P, S] (likeB P S p c) = false) := by unfold Hid okT; rw [if_neg h]
    clear h
    go_enter Try.func21, Try.ntmps21
    go_wp2
    go_step3
    go_wp2_with fail
    refine (askedColl_any p c _ _ _ [P, S] _ (RdS.new2 w P S _)).mono ?_
    rintro e w1 ⟨rfl, rfl⟩
    go_wp2
    try rw [Exit.noGoto_ret]
    go_ret2
    exact ⟨by rw [Fin.out]; rfl, (Ext.refl w).alloc_right _⟩
end Go.Proofs.Ytlhnabkfacmmnaa
