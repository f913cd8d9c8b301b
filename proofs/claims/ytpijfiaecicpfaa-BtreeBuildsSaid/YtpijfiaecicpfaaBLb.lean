/-
  The law of which tree a list of entries makes.
-/
import Derived.Test.YtpijfiaecicpfaaBx
namespace Go.Proofs.Ytpijfiaecicpfaa
open Go.RowKit Go.Shelf
set_option linter.unusedVariables false
set_option linter.unusedSimpArgs false
set_option maxRecDepth 100000 in
set_option maxHeartbeats 4000000 in
theorem overKeys_any (A : Option Addr) (n c : Nat) (ks : List ByteArray) (w : World) (ha : Rd w 1 A n c (strv ks)) : Calls Try.prog 9 #[.slice A n c] w fun e w' => (∃ b, e = .returned (.bool b)) ∧ w = w' := by
  have hm := Rd.max ha
  replace ha := hid ha
  go_enter Try.func9, Try.ntmps9
  go_wp2_with fail
  go_loopw [3, 4] (fun z i wr => ∃ (k : Nat) (u : Int), k ≤ n ∧ i = .int .i64 k ∧ z = .int .i64 u ∧ w = wr) (fun _ i _ => n - (intOf i).toNat)
  case atStart => exact ⟨0, _, by omega, rfl, rfl, rfl⟩
  case round =>
    obtain ⟨k, u, hk, rfl, rfl, rfl⟩ := hrel
    by_cases hlt : k < n
    · obtain ⟨ad, rfl, z0⟩ := rds_at ha.out hlt
      have hki : (k : Int) < (n : Int) := by omega
      generalize sth ks k = s at *
      go_wp2
      go_roundw
      case rel => first | exact ⟨k + 1, _, by omega, by go_num, rfl, rfl⟩ | exact ⟨k + 1, _, by omega, by go_num, rfl, trivial⟩
      case measure => simp [intOf]; omega
    · obtain rfl : k = n := by omega
      go_wp2
      go_ret
      first | exact ⟨⟨_, rfl⟩, rfl⟩ | exact ⟨⟨_, rfl⟩, trivial⟩
theorem bld_le {ks : List ByteArray} {rs : List Int} (h : bldE ks rs = 0) : (ents ⟨ks, rs, []⟩).length ≤ 1200 := by
  unfold bldE at h
  by_cases h1 : ks.length ≠ rs.length
  · rw [if_pos h1] at h; cases h
  · rw [if_neg h1] at h
    by_cases h2 : cdec (ascP (ents ⟨ks, rs, []⟩)) = false
    · rw [if_pos h2] at h; cases h
    · rw [if_neg h2] at h
      by_cases h3 : 1200 < ks.length
      · rw [if_pos h3] at h; cases h
      · rw [ents_len (by show rs.length = ks.length; omega)]
        show ks.length ≤ 1200
        omega
set_option maxRecDepth 100000 in
set_option maxHeartbeats 8000000 in
theorem builds_law (A : Option Addr) (n c : Nat) (ks : List ByteArray) (B : Option Addr) (m d : Nat) (rs : List Int) (w : World) (ha : Rd w 1 A n c (strv ks)) (hb : RdI w B m d rs) : Calls Try.prog 3 #[.slice A n c, .slice B m d] w (Give (.bool true) w) := by
  have hO := hid (overKeys_any A n c ks w ha)
  have hm := Rd.max ha
  have hm2 := RdI.max hb
  have hK := hid known_any
  by_cases hbig : 1048576 < m
  · have hb2 : (1048576 : Int) < (m : Int) := by omega
    clear hbig ha hb
    go_enter Try.func3, Try.ntmps3
    go_wp2_with fail
    refine hO.out.mono ?_
    rintro e w2 ⟨⟨b, rfl⟩, rfl⟩
    cases b with
    | true =>
      go_wp2_with fail
      refine (hK.out _).mono ?_
      rintro e w2 ⟨rfl, hx⟩
      go_wp2
      go_ret
      exact ⟨rfl, hx⟩
    | false =>
      go_wp2_with fail
      refine (hK.out _).mono ?_
      rintro e w2 ⟨rfl, hx⟩
      go_wp2
      go_ret
      exact ⟨rfl, hx⟩
  · have hb2 : ¬ (1048576 : Int) < (m : Int) := by omega
    have hP := hid (fun w' (hx : Ext w w') => Build_any A n c B m d ks rs w' (ha.ext hx) (hb.ext hx) (by omega))
    have hR := hid (fun w' (hx : Ext w w') => rBuild_any A n c B m d ks rs w' (ha.ext hx) (hb.ext hx) (by omega))
    have hLe := hid (bld_le (ks := ks) (rs := rs))
    clear hbig ha hb
    generalize bldE ks rs = E at *
    generalize ents ⟨ks, rs, []⟩ = L at *
    go_enter Try.func3, Try.ntmps3
    go_wp2_with fail
    refine hO.out.mono ?_
    rintro e w2 ⟨⟨b, rfl⟩, rfl⟩
    cases b with
    | true =>
      clear hP hR
      go_wp2_with fail
      refine (hK.out _).mono ?_
      rintro e w2 ⟨rfl, hx⟩
      go_wp2
      go_ret
      exact ⟨rfl, hx⟩
    | false =>
      go_wp2_with fail
      refine (hP.out _ (Ext.refl _)).mono ?_
      rintro e w2 ⟨v, E', rfl, hx2, ht, hv, rfl⟩
      replace ht := hid ht
      replace hv := hid hv
      clear hO hP
      go_wp2_with fail
      refine (hR.out _ hx2).mono ?_
      rintro e w3 ⟨v2, E2, rfl, hx3, hr, hv2, he2⟩
      obtain rfl : E2 = E' := he2
      replace hr := hid hr
      replace hv2 := hid hv2
      clear hR
      by_cases h0 : E2 = 0
      · subst h0
        obtain ⟨t, rfl, hT⟩ := ht.out rfl
        obtain ⟨r, rfl, -, hRr⟩ := hr.out rfl
        obtain ⟨-, -, h, p, T, fT, hTA, -⟩ := hT.ext hx3
        have hn := lst_le hTA.sh 0
        rw [hTA.fl] at hn
        have hb1200 : L.length ≤ 1200 := hLe.out rfl
        have hH := hid (holds_any t L h p T fT r w3 hTA (by omega) hRr)
        have hx := hid (hx2.trans hx3)
        have hE1 : ((0 : Int) != 0) = false := rfl
        clear ht hr hv hv2 hT hRr hTA hn hx2 hx3
        go_wp2_with fail
        refine hH.out.mono ?_
        rintro e w4 ⟨rfl, hx4⟩
        go_wp2_with fail
        refine (hK.out _).mono ?_
        rintro e w5 ⟨rfl, hx5⟩
        go_wp2
        go_ret
        exact ⟨rfl, hx.out.trans (hx4.trans hx5)⟩
      · obtain rfl := hv.out h0
        obtain rfl := hv2.out h0
        have hx := hid (hx2.trans hx3)
        have hE1 : (E2 != 0) = true := by simpa using h0
        have hE2 : (E2 == 0) = false := by simpa using h0
        clear ht hr hv hv2 hx2 hx3
        go_wp2_with fail
        refine (hK.out _).mono ?_
        rintro e w5 ⟨rfl, hx5⟩
        go_wp2
        go_ret
        exact ⟨rfl, hx.out.trans hx5⟩
end Go.Proofs.Ytpijfiaecicpfaa
