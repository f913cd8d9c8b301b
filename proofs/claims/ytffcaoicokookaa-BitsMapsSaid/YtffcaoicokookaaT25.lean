import Derived.Test.YtffcaoicokookaaT24
namespace Go.Proofs.Ytffcaoicokookaa
open Go.RowKit
set_option linter.unusedVariables false
set_option linter.unusedSimpArgs false

theorem cut_at {w : World} {ad : Addr} {n c : Nat} {l : List UInt8} (h : RdB w (some ad) n c l) {k : Nat} (hk : k ≤ n) (hc : ¬ c = k) : RdB w (some (ad.add k)) (n - k) (c - k) (l.drop k) := by
  have := h.cut hk
  rw [if_neg hc] at this
  exact this

set_option maxRecDepth 100000 in
set_option maxHeartbeats 4000000 in
theorem rUnpack_any (A : Option Addr) (n c : Nat) (l : List UInt8) (w : World) (hs : RdB w A n c l) (hn : n ≤ 100000) : Calls Try.prog 42 #[.slice A n c] w (GiveIN (unpA l) (unpE l) w) := by
  obtain ⟨i0, hi, hz0, hz1, hz2⟩ := info_parts Try.info3
  have Hl := hid hs.len
  have hmx := hs.max
  go_enter Try.func42, Try.ntmps42
  go_wp2_with fail
  go_loopw [4, 5, 6] (fun v la re wr => ∃ (o : List Int) (j : Nat) (last : Int) (q : Nat), la = .int .i64 last ∧ re = .int .i64 (q : Int) ∧ q ≤ n ∧ Hid (UpR l (l.drop q) last o) ∧ Hid (Asd o last) ∧ (0 ≤ last ∧ last ≤ 300) ∧ wr.ownsRow w.heap.size 3 1 v j (ints o) ∧ Below w.heap.size w wr) (fun _ _ re _ => n - (intOf re).toNat)
  case atStart => exact ⟨[], 0, 0, 0, rfl, rfl, by omega, UpR.start l, Asd.nil, by omega, World.ownsRow_nil _ _ _ _, Below.refl _ _⟩
  case round =>
    obtain ⟨o, j, last, q, rfl, rfl, hq, hU, hA, hla, hown, hb⟩ := hrel
    have hbs := hb.size
    have hj : o.length = j := by have := hown.1; simpa [ints] using this
    have hj2 := hA.out.2.2
    have hj3 : j ≤ 300 := by omega
    by_cases hlt : q < n
    · obtain ⟨ad, rfl, -⟩ := hs.at_ hlt
      generalize hr : l.drop q = r at *
      have hrl : Hid (r.length = n - q) := by unfold Hid; rw [← hr, List.length_drop, Hl.out]
      have hr1 : Hid (RdB w (some (ad.add q)) (n - q) (c - q) r) := by unfold Hid; rw [← hr]; exact cut_at hs (by omega) (by omega)
      have hrl0 : Hid (r.length ≠ 0) := by unfold Hid; rw [hrl.out]; omega
      have htk : tkN r ≤ n - q := by rw [← hrl.out]; exact tkN_le r
      have hq0 : ¬ c = q := by omega
      have v1 := tkV_in r
      have v2 := tkV_in (nx r)
      have ew0 := IntWalk.i64_in ((q : Int) + (tkN r : Int)) (by omega)
      have hnx : Hid (nx r = l.drop (q + tkN r)) := by unfold Hid nx; rw [← hr, List.drop_drop]
      clear hj hj2
      go_wp2_with fail
      refine (rtake_any _ _ _ r _ (hr1.out.ext hb)).mono ?_
      rintro e w1 ⟨⟨x1, rfl, hx1, hx1a⟩, hd1⟩
      by_cases hcq : c = q + tkN r
      · have ht1 : Hid (0 < tkN r) := by unfold Hid; omega
        obtain rfl := hx1.out ht1.out
        have e1 : ((tkN r : Int) == 0) = false := by simp; omega
        have hr2 : Hid (RdB w (some ad) (n - (q + tkN r)) 0 (nx r)) := by
          unfold Hid
          have := hs.cut (k := q + tkN r) (by omega)
          rw [if_pos hcq, show c - (q + tkN r) = 0 by omega] at this
          rw [hnx.out]
          exact this
        have ht2 : Hid (tkN (nx r) = 0) := by
          unfold Hid
          have := tkN_le (nx r)
          have h2 := hr2.out.len
          omega
        have e2 : ((tkN (nx r) : Int) == 0) = true := by rw [ht2.out]; rfl
        go_wp2_with fail
        refine (rtake_any _ _ _ (nx r) _ (hr2.out.ext (Ext.trans hb hd1.ext))).mono ?_
        rintro e w2 ⟨⟨x2, rfl, hx2, hx2a⟩, hd2⟩
        have hun := unp_none (hU.out.bad2 hrl0.out ht1.out ht2.out)
        have hU1 := hid hun.1
        have hU2 := hid hun.2
        clear hun
        go_wp2
        go_ret2
        exact ⟨none, 0, 0, by rw [hU2.out]; rfl, by rw [hU1.out]; exact RdI.nil _, (Ext.trans hb hd1.ext).trans hd2.ext, Fr.none_ _⟩
      · have hr2 : Hid (RdB w (some (ad.add (q + tkN r))) (n - (q + tkN r)) (c - (q + tkN r)) (nx r)) := by unfold Hid; rw [hnx.out]; exact cut_at hs (by omega) hcq
        go_wp2_with fail
        refine (rtake_any _ _ _ (nx r) _ (hr2.out.ext (Ext.trans hb hd1.ext))).mono ?_
        rintro e w2 ⟨⟨x2, rfl, hx2, hx2a⟩, hd2⟩
        have htk2 : q + tkN r + tkN (nx r) ≤ n := by have := tkN_le (nx r); have h3 := hr2.out.len; omega
        by_cases ht1 : tkN r = 0
        · have e1 : ((tkN r : Int) == 0) = true := by rw [ht1]; rfl
          have ht1 := hid ht1
          have hun := unp_none (hU.out.bad1 hrl0.out ht1.out)
          have hU1 := hid hun.1
          have hU2 := hid hun.2
          clear hun
          go_wp2
          go_ret2
          exact ⟨none, 0, 0, by rw [hU2.out]; rfl, by rw [hU1.out]; exact RdI.nil _, (Ext.trans hb hd1.ext).trans hd2.ext, Fr.none_ _⟩
        · have e1 : ((tkN r : Int) == 0) = false := by simp; omega
          have Ht1 : Hid (0 < tkN r) := by unfold Hid; omega
          clear ht1
          obtain rfl := hx1.out Ht1.out
          by_cases ht2 : tkN (nx r) = 0
          · have e2 : ((tkN (nx r) : Int) == 0) = true := by rw [ht2]; rfl
            have ht2 := hid ht2
            have hun := unp_none (hU.out.bad2 hrl0.out Ht1.out ht2.out)
            have hU1 := hid hun.1
            have hU2 := hid hun.2
            clear hun
            go_wp2
            go_ret2
            exact ⟨none, 0, 0, by rw [hU2.out]; rfl, by rw [hU1.out]; exact RdI.nil _, (Ext.trans hb hd1.ext).trans hd2.ext, Fr.none_ _⟩
          · have e2 : ((tkN (nx r) : Int) == 0) = false := by simp; omega
            have Ht2 : Hid (0 < tkN (nx r)) := by unfold Hid; omega
            clear ht2
            obtain rfl := hx2.out Ht2.out
            have ew1 := IntWalk.i64_in (last + tkV r) (by omega)
            have ew2 := IntWalk.i64_in (last + tkV r + 1) (by omega)
            have ew3 := IntWalk.i64_in (last + tkV r + 1 + tkV (nx r)) (by omega)
            have ew4 := IntWalk.i64_in ((q : Int) + (tkN r : Int) + (tkN (nx r) : Int)) (by omega)
            by_cases h3 : 300 < last + tkV r + 1 + tkV (nx r)
            · have e3 : decide (300 < last + tkV r + 1 + tkV (nx r)) = true := by simpa using h3
              have h3 := hid h3
              have hun := unp_none (hU.out.bad3 hrl0.out Ht1.out Ht2.out h3.out)
              have hU1 := hid hun.1
              have hU2 := hid hun.2
              clear hun
              go_wp2
              go_ret2
              exact ⟨none, 0, 0, by rw [hU2.out]; rfl, by rw [hU1.out]; exact RdI.nil _, (Ext.trans hb hd1.ext).trans hd2.ext, Fr.none_ _⟩
            · have e3 : decide (300 < last + tkV r + 1 + tkV (nx r)) = false := by simpa using h3
              have hU' := hid (hU.out.step hrl0.out Ht1.out Ht2.out h3)
              have hAr := hid (Asd.run hA.out hla.1 (b := last + tkV r + 1) (by omega))
              have hb2 : Below w.heap.size w w2 := Ext.below hb (hd1.ext.trans hd2.ext) hbs
              have hown2 := Ext.own (hd1.ext.trans hd2.ext) hown
              have Hle : Hid (last + tkV r + 1 + tkV (nx r) ≤ 300) := by unfold Hid; omega
              have hnn : Hid (nx (nx r) = l.drop (q + tkN r + tkN (nx r))) := by unfold Hid; rw [show nx (nx r) = (nx r).drop (tkN (nx r)) from rfl, hnx.out, List.drop_drop, ← hnx.out]
              clear h3
              have hbs2 := hb2.size
              clear hb hown hnx
              go_wp2_with fail
              go_loopw [4, 11] (fun v i wi => ∃ (k : Nat), (k : Int) ≤ tkV (nx r) + 1 ∧ i = .int .i64 (last + tkV r + 1 + (k : Int)) ∧ wi.ownsRow w.heap.size 3 1 v (j + k) (ints (runTo o (last + tkV r + 1) k)) ∧ Below w.heap.size w wi) (fun _ i _ => (last + tkV r + 1 + tkV (nx r) + 1 - intOf i).toNat)
              case atStart => exact ⟨0, by omega, by go_num, hown2, hb2⟩
              case round =>
                obtain ⟨k, hk, rfl, hownk, hbk⟩ := hrel
                have hbsk := hbk.size
                have ew8 := IntWalk.i64_in (last + tkV r + 1 + k + 1) (by omega)
                by_cases hlt : (k : Int) < tkV (nx r) + 1
                · have e5 : decide ((k : Int) ≤ tkV (nx r)) = true := by simp; omega
                  have e6 : decide (last + tkV r + 1 + (k : Int) ≤ last + tkV r + 1 + tkV (nx r)) = true := by simp; omega
                  have hst := hid (runTo_succ o (last + tkV r + 1) k)
                  obtain ⟨A0, c0, rfl, -⟩ := own_form hownk
                  go_wp2_with (at_builtin; refine wpList_pushI _ rfl _ _ 22 rfl w.heap.size 3 i0 Try.underlying22 hi hz0 hz1 hz2 _ _ _ rfl hownk (last + tkV r + 1 + (k : Int)) rfl (by omega) (by omega) ?_)
                  intro g cap w3 hown3 hg3 _
                  go_wp2
                  go_roundw
                  case rel => exact ⟨k + 1, by omega, by go_num, by rw [hst.out]; exact hown3, below_push hbk hownk hg3 hbsk⟩
                  case measure => simp [intOf]; omega
                · have e5 : decide ((k : Int) ≤ tkV (nx r)) = false := by simp; omega
                  have e6 : decide (last + tkV r + 1 + (k : Int) ≤ last + tkV r + 1 + tkV (nx r)) = false := by simp; omega
                  have hk2 : k = (tkV (nx r)).toNat + 1 := by omega
                  go_wp2
                  go_roundw
                  case rel => exact ⟨runTo o (last + tkV r + 1) k, j + k, last + tkV r + 1 + tkV (nx r), q + tkN r + tkN (nx r), by go_num, by go_num, by omega, by rw [hk2, ← hnn.out]; exact hU', (by have := Asd.mono (hAr.out k) (k := last + tkV r + 1 + tkV (nx r)) (by omega); exact this), (by have := Hle.out; omega), hownk, hbk⟩
                  case measure => simp [intOf]; have := Ht1.out; omega
    · have hD := hid (hU.out.done (by rw [List.length_drop, Hl.out]; omega))
      obtain ⟨A1, c1, rfl, hcc⟩ := own_form hown
      have hset := hid (hA.out.set hla.2)
      have hR : Hid (RdI wr A1 j c1 o) := Rd.of_own hown
      have hF := hid (own_fresh hown)
      clear hj hj2
      go_wp2_with fail
      refine (rPack_yes _ _ _ _ _ hR.out (by omega) hset.out).mono ?_
      rintro e w1 ⟨C, p, cp, rfl, hp, hx1, -⟩
      have hE := hid (Ext.trans hb hx1)
      have hcv1 := conv_RdB hp
      have hcv2 := conv_RdB (hs.ext hE.out)
      clear hown
      by_cases hq : packS o = l
      · have hun := unp_yes hD.out hq
        have hU1 := hid hun.1
        have hU2 := hid hun.2
        rw [hq] at hcv1
        clear hq hun
        go_wp2
        go_ret2
        exact ⟨A1, j, c1, by rw [hU2.out]; rfl, by rw [hU1.out]; exact hR.out.ext hx1, hE.out, hF.out⟩
      · have hun := unp_no hD.out hq
        have eq1 : ((strB (packS o)).toList == (strB l).toList) = false := by rw [strB_toList, strB_toList]; simpa using hq
        have eq2 : (packS o == l) = false := by simpa using hq
        have hU1 := hid hun.1
        have hU2 := hid hun.2
        clear hq hun
        go_wp2
        go_ret2
        exact ⟨none, 0, 0, by rw [hU2.out]; rfl, by rw [hU1.out]; exact RdI.nil _, hE.out, Fr.none_ _⟩
end Go.Proofs.Ytffcaoicokookaa
