/-
  How acts that came in read as a list: for the rows; How texts, numbers, bytes and nodes that came in read as lists: for the rows; The law of equal calls, equal trees and copies.
-/
import Derived.Test.YtpijfiaecicpfaaGreatQ19
import Derived.Test.YtpijfiaecicpfaaGreatQ6
import Derived.ProofKit
import Derived.OpenShut
import Derived.ShutString
import Derived.Lib.SmallJoins
import Derived.Deep.Slices
import Derived.Deep.Fields
import Derived.ChangeSame
import Derived.Test.YtpijfiaecicpfaaGreatQ16
set_option maxRecDepth 100000
set_option maxHeartbeats 40000000
set_option linter.unusedVariables false
set_option linter.unusedSimpArgs false
namespace Go.Proofs.YtpijfiaecicpfaaGreat
open Go.RowKit Go.Shelf
theorem again_law (A : Option Addr) (n c : Nat) (lk : List Ac) (B : Option Addr) (m d : Nat) (ll : List Ac) (w : World) (hk : RdA w A n c lk) (hl : RdA w B m d ll) : Calls Tryz.prog 4 #[.slice A n c, .slice B m d] w (Give (.bool true) w) := by
  have hmx := Rd.max hk.1
  have hmx2 := Rd.max hl.1
  have hO := hid (over_any A n c lk w hk)
  have hO2 := hid (fun w' (hx : Ext w w') => over_any B m d ll w' (hl.ext hx))
  go_enter Tryz.func4, Tryz.ntmps4
  go_wp2_with fail
  refine hO.out.mono ?_
  rintro e w1 ⟨b, rfl, hb, hx1⟩
  replace hx1 := hid hx1
  replace hb := hid hb
  clear hO
  cases b with
  | true =>
    clear hO2
    go_wp2_with fail
    refine (known_any _).mono ?_
    rintro e w9 ⟨rfl, hx9⟩
    go_wp2
    go_ret
    exact ⟨rfl, hx1.out.trans hx9⟩
  | false =>
    have hn := hb.out rfl
    go_wp2_with fail
    refine (hO2.out w1 hx1.out).mono ?_
    rintro e w1' ⟨b2, rfl, hb2, hx1'⟩
    replace hx1 := hid (hx1.out.trans hx1')
    replace hb2 := hid hb2
    clear hO2 hx1'
    cases b2 with
    | true =>
      go_wp2_with fail
      refine (known_any _).mono ?_
      rintro e w9 ⟨rfl, hx9⟩
      go_wp2
      go_ret
      exact ⟨rfl, hx1.out.trans hx9⟩
    | false =>
      have hn2 := hb2.out rfl
      go_wp2_with fail
      refine (New_any w1').mono ?_
      rintro e w2 ⟨t, rfl, h1, hx2, p, fT, hT, hf⟩
      replace h1 := hid h1
      replace hx2 := hid hx2
      replace hT := hid hT
      replace hf := hid hf
      go_wp2_with fail
      refine (New_any w2).mono ?_
      rintro e w3 ⟨u, rfl, h2, hx3, q, fU, hU, hg⟩
      obtain ⟨F0, H0, G0, hQ0⟩ := P3.new hx1.out hx2.out h1.out hT.out hf.out hx3 h2 hU hg
      replace hQ0 := hid hQ0
      clear hx1 hb hb2 hx2 h1 hT hf hx3 h2 hU hg
      go_wp2_with fail
      obtain ⟨r, hr⟩ : ∃ r, r = w3.heap.size := ⟨_, rfl⟩
      simp only [← hr] at hQ0 ⊢
      clear hr
      go_loopw [8] (fun i wr => ∃ (k : Nat) (L : List Te) (X : Nat × BT) (F H G : Nat → Nat), k ≤ n ∧ i = .int .i64 k ∧ L.length ≤ 1200 ∧ Hid (P3 w wr t u r L X L X F H G)) (fun i _ => n - (intOf i).toNat)
      case atStart => exact ⟨0, [], _, F0, H0, G0, by omega, rfl, Nat.zero_le _, hQ0⟩
      case round =>
        obtain ⟨k, L, X, F, H, G, hkn, rfl, hL12, hQ⟩ := hrel
        clear hQ0
        by_cases hlt : k < n
        · have hki : (k : Int) < (n : Int) := by omega
          obtain ⟨ad, rfl, z0, z1, z2, z3, z4, z5⟩ := (hk.ext hQ.out.1).at6 hlt
          have hcl : Hid (∀ w', Ext w w' → w'.cell? (ad.add (k * 6)) = some (.int .i64 (ath lk k).op) ∧ w'.cell? ⟨(ad.add (k * 6)).block, (ad.add (k * 6)).off + 1, none⟩ = some (.int .i64 (ath lk k).a) ∧ w'.cell? ⟨(ad.add (k * 6)).block, (ad.add (k * 6)).off + 2, none⟩ = some (.int .i64 (ath lk k).b) ∧ w'.cell? ⟨(ad.add (k * 6)).block, (ad.add (k * 6)).off + 3, none⟩ = some (.int .i64 (ath lk k).c) ∧ w'.cell? ⟨(ad.add (k * 6)).block, (ad.add (k * 6)).off + 4, none⟩ = some (.string (ath lk k).s) ∧ w'.cell? ⟨(ad.add (k * 6)).block, (ad.add (k * 6)).off + 5, none⟩ = some (.string (ath lk k).t)) := fun w' hx => by
            obtain ⟨ad', e, y0, y1, y2, y3, y4, y5⟩ := (hk.ext hx).at6 hlt
            obtain rfl := Option.some.inj e
            exact ⟨y0, y1, y2, y3, y4, y5⟩
          generalize ath lk k = x at *
          have hC := hid (played_any t r x L X F G wr hQ.out.2.1 hQ.out.2.2.2.1 hQ.out.2.2.2.2.1 hL12)
          have hT : Hid (∀ w', Pair2 x L X F G t r wr w' → ∃ F' G', Hid (P3 w w' t u r (actL x L) (actX x L X) L X F' H G')) := fun w' h => hQ.out.half h
          clear hQ
          go_wp2_with fail
          refine hC.out.mono ?_
          rintro e w4 ⟨rfl, hpr⟩
          obtain ⟨F', G', hQ'⟩ := hT.out w4 hpr
          have hL'12 : (actL x L).length ≤ 1200 := actL_le hL12
          obtain ⟨L', hL'⟩ : ∃ L', Hid (L' = actL x L) := ⟨_, rfl⟩
          obtain ⟨X', hX'⟩ : ∃ X', Hid (X' = actX x L X) := ⟨_, rfl⟩
          rw [← hL'.out, ← hX'.out] at hQ'
          rw [← hL'.out] at hL'12
          clear hpr hT hC z0 z1 z2 z3 z4 z5
          go_upto_region 8 with fail
          replace hQ' : Hid (P3 w w4.drew t u r L' X' L X F' H G') := hQ'.out.ext (Ext.refl w4).drew_right
          have I0 : (fun w' : World => w'.cell? (ad.add (k * 6)) = some (.int .i64 x.op) ∧ w'.cell? ⟨(ad.add (k * 6)).block, (ad.add (k * 6)).off + 1, none⟩ = some (.int .i64 x.a) ∧ w'.cell? ⟨(ad.add (k * 6)).block, (ad.add (k * 6)).off + 2, none⟩ = some (.int .i64 x.b) ∧ w'.cell? ⟨(ad.add (k * 6)).block, (ad.add (k * 6)).off + 3, none⟩ = some (.int .i64 x.c) ∧ w'.cell? ⟨(ad.add (k * 6)).block, (ad.add (k * 6)).off + 4, none⟩ = some (.string x.s) ∧ w'.cell? ⟨(ad.add (k * 6)).block, (ad.add (k * 6)).off + 5, none⟩ = some (.string x.t)) w4.drew := hcl.out _ hQ'.out.1
          refine region_J (fun w' : World => w'.cell? (ad.add (k * 6)) = some (.int .i64 x.op) ∧ w'.cell? ⟨(ad.add (k * 6)).block, (ad.add (k * 6)).off + 1, none⟩ = some (.int .i64 x.a) ∧ w'.cell? ⟨(ad.add (k * 6)).block, (ad.add (k * 6)).off + 2, none⟩ = some (.int .i64 x.b) ∧ w'.cell? ⟨(ad.add (k * 6)).block, (ad.add (k * 6)).off + 3, none⟩ = some (.int .i64 x.c) ∧ w'.cell? ⟨(ad.add (k * 6)).block, (ad.add (k * 6)).off + 4, none⟩ = some (.string x.s) ∧ w'.cell? ⟨(ad.add (k * 6)).block, (ad.add (k * 6)).off + 5, none⟩ = some (.string x.t)) 8 (by kernel_rfl) ?_
          generalize w4.drew = W at *
          refine JO 0 (v := ?vc0) I0 ?yc0 ?rc0
          case yc0 => (intro w h; obtain ⟨_, _, _, _, _, _⟩ := h; go_simp; with_reducible rfl)
          simp only [Act.put, lyA, lyB, lyC, lyD, lyE, lyF]
          refine JO 1 (v := ?vc1) I0 ?yc1 ?rc1
          case yc1 => (intro w h; obtain ⟨_, _, _, _, _, _⟩ := h; go_simp; with_reducible rfl)
          simp only [Act.put, lyA, lyB, lyC, lyD, lyE, lyF]
          refine JO 3 (v := ?vc3) I0 ?yc3 ?rc3
          case yc3 => (intro w h; obtain ⟨_, _, _, _, _, _⟩ := h; go_simp; with_reducible rfl)
          simp only [Act.put, lyA, lyB, lyC, lyD, lyE, lyF]
          refine JO 4 (v := ?vc4) I0 ?yc4 ?rc4
          case yc4 => (intro w h; obtain ⟨_, _, _, _, _, _⟩ := h; go_simp; with_reducible rfl)
          simp only [Act.put, lyA, lyB, lyC, lyD, lyE, lyF]
          refine JO 5 (v := ?vc5) I0 ?yc5 ?rc5
          case yc5 => (intro w h; obtain ⟨_, _, _, _, _, _⟩ := h; go_simp; with_reducible rfl)
          simp only [Act.put, lyA, lyB, lyC, lyD, lyE, lyF]
          refine JO 6 (v := ?vc6) I0 ?yc6 ?rc6
          case yc6 => (intro w h; obtain ⟨_, _, _, _, _, _⟩ := h; go_simp; with_reducible rfl)
          simp only [Act.put, lyA, lyB, lyC, lyD, lyE, lyF]
          refine J_one 2 rfl (by kernel_rfl) (fun K hK => ?_)
          go_simp
          refine (rCopy_any r L' W hQ'.out.2.2.2.1.rt hL'12).mono ?_
          rintro e W2 ⟨r2, G2, rfl, hR2, hx2, hz2⟩
          have I2 : (fun w' : World => w'.cell? (ad.add (k * 6)) = some (.int .i64 x.op) ∧ w'.cell? ⟨(ad.add (k * 6)).block, (ad.add (k * 6)).off + 1, none⟩ = some (.int .i64 x.a) ∧ w'.cell? ⟨(ad.add (k * 6)).block, (ad.add (k * 6)).off + 2, none⟩ = some (.int .i64 x.b) ∧ w'.cell? ⟨(ad.add (k * 6)).block, (ad.add (k * 6)).off + 3, none⟩ = some (.int .i64 x.c) ∧ w'.cell? ⟨(ad.add (k * 6)).block, (ad.add (k * 6)).off + 4, none⟩ = some (.string x.s) ∧ w'.cell? ⟨(ad.add (k * 6)).block, (ad.add (k * 6)).off + 5, none⟩ = some (.string x.t)) W2 := hcl.out _ (hQ'.out.1.trans hx2)
          have hU : Hid (Calls Tryz.prog 8 #[.pointer (some ⟨u, 0, none⟩), .pointer (some ⟨r2, 0, none⟩), .agg #[.int .i64 x.op, .int .i64 x.a, .int .i64 x.b, .int .i64 x.c, .string x.s, .string x.t]] W2 (GiveU x L X H G2 u W2)) :=
            playedU_any u r2 x L L' X H G2 W2 (hQ'.out.2.2.1.ext hx2) hR2 (fun a => by
              by_cases ha : a < W.heap.size
              · exact .inr (hz2 a ha)
              · exact .inl (hQ'.out.2.2.1.bound a (Nat.le_of_not_lt ha))) hQ'.out.2.1.sr hL'12 hL'.out
          replace hx2 := hid hx2
          replace hz2 := hid hz2
          clear hR2
          refine hK _ _ ⟨fun _ => I2, ?_⟩
          clear hK K
          try simp only [Act.put, lyA, lyB, lyC, lyD, lyE, lyF]
          refine J_one 7 rfl (by kernel_rfl) (fun K hK => ?_)
          go_simp
          refine hU.out.mono ?_
          rintro e W3 ⟨bb, H', rfl, q1, q2, q3⟩
          have hQ3 : Hid (P3 w W3 t u r L' X' L' X' F' H' G') := by
            rw [← hL'.out, ← hX'.out] at q1
            exact hQ'.out.other hz2.out hx2.out q1 q2 q3
          have I3 : (fun w' : World => w'.cell? (ad.add (k * 6)) = some (.int .i64 x.op) ∧ w'.cell? ⟨(ad.add (k * 6)).block, (ad.add (k * 6)).off + 1, none⟩ = some (.int .i64 x.a) ∧ w'.cell? ⟨(ad.add (k * 6)).block, (ad.add (k * 6)).off + 2, none⟩ = some (.int .i64 x.b) ∧ w'.cell? ⟨(ad.add (k * 6)).block, (ad.add (k * 6)).off + 3, none⟩ = some (.int .i64 x.c) ∧ w'.cell? ⟨(ad.add (k * 6)).block, (ad.add (k * 6)).off + 4, none⟩ = some (.string x.s) ∧ w'.cell? ⟨(ad.add (k * 6)).block, (ad.add (k * 6)).off + 5, none⟩ = some (.string x.t)) W3 := hcl.out _ hQ3.out.1
          clear q1 q2 q3 hU hz2 hx2 hQ'
          refine hK _ _ ⟨fun _ => I3, ?_⟩
          clear hK K
          try simp only [Act.put, lyA, lyB, lyC, lyD, lyE, lyF]
          refine J_done (by kernel_rfl) (OnlyOn.normal ?_)
          clear I0 I2 I3 hcl
          go_wp2_with fail
          go_roundw
          case rel => exact ⟨k + 1, L', X', F', H', G', by omega, by go_num, hL'12, hQ3⟩
          case measure => simp [intOf]; omega
        · obtain rfl : k = n := by omega
          obtain ⟨⟨p1, f1, T1, -⟩, ⟨p2, f2, T2, -⟩⟩ := (⟨hQ.out.2.1, hQ.out.2.2.1⟩ : _ ∧ _)
          have hI1 := hid (Index_any t L X.1 p1 X.2 f1 wr T1)
          have hI2 := hid (fun w' (hx : Ext wr w') => Index_any u L X.1 p2 X.2 f2 w' (T2.ext hx))
          have hCp := hid (fun w' (hx : Ext wr w') => Copy_any t L X.1 p1 X.2 f1 w' (T1.ext hx))
          have hRc := hid (fun w' (hx : Ext wr w') => rCopy_any r L w' (hQ.out.2.2.2.1.ext hx).rt hL12)
          clear T1 T2
          go_wp2_with fail
          refine hI1.out.mono ?_
          rintro e w4 ⟨v1, rfl, hX1, hx4⟩
          replace hx4 := hid hx4
          obtain ⟨A1, c1, rfl, r1⟩ := hX1.reads
          replace r1 := hid r1
          clear hX1 hI1
          go_wp2_with fail
          refine (hI2.out w4 hx4.out).mono ?_
          rintro e w5 ⟨v2, rfl, hX2, hx5⟩
          obtain ⟨A2, c2, rfl, r2⟩ := hX2.reads
          replace r2 := hid r2
          replace r1 := hid (r1.out.ext hx5)
          replace hx4 := hid (hx4.out.trans hx5)
          clear hX2 hI2 hx5
          go_wp2_with fail
          refine (sameI_any A1 A2 _ c1 c2 _ w5 r1.out r2.out).mono ?_
          rintro e w6 ⟨rfl, hx6⟩
          replace hx4 := hid (hx4.out.trans hx6)
          clear r1 r2 hx6
          go_wp2_with fail
          refine (hCp.out w6 hx4.out).mono ?_
          rintro e w7 ⟨cc, Fc, rfl, hc7, hx7, hz7⟩
          replace hc7 := hid hc7
          replace hz7 := hid hz7
          replace hx7 := hid hx7
          clear hCp
          go_wp2_with fail
          refine (hRc.out w7 (hx4.out.trans hx7.out)).mono ?_
          rintro e w8 ⟨oo, Go, rfl, ho8, hx8, hz8⟩
          have h4 : Hid (P4 w w8 t r cc oo L X F G L X Fc Go) := (hQ.out.ext hx4.out).copies hx7.out hc7.out hz7.out hx8 ho8 hz8
          clear hRc hQ hx4 hc7 hz7 hx7 hx8 hz8 ho8
          have hSm := hid (by
            obtain ⟨pa, fa, Ta, -⟩ := h4.out.2.1
            obtain ⟨pb, fb, Tb, -⟩ := h4.out.1.2.1
            exact Same_any cc t L L X.1 pa X.1 pb X.2 X.2 fa fb w8 Ta Tb true (by exact ⟨fun _ => rfl, fun _ => rfl⟩))
          go_wp2_with fail
          refine hSm.out.mono ?_
          rintro e w9 ⟨rfl, hx9⟩
          replace h4 := hid (h4.out.ext hx9)
          clear hSm hx9
          go_wp2_with fail
          obtain ⟨M, hM⟩ : ∃ M, M = L := ⟨_, rfl⟩
          obtain ⟨Y, hY⟩ : ∃ Y, Y = X := ⟨_, rfl⟩
          have hM12 : M.length ≤ 1200 := by rw [hM]; exact hL12
          replace h4 : Hid (P4 w w9 t r cc oo L X F G M Y Fc Go) := by rw [hM, hY]; exact h4
          clear hM hY
          rename World => wz
          go_loopw [11] (fun i wr => ∃ (k : Nat) (L : List Te) (X : Nat × BT) (F G : Nat → Nat), k ≤ m ∧ i = .int .i64 k ∧ L.length ≤ 1200 ∧ Hid (P4 w wr t r cc oo L X F G M Y Fc Go)) (fun i _ => m - (intOf i).toNat)
          case atStart => exact ⟨0, L, X, F, G, by omega, rfl, hL12, h4⟩
          case round =>
            obtain ⟨j, L2, X2, F2, G2, hjm, rfl, hL212, hQ⟩ := hrel
            clear h4
            by_cases hlt2 : j < m
            · have hji : (j : Int) < (m : Int) := by omega
              obtain ⟨ad, rfl, z0, z1, z2, z3, z4, z5⟩ := (hl.ext hQ.out.1.1).at6 hlt2
              generalize ath ll j = x at *
              have hC := hid (played_any t r x L2 X2 F2 G2 wr hQ.out.1.2.1 hQ.out.1.2.2.1 hQ.out.1.2.2.2.1 hL212)
              have hT : Hid (∀ w', Pair2 x L2 X2 F2 G2 t r wr w' → ∃ L' X' F' G', L'.length ≤ 1200 ∧ Hid (P4 w w' t r cc oo L' X' F' G' M Y Fc Go)) := fun w' h => by
                obtain ⟨F', G', h2⟩ := hQ.out.turn h
                exact ⟨_, _, F', G', actL_le hL212, h2⟩
              clear hQ
              go_wp2_with fail
              refine hC.out.mono ?_
              rintro e w3 ⟨rfl, hpr⟩
              obtain ⟨L', X', F', G', hL', hQ'⟩ := hT.out w3 hpr
              clear hpr hT hC z0 z1 z2 z3 z4 z5
              go_wp2_with fail
              go_roundw
              case rel => exact ⟨j + 1, L', X', F', G', by omega, by go_num, hL', hQ'⟩
              case measure => simp [intOf]; omega
            · obtain rfl : j = m := by omega
              have hH1 := hid (fun w' (hx : Ext wr w') => (by
                obtain ⟨pa, fa, Ta, -⟩ := hQ.out.2.1.ext hx
                have h9 := (lst_le Ta.sh 0).1
                rw [Ta.fl] at h9
                exact holds_any cc M Y.1 pa Y.2 fa oo w' Ta (by omega) (hQ.out.2.2.1.ext hx).rt : Calls Tryz.prog 9 #[.pointer (some ⟨cc, 0, none⟩), .pointer (some ⟨oo, 0, none⟩)] w' (Give (.bool true) w')))
              have hH2 := hid (fun w' (hx : Ext wr w') => (hQ.out.1.ext hx).holds hL212)
              obtain ⟨R, hR⟩ : ∃ R : Bool, Hid (R = true ↔ M = L2) := by
                by_cases he : M = L2
                · exact ⟨true, by exact ⟨fun _ => he, fun _ => rfl⟩⟩
                · exact ⟨false, by exact ⟨fun h => by (cases h), fun h => absurd h he⟩⟩
              have hS1 := hid (fun w' (hx : Ext wr w') => (by
                obtain ⟨pa, fa, Ta, -⟩ := hQ.out.2.1.ext hx
                obtain ⟨pb, fb, Tb, -⟩ := hQ.out.1.2.1.ext hx
                exact Same_any cc t M L2 Y.1 pa X2.1 pb Y.2 X2.2 fa fb w' Ta Tb R hR : Calls Tryz.prog 14 #[.pointer (some ⟨cc, 0, none⟩), .pointer (some ⟨t, 0, none⟩)] w' (Give (.bool R) w')))
              have hS2 := hid (fun w' (hx : Ext wr w') => rSame_any oo r M L2 w' (hQ.out.2.2.1.ext hx).rt (hQ.out.1.2.2.1.ext hx).rt hM12 hL212 R hR)
              have hfx := hid hQ.out.1.1
              clear hR hQ
              go_wp2_with fail
              refine (hH1.out wr (Ext.refl _)).mono ?_
              rintro e w4 ⟨rfl, hx4⟩
              replace hx4 := hid hx4
              clear hH1
              go_wp2_with fail
              refine (hH2.out w4 hx4.out).mono ?_
              rintro e w5 ⟨rfl, hx5⟩
              replace hx4 := hid (hx4.out.trans hx5)
              clear hH2 hx5
              go_wp2_with fail
              refine (hS1.out w5 hx4.out).mono ?_
              rintro e w6 ⟨rfl, hx6⟩
              replace hx4 := hid (hx4.out.trans hx6)
              clear hS1 hx6
              go_wp2_with fail
              refine (hS2.out w6 hx4.out).mono ?_
              rintro e w7 ⟨rfl, hx7⟩
              replace hx4 := hid (hx4.out.trans hx7)
              clear hS2 hx7
              go_wp2_with fail
              refine (known_any _).mono ?_
              rintro e w8 ⟨rfl, hx8⟩
              go_wp2
              go_ret
              exact ⟨rfl, (hfx.out.trans hx4.out).trans hx8⟩
open Go.ChangeShapes Go.WideShapes Go.ChangeAt Go.RowKit Go.Deep
section
variable {H : Type} {enc : TypeId × Value → H} {P : Program} {w : World} {base : Nat} {spare : Nat → Bool} {held : Bool}
theorem slice_fields {t e : TypeId} {fs : Array Field} {fuel : Nat} {cs : List Value} {x : DataW H × List MemPlace} (ht : P.underlying t = some (.slice e)) (he : P.underlying e = some (.struct fs))
    (hone : oneCellFields P fs = true) (hC : P.cellsOf e = fs.size) (h : DataW.trod enc P w base spare held fuel t cs = some x) :
    (cs = [.slice none 0 0]) ∨
    ∃ (a : Addr) (len cap : Nat) (D : Nat → DataW H) (sp : List (DataW H)), cs = [.slice (some a) len cap] ∧ len ≤ cap ∧ cap ≤ maxLen ∧ x.1 = .slice ((List.range len).map D) sp ∧
      ∀ i, i < len → ∃ (ys : List (DataW H × List MemPlace)) (n : Nat), D i = .agg (ys.map (·.1)) ∧
        ∀ (j : Nat) (f : Field), fs[j]? = some f → ∃ (v : Value) (y : DataW H × List MemPlace), w.cell? (a.add (i * fs.size + j)) = some v ∧ ys[j]? = some y ∧ DataW.trod enc P w base spare held n f.type [v] = some y := by
  rcases open_slice ht h with ⟨h0, _⟩ | ⟨a, len, cap, m, n, D, Pl, hcs, hb, hl, hm, hmm, hx, hi⟩
  · exact .inl h0
  · have hlm : len ≤ m := by rw [hmm]; split <;> omega
    refine .inr ⟨a, len, cap, D, _, hcs, hl, hm, congrArg Prod.fst hx, fun i him => ?_⟩
    obtain ⟨cs', hc, ht'⟩ := hi i (by omega)
    rw [hC] at hc
    obtain ⟨ys, n', hn', hy, hlen, hyl, hf⟩ := DataW.trod_struct he ht'
    obtain ⟨_, hcl, hat⟩ := World.cells?_some hc
    simp only [Prod.mk.injEq] at hy
    refine ⟨ys, n', hy.1, fun j f hj => ?_⟩
    obtain ⟨ho, hk⟩ := hone_of hone j f hj
    have hjl : j < fs.size := (Array.getElem?_eq_some_iff.1 hj).1
    have hcell := hat j hjl
    have hv : cs'[j]? = some (cs'[j]'(by omega)) := List.getElem?_eq_getElem (by omega)
    have h1 := hf j f hj
    rw [ho, hk] at h1
    have hone' : (cs'.drop j).take 1 = [cs'[j]'(by omega)] := by
      rw [List.drop_eq_getElem_cons (by omega)]
      rfl
    rw [hone'] at h1
    have hys : ys[j]? = some (ys[j]'(by omega)) := List.getElem?_eq_getElem (by omega)
    refine ⟨_, _, ?_, hys, h1.trans hys⟩
    rw [← Go.Deep.add_add, hcell, hv]
end
theorem choose_list {α : Type} {n : Nat} {Q : Nat → α → Prop} (h : ∀ i, i < n → ∃ a, Q i a) : ∃ l : List α, l.length = n ∧ ∀ i a, l[i]? = some a → Q i a := by
  induction n with
  | zero => exact ⟨[], rfl, fun i a e => by simp at e⟩
  | succ n ih =>
    obtain ⟨l, hl, hq⟩ := ih fun i hi => h i (by omega)
    obtain ⟨a, ha⟩ := h n (by omega)
    refine ⟨l ++ [a], by simp [hl], fun i b e => ?_⟩
    by_cases hi : i < n
    · rw [List.getElem?_append_left (by omega)] at e
      exact hq i b e
    · by_cases hn : i = n
      · subst hn
        rw [List.getElem?_append_right (by omega), hl, Nat.sub_self] at e
        obtain rfl : a = b := by simpa using e
        exact ha
      · rw [List.getElem?_eq_none (by simp; omega)] at e
        cases e
open Go.ChangeShapes Go.WideShapes Go.ChangeAt Go.RowKit Go.Deep
section
variable {H : Type} {enc : TypeId × Value → H} {w : World} {base : Nat} {spare : Nat → Bool} {held : Bool} {fuel : Nat} {cs : List Value} {x : DataW H × List MemPlace}
theorem acts_read (h : DataW.trod enc Tryz.prog w base spare held fuel 22 cs = some x) : ∃ (A : Option Addr) (n c : Nat) (l : List Ac), cs = [.slice A n c] ∧ RdA w A n c l := by
  rcases slice_fields Tryz.underlying22 Tryz.underlying34 (by kernel_rfl) (by kernel_rfl) h with rfl | ⟨a, len, cap, D, sp, rfl, hl, hm, hx, hi⟩
  · exact ⟨none, 0, 0, [], rfl, Rd.none_ w 6, fun x hx => by cases hx⟩
  · obtain ⟨l, hll, hq⟩ := choose_list (n := len) (Q := fun i (v : Ac) => (∀ (j : Nat) (u : Value), (acells v)[j]? = some u → w.cell? (a.add (i * 6 + j)) = some u) ∧ okA v) (fun i hi' => by
      obtain ⟨ys, n, hd, hf⟩ := hi i hi'
      obtain ⟨v0, y0, c0, g0, t0⟩ := hf 0 _ rfl
      obtain ⟨v1, y1, c1, g1, t1⟩ := hf 1 _ rfl
      obtain ⟨v2, y2, c2, g2, t2⟩ := hf 2 _ rfl
      obtain ⟨v3, y3, c3, g3, t3⟩ := hf 3 _ rfl
      obtain ⟨v4, y4, c4, g4, t4⟩ := hf 4 _ rfl
      obtain ⟨v5, y5, c5, g5, t5⟩ := hf 5 _ rfl
      obtain ⟨n0, e0, _, m0⟩ := DataW.trod_int Tryz.underlying3 t0
      obtain ⟨n1, e1, _, m1⟩ := DataW.trod_int Tryz.underlying3 t1
      obtain ⟨n2, e2, _, m2⟩ := DataW.trod_int Tryz.underlying3 t2
      obtain ⟨n3, e3, _, m3⟩ := DataW.trod_int Tryz.underlying3 t3
      obtain ⟨n4, e4, _, m4⟩ := DataW.trod_string Tryz.underlying9 t4
      obtain ⟨n5, e5, _, m5⟩ := DataW.trod_string Tryz.underlying9 t5
      simp only [List.cons.injEq, and_true] at e0 e1 e2 e3 e4 e5
      subst e0 e1 e2 e3 e4 e5
      refine ⟨⟨n0, n1, n2, n3, n4, n5⟩, fun j u hu => ?_, m4, m5⟩
      have hj : j < 6 := by have := (List.getElem?_eq_some_iff.1 hu).1; simpa [acells] using this
      rcases (by omega : j = 0 ∨ j = 1 ∨ j = 2 ∨ j = 3 ∨ j = 4 ∨ j = 5) with rfl | rfl | rfl | rfl | rfl | rfl <;> (obtain rfl := Option.some.inj hu; assumption))
    refine ⟨some a, len, cap, l, rfl, ⟨by rw [acs_len, hll], hl, hm, fun _ => ⟨a, rfl, fun j u hu => ?_⟩⟩, fun x hx => ?_⟩
    · have hj : j < l.length * 6 := by
        have := (List.getElem?_eq_some_iff.1 hu).1
        rwa [acs_len] at this
      obtain ⟨k, r, hr, rfl⟩ : ∃ k r, r < 6 ∧ j = k * 6 + r := ⟨j / 6, j % 6, by omega, by omega⟩
      have hk : k < l.length := by omega
      rw [acs_at l k hk r hr] at hu
      exact (hq k _ (List.getElem?_eq_getElem hk)).1 r u hu
    · obtain ⟨j, hj⟩ := List.getElem?_of_mem hx
      exact (hq j x hj).2
end
end Go.Proofs.YtpijfiaecicpfaaGreat
