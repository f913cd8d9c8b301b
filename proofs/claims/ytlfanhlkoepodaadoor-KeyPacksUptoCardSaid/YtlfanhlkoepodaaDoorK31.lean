/-
  The law of the bytes of a list of keys.
-/
import Derived.Test.YtlfanhlkoepodaaDoorK30
import Derived.Test.YtlfanhlkoepodaaDoorK7
namespace Go.Proofs.YtlfanhlkoepodaaDoor
open Go.RowKit
set_option linter.unusedVariables false
set_option linter.unusedSimpArgs false
set_option maxRecDepth 100000 in
set_option maxHeartbeats 4000000 in
theorem SameTs_any (A : Option Addr) (n c : Nat) (B : Option Addr) (d : Nat) (l : List ByteArray) (w : World) (ha : Pg.RdS w A n c l) (hb : Pg.RdS w B n d l) : Calls Tryd.prog 37 #[.slice A n c, .slice B n d] w (Give (.bool true) w) := by
  have hm := Rd.max ha
  replace ha := hid ha
  replace hb := hid hb
  go_enter Tryd.func37, Tryd.ntmps37
  go_wp2_with fail
  go_loopw [5] (fun i wr => ∃ k : Nat, k ≤ n ∧ i = .int .i64 k ∧ Hid (Ext w wr)) (fun i _ => n - (intOf i).toNat)
  case atStart => exact ⟨0, by omega, rfl, Ext.refl _⟩
  case round =>
    obtain ⟨k, hk, rfl, hx⟩ := hrel
    by_cases hlt : k < n
    · obtain ⟨ad, rfl, x0⟩ := Pg.RdS.at_ (Pg.RdS.ext ha.out hx.out) hlt
      obtain ⟨bd, rfl, y0⟩ := Pg.RdS.at_ (Pg.RdS.ext hb.out hx.out) hlt
      generalize Pg.sth l k = z0 at *
      clear ha hb
      go_wp2
      go_quiet (fail)
      go_wp2
      go_roundw
      case rel => exact ⟨k + 1, by omega, by go_num, hx.out.drewN_right _⟩
      case measure => simp [intOf]; omega
    · obtain rfl : k = n := by omega
      go_wp2
      go_ret
      exact ⟨rfl, hx.out⟩
set_option maxRecDepth 100000 in
set_option maxHeartbeats 20000000 in
theorem packs_law (A : Option Addr) (n c : Nat) (l : List ByteArray) (B : Option Addr) (n2 c' : Nat) (b : List UInt8) (w : World) (hl : Pg.RdS w A n c l) (hn : n ≤ 1048576) (hz : ∀ (j : Nat) (v : ByteArray), l[j]? = some v → v.size ≤ 140737488351232) (hb : Pg.RdB w B n2 c' b) (hn2 : n2 ≤ 1048576) (hm : ML w) : Calls Tryd.prog 8 #[.slice A n c, .slice B n2 c'] w (Give (.bool true) w) := by
  replace hm := hid hm
  have hmx := Rd.max hl
  have hmy := Rd.max hb
  have hll := Pg.RdS.len hl
  have hpz : Hid (∀ k, k < n → (Pg.sth l k).size ≤ 140737488351232) := by
    intro k hk
    exact hz k _ (by simp [Pg.sth, List.getD, show k < l.length by omega])
  clear hz hll
  have c1 := hid (fun w h => Pack_any A n c l w h hpz)
  have c2 := hid (fun w h => rPack_any A n c l w h hpz)
  have c3 := hid (fun w h => Unpack_any B n2 c' b w h)
  have c4 := hid (fun w h => rUnpack_any B n2 c' b w hn2 h)
  rw [un_ref] at c3
  have c5 := hid (fun A n c (h : pakE l = 0) w hr => by have := Unpack_any A n c (pakB l) w hr; rw [un_pak h] at this; exact this)
  generalize pakB l = PB at *
  generalize unR b = R at *
  have sz : Hid (∀ k, k < n → (Pg.sth l k).size ≤ 9223372036854775807) := fun k hk => by have := hpz.out k hk; omega
  clear hpz
  replace hl := hid hl
  replace hb := hid hb
  have ew : wrap64 ((n2 : Int) + (n : Int)) = (n2 : Int) + (n : Int) := IntWalk.wrap64_in _ ⟨by omega, by omega⟩
  go_enter Tryd.func8, Tryd.ntmps8
  go_wp2_with fail
  go_loop [5, 6] (fun v i => ∃ (k : Nat) (x : Int), k ≤ n ∧ v = .int .i64 x ∧ i = .int .i64 k) (fun _ i => n - (intOf i).toNat)
  case atStart => exact ⟨0, _, by omega, rfl, rfl⟩
  case round =>
    obtain ⟨k, x, hk, rfl, rfl⟩ := hrel
    by_cases hlt : k < n
    · obtain ⟨ad, rfl, x0⟩ := Pg.RdS.at_ hl.out hlt
      have hs := sz.out k hlt
      generalize Pg.sth l k = z0 at *
      go_wp2_with fail
      go_round
      case rel => exact ⟨k + 1, _, by omega, rfl, by go_num⟩
      case measure => simp [intOf]; omega
    · obtain rfl : k = n := by omega
      clear ew sz
      by_cases hx : 100000 < x
      · have d1 : decide ((100000 : Int) < x) = true := by simpa using hx
        clear hx c1 c2 c3 c4 c5
        go_wp2_with fail
        refine (known_any _ (hm.out.ext (Ext.refl w))).mono ?_
        rintro e w1 ⟨rfl, hx1⟩
        go_wp2
        go_ret
        exact ⟨rfl, ((Ext.refl w)).trans hx1⟩
      have d1 : decide ((100000 : Int) < x) = false := by simpa using hx
      clear hx
      go_wp2_with fail
      refine (c1.out _ hl.out).mono ?_
      rintro e w1 ⟨A1, m1, k1, rfl, hr1, hx1, hf1⟩
      have hE := hid hx1
      replace hr1 := hid hr1
      clear hx1 hf1
      go_wp2_with fail
      refine (c2.out _ (Pg.RdS.ext hl.out hE.out)).mono ?_
      rintro e w2 ⟨A2, m2, k2, rfl, hr2, hx2, hf2⟩
      replace hE := hid (hE.out.trans hx2)
      replace hr1 := hid (Pg.RdB.ext hr1.out hx2)
      replace hr2 := hid hr2
      clear hx2 hf2
      go_wp2_with fail
      refine (c3.out _ (Pg.RdB.ext hb.out hE.out)).mono ?_
      rintro e w3 ⟨A3, m3, k3, rfl, hr3, hx3⟩
      replace hE := hid (hE.out.trans hx3)
      replace hr1 := hid (Pg.RdB.ext hr1.out hx3)
      replace hr2 := hid (Pg.RdB.ext hr2.out hx3)
      replace hr3 := hid hr3
      clear hx3
      go_wp2_with fail
      refine (c4.out _ (Pg.RdB.ext hb.out hE.out)).mono ?_
      rintro e w4 ⟨A4, m4, k4, rfl, hr4, hx4⟩
      replace hE := hid (hE.out.trans hx4)
      replace hr1 := hid (Pg.RdB.ext hr1.out hx4)
      replace hr2 := hid (Pg.RdB.ext hr2.out hx4)
      replace hr3 := hid (Pg.RdS.ext hr3.out hx4)
      clear hx4
      obtain rfl : m4 = m3 := by rw [← Pg.RdS.len hr4, ← Pg.RdS.len hr3.out]
      have sv := hid (SameTs_any A3 m4 k3 A4 k4 (R.getD []) w4 hr3.out hr4)
      have hcv1 := Pg.conv_RdB hr1.out
      have hcv2 := Pg.conv_RdB hr2.out
      generalize Pg.strB PB = Z at *
      clear hr2 hr3 hr4 c1 c2 c3 c4
      generalize unE R = E2 at *
      go_wp2_with fail
      refine sv.out.mono ?_
      rintro e w5 ⟨rfl, hx5⟩
      replace hE := hid (hE.out.trans hx5)
      replace hr1 := hid (Pg.RdB.ext hr1.out hx5)
      clear hx5 hcv1 hcv2 sv
      by_cases hPE : pakE l = 0
      rotate_left
      · have d2 : (pakE l != 0) = true := by simpa using hPE
        generalize pakE l = E at *
        clear hPE c5 hr1
        go_wp2_with fail
        refine (known_any _ (hm.out.ext hE.out)).mono ?_
        rintro e w6 ⟨rfl, hx6⟩
        go_wp2
        go_ret
        exact ⟨rfl, (hE.out).trans hx6⟩
      have c6 := hid (c5.out A1 m1 k1 hPE w5 hr1.out)
      rw [hPE]
      clear hPE c5 hr1
      go_wp2_with fail
      refine c6.out.mono ?_
      rintro e w6 ⟨A6, m6, k6, rfl, hr6, hx6⟩
      replace hE := hid (hE.out.trans hx6)
      clear hx6 c6
      have hl6 := Pg.RdS.ext hl.out hE.out
      obtain rfl : m6 = k := by rw [← Pg.RdS.len hr6, ← Pg.RdS.len hl6]; rfl
      have sv := hid (SameTs_any A6 m6 k6 A c l w6 hr6 hl6)
      clear hl6 hr6
      go_wp2_with fail
      refine sv.out.mono ?_
      rintro e w7 ⟨rfl, hx7⟩
      replace hE := hid (hE.out.trans hx7)
      clear hx7 sv
      go_wp2_with fail
      refine (known_any _ (hm.out.ext hE.out)).mono ?_
      rintro e w8 ⟨rfl, hx8⟩
      go_wp2
      go_ret
      exact ⟨rfl, (hE.out).trans hx8⟩
theorem packs_law' (A : Option Addr) (n c : Nat) (l : List ByteArray) (B : Option Addr) (n2 c' : Nat) (b : List UInt8) (w : World) (hl : Pg.RdS w A n c l) (hz : n * 16 ≤ 140737488351232 ∧ ∀ (j : Nat) (v : ByteArray), l[j]? = some v → v.size ≤ 140737488351232) (hn : n ≤ 1048576) (hb : Pg.RdB w B n2 c' b) (hz2 : n2 ≤ 140737488351232) (hn2 : n2 ≤ 1048576) (hm : ML w) : Calls Tryd.prog 8 #[.slice A n c, .slice B n2 c'] w (Give (.bool true) w) := packs_law A n c l B n2 c' b w hl hn hz.2 hb hn2 hm
end Go.Proofs.YtlfanhlkoepodaaDoor
