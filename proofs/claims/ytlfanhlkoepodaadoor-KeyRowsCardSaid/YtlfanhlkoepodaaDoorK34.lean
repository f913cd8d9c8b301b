/-
  The compound key of values: the reference, and the law.
-/
import Derived.Test.YtlfanhlkoepodaaDoorK33
import Derived.Test.YtlfanhlkoepodaaDoorK21
import Derived.Deep.RegionWith
namespace Go.Proofs.YtlfanhlkoepodaaDoor
open Go.RowKit
set_option linter.unusedVariables false
set_option linter.unusedSimpArgs false
set_option maxRecDepth 100000 in
set_option maxHeartbeats 20000000 in
theorem rRow_any (A : Option Addr) (n cp : Nat) (l : List VL) (p c : Int) (A2 : Option Addr) (nd cd : Nat) (ds : List Bool) (w : World) (hl : RdV w A n cp l) (hd : RdO w A2 nd cd ds) (hn : n ≤ 4398046510976) (hz : Hid (∀ k, k < n → (vth l k).2.2.size ≤ 140737488351232)) (hco : Co p c) : Calls Tryd.prog 47 #[.slice A n cp, .int .i64 p, .int .i64 c, .slice A2 nd cd] w (GiveSE (rowS p c l ds) (rowE p c l ds) w) := by
  have hlen := hid hl.len
  have hdlen := hid hd.len
  have hmx := Rd.max hl
  have hmy := Rd.max hd
  have r3 := hid (fun h => row_3 (p := p) (c := c) (l := l) (ds := ds) h)
  have r1 := hid (fun h3 h => row_1 (p := p) (c := c) (l := l) (ds := ds) h3 h)
  have r10 := hid (fun h3 h1 h => row_10 (p := p) (c := c) (l := l) (ds := ds) h3 h1 h)
  have rb := hid (fun h3 h1 h hb => row_big (p := p) (c := c) (l := l) (ds := ds) h3 h1 h hb)
  have ry := hid (fun h3 h1 h hb => row_yes (p := p) (c := c) (l := l) (ds := ds) h3 h1 h hb)
  generalize rowE p c l ds = E at *
  generalize rowS p c l ds = S at *
  have ca := hid (fun w => rAsked_any p c w)
  have hap : askP p c = 0 := by have := ask_emp hco; rw [askV_yes (by decide)] at this; exact this
  rw [hap] at ca
  clear hap
  have cA := hid (fun w h => rAll_any A n cp l w h hz)
  clear hz
  replace hl := hid hl
  replace hd := hid hd
  rcases Bool.eq_false_or_eq_true (hasE l 3) with h3 | h3
  · rw [show allE l = 3 by unfold allE; simp [h3]] at cA
    obtain ⟨rfl, rfl⟩ := r3.out h3
    clear h3 r3 r1 r10 rb ry
    go_enter Tryd.func47, Tryd.ntmps47
    go_wp2_with fail
    refine (cA.out _ hl.out).mono ?_
    rintro e w2 ⟨rfl, hx2⟩
    go_wp2
    go_ret2
    exact ⟨rfl, hx2⟩
  rcases Bool.eq_false_or_eq_true (hasE l 1) with h1 | h1
  · rw [show allE l = 1 by unfold allE; simp [h3, h1]] at cA
    obtain ⟨rfl, rfl⟩ := r1.out h3 h1
    clear h3 h1 r3 r1 r10 rb ry
    go_enter Tryd.func47, Tryd.ntmps47
    go_wp2_with fail
    refine (cA.out _ hl.out).mono ?_
    rintro e w2 ⟨rfl, hx2⟩
    go_wp2
    go_ret2
    exact ⟨rfl, hx2⟩
  rw [show allE l = 0 by unfold allE; simp [h3, h1]] at cA
  clear r3 r1
  by_cases hnd : n = nd
  rotate_left
  · have d2 : ((n : Int) != (nd : Int)) = true := by simp; omega
    obtain ⟨rfl, rfl⟩ := r10.out h3 h1 (by rw [hlen.out, hdlen.out]; exact hnd)
    clear hnd rb ry r10 h3 h1
    go_enter Tryd.func47, Tryd.ntmps47
    go_wp2_with fail
    refine (cA.out _ hl.out).mono ?_
    rintro e w2 ⟨rfl, hx2⟩
    go_wp2_with fail
    refine (ca.out _).mono ?_
    rintro e w' ⟨rfl, rfl⟩
    go_wp2
    go_ret2
    exact ⟨rfl, hx2⟩
  subst hnd
  have hll := hid (hlen.out.trans hdlen.out.symm)
  have d2 : ((n : Int) != (n : Int)) = false := by simp
  replace rb := hid (rb.out h3 h1 hll.out)
  replace ry := hid (ry.out h3 h1 hll.out)
  clear r10
  have hpl := hid (fun k (hk : k < n) d w => rKeyOf_any (vth l k).1 (vth l k).2.1 (vth l k).2.2 p c d (val_ok h3 h1 (by rw [hlen.out]; exact hk)) hco w)
  unfold vV at hpl
  clear h3 h1
  have hst := hid (fun k (hk : k < n) => row_step (p := p) (c := c) (l := l) (ds := ds) (k := k) (by rw [hlen.out]; exact hk) (by rw [hdlen.out]; exact hk))
  have hsz := hid (fun k => keyB_size (vth l k).1 (vth l k).2.1 (vth l k).2.2 p c)
  have htot : Hid ([] ++ rowL p c (l.drop 0) (ds.drop 0) = rowL p c l ds) := by unfold Hid; rw [List.drop_zero, List.drop_zero]; rfl
  go_enter Tryd.func47, Tryd.ntmps47
  go_wp2_with fail
  refine (cA.out _ hl.out).mono ?_
  rintro e w2 ⟨rfl, hx2⟩
  have hE := hid hx2
  clear hx2 cA
  go_wp2_with fail
  refine (ca.out _).mono ?_
  rintro e w' ⟨rfl, rfl⟩
  clear ca
  go_wp2_with fail
  go_loopw [12, 13] (fun s i wr => ∃ (k : Nat) (out : ByteArray), k ≤ n ∧ s = .string out ∧ i = .int .i64 k ∧ out.size ≤ k * 99 ∧ Hid (Ext w wr) ∧ Hid (out.toList ++ rowL p c (l.drop k) (ds.drop k) = rowL p c l ds)) (fun _ i _ => n - (intOf i).toNat)
  case atStart => exact ⟨0, { data := #[] }, by omega, rfl, rfl, by decide, hE, by rw [show ByteArray.toList { data := #[] } = [] from emp_list]; exact htot⟩
  clear htot
  case round =>
    obtain ⟨k, out, hk, rfl, rfl, hos, hx, hR⟩ := hrel
    by_cases hlt : k < n
    · have d4 : decide ((k : Int) < (n : Int)) = true := by simp; omega
      have d4n : decide (k < n) = true := by simp; omega
      by_cases hbg : 100 < out.size
      · have d5 : decide ((out.size : Int) ≤ 100) = false := by simp; omega
        have d6 : decide ((100 : Int) < (out.size : Int)) = true := by simp; omega
        obtain ⟨rfl, rfl⟩ := rb.out (by rw [← hR.out, List.length_append, len_toList]; omega)
        clear hbg rb ry hR
        go_wp2
        go_ret2
        exact ⟨rfl, hx.out⟩
      have d5 : decide ((out.size : Int) ≤ 100) = true := by simp; omega
      obtain ⟨ad, rfl, x0, x1, x2⟩ := (hl.out.ext hx.out).at_ hlt
      obtain ⟨bd, rfl, y0⟩ := (hd.out.ext hx.out).at_ hlt
      have hp := hid (fun d w => hpl.out k hlt d w)
      have hs1 := hst.out k hlt
      have hz := hsz.out k
      rw [hs1] at hR
      rw [← List.append_assoc] at hR
      clear hs1
      rw [show kL (vth l k).1 (vth l k).2.1 (vth l k).2.2 p c = (keyB (vth l k).1 (vth l k).2.1 (vth l k).2.2 p c).toList from (keyB_list _ _ _ _ _).symm] at hR
      generalize keyB (vth l k).1 (vth l k).2.1 (vth l k).2.2 p c = KB at *
      generalize (vth l k).1 = z0 at *
      generalize (vth l k).2.1 = z1 at *
      generalize (vth l k).2.2 = z2 at *
      generalize both_ ds k = d at *
      have hR2 : Hid ((out ++ turnS d KB).toList ++ rowL p c (l.drop (k + 1)) (ds.drop (k + 1)) = rowL p c l ds) := by unfold Hid; rw [add_list, turnS_list]; exact hR.out
      clear hR
      have hts := turnS_size d KB
      have ad1 := str_add out (turnS d KB) (by omega)
      have hos2 : (out ++ turnS d KB).size ≤ (k + 1) * 99 := by rw [ByteArray.size_append]; omega
      clear hts
      have hpd := hid (fun w => hp.out d w)
      generalize turnS d KB = TK at *
      go_upto_region 13 with fail
      go_region_with (go_at_call 51; refine (hpd.out _).mono ?_; rintro e w' ⟨rfl, hx3⟩; have hE3 := hid (hx.out.trans (Ext.trans (Ext.refl wr).drew_right hx3)))
      all_goals
        go_wp2_with fail
        go_roundw
        case rel => exact ⟨k + 1, _, by omega, rfl, by go_num, hos2, hE3, hR2⟩
        case measure => simp [intOf]; omega
    · obtain rfl : k = n := by omega
      rw [List.drop_of_length_le (by rw [hlen.out]; exact Nat.le_refl _), row_nil, List.append_nil] at hR
      have hos3 : out.size = (rowL p c l ds).length := by rw [← hR.out, len_toList]
      have hosz : Hid (out = strB (rowL p c l ds)) := by unfold Hid; rw [← hR.out, strB_id]
      by_cases hbg : 100 < out.size
      · have d3 : decide ((100 : Int) < (out.size : Int)) = true := by simp; omega
        obtain ⟨rfl, rfl⟩ := rb.out (by rw [← hos3]; exact hbg)
        clear hos3 hbg rb ry hR hosz
        go_wp2
        go_ret2
        exact ⟨rfl, hx.out⟩
      · have d3 : decide ((100 : Int) < (out.size : Int)) = false := by simp; omega
        obtain ⟨rfl, rfl⟩ := ry.out (by rw [← hos3]; exact hbg)
        clear hos3 hbg rb ry hR
        go_wp2
        go_ret2
        exact ⟨by rw [← hosz.out]; rfl, hx.out⟩
theorem rowS_size (p c : Int) (l : List VL) (ds : List Bool) : (rowS p c l ds).size ≤ 100 := by
  unfold rowS
  split
  · rename_i h
    rw [strB_size]
    unfold rowE at h
    split at h
    · cases h
    · split at h
      · cases h
      · split at h
        · cases h
        · split at h
          · cases h
          · omega
  · show (0 : Nat) ≤ 100
    omega
set_option maxRecDepth 100000 in
set_option maxHeartbeats 4000000 in
theorem rows_law (A : Option Addr) (n cp : Nat) (l : List VL) (A2 : Option Addr) (nd cd : Nat) (ds : List Bool) (x : Int) (w : World) (hl : RdV w A n cp l) (hz0 : n * 32 ≤ 140737488351232 ∧ ∀ (j : Nat) (v : VL), l[j]? = some v → v.2.2.size ≤ 140737488351232) (hd : RdO w A2 nd cd ds) (_ : nd ≤ 140737488351232) (hx : (Lit.int .i64 x).wf = true) (hm : ML w) : Calls Tryd.prog 12 #[.slice A n cp, .slice A2 nd cd, .int .i64 x] w (Give (.bool true) w) := by
  replace hm := hid hm
  have hmd := Rd.max hd
  have hz : Hid (∀ k, k < n → (vth l k).2.2.size ≤ 140737488351232) := fun k hk => hz0.2 k _ (by simp [vth, List.getD, show k < l.length by rw [hl.len]; exact hk])
  have hn : n ≤ 4398046510976 := by omega
  clear hz0
  have cmn := hid (fun w h => manyV_any A n cp l w h hz)
  have pg := hid (fun w => page_any x (wf_in hx) w)
  clear hx
  have c1 := hid (fun p c hco w hl hd hm => Row_any A n cp l p c A2 nd cd ds w hl hd hn hco hm)
  have c2 := hid (fun p c hco w hl hd => rRow_any A n cp l p c A2 nd cd ds w hl hd hn hz hco)
  have hrs := hid (fun p c => rowS_size p c l ds)
  have c3 := hid (fun k w (hk : k.size ≤ 100) (hnd : nd ≤ 40000) h => Split_any k A2 nd cd ds (by omega) (by omega) w h)
  have c4 := hid (fun k w (hk : k.size ≤ 100) (hnd : nd ≤ 40000) h => rSplit_any k A2 nd cd ds (by omega) (by omega) w h)
  replace hl := hid hl
  replace hd := hid hd
  go_enter Tryd.func12, Tryd.ntmps12
  go_wp2_with fail
  refine (cmn.out _ hl.out).mono ?_
  rintro e w' ⟨⟨b, rfl⟩, rfl⟩
  cases b with
  | true =>
    go_wp2_with fail
    refine (known_any _ (hm.out.ext (Ext.refl w))).mono ?_
    rintro e w1 ⟨rfl, hx1⟩
    go_wp2
    go_ret
    exact ⟨rfl, ((Ext.refl w)).trans hx1⟩
  | false =>
    by_cases hnd : 40000 < nd
    · have d1 : decide ((40000 : Int) < (nd : Int)) = true := by simp; omega
      clear hnd
      go_wp2_with fail
      refine (known_any _ (hm.out.ext (Ext.refl w))).mono ?_
      rintro e w1 ⟨rfl, hx1⟩
      go_wp2
      go_ret
      exact ⟨rfl, ((Ext.refl w)).trans hx1⟩
    have d1 : decide ((40000 : Int) < (nd : Int)) = false := by simp; omega
    have hnd2 := hid (show nd ≤ 40000 by omega)
    clear hnd
    go_wp2_with fail
    refine (pg.out _).mono ?_
    rintro e w' ⟨⟨p, c, hco, rfl⟩, rfl⟩
    replace hco := hid hco
    clear pg
    have hss := hid (hrs.out p c)
    have c1 := hid (c1.out p c hco.out)
    have c2 := hid (c2.out p c hco.out)
    generalize rowS p c l ds = S at *
    generalize rowE p c l ds = E at *
    clear hco hrs
    go_wp2_with fail
    refine (c1.out _ hl.out hd.out hm.out).mono ?_
    rintro e w2 ⟨rfl, hx2⟩
    have hE := hid hx2
    clear hx2
    go_wp2_with fail
    refine (c2.out _ (hl.out.ext hE.out) (hd.out.ext hE.out)).mono ?_
    rintro e w3 ⟨rfl, hx3⟩
    replace hE := hid (hE.out.trans hx3)
    clear hx3 c1 c2
    have c3 := hid (fun w h => c3.out S w hss.out hnd2.out h)
    have c4 := hid (fun w h => c4.out S w hss.out hnd2.out h)
    generalize splA [] S.toList ds = R at *
    go_wp2_with fail
    refine (c3.out _ (hd.out.ext hE.out)).mono ?_
    rintro e w4 ⟨A4, n4, e4, rfl, hr4, hx4⟩
    replace hr4 := hid hr4
    replace hE := hid (hE.out.trans hx4)
    clear hx4
    go_wp2_with fail
    refine (c4.out _ (hd.out.ext hE.out)).mono ?_
    rintro e w5 ⟨A5, n5, e5, rfl, hr5, hx5⟩
    replace hr4 := hid (hr4.out.ext hx5)
    replace hE := hid (hE.out.trans hx5)
    obtain rfl : n5 = n4 := by rw [← hr5.len, ← hr4.out.len]
    clear hx5
    have sv := hid (SameVs_any A4 n5 e4 A5 e5 R.1 w5 hr4.out hr5)
    clear hr4 hr5 c3 c4
    go_wp2_with fail
    refine sv.out.mono ?_
    rintro e w6 ⟨rfl, hx6⟩
    replace hE := hid (hE.out.trans hx6)
    clear hx6 sv
    go_wp2_with fail
    refine (known_any _ (hm.out.ext hE.out)).mono ?_
    rintro e w7 ⟨rfl, hx7⟩
    go_wp2
    go_ret
    exact ⟨rfl, (hE.out).trans hx7⟩
end Go.Proofs.YtlfanhlkoepodaaDoor
