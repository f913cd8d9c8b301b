/-
  The keys of bytes: the reference.
-/
import Derived.Test.YtlfanhlkoepodaaDoorK29
namespace Go.Proofs.YtlfanhlkoepodaaDoor
open Go.RowKit
set_option linter.unusedVariables false
set_option linter.unusedSimpArgs false
theorem RdB_cells {w : World} {ad : Addr} {n c : Nat} {l : List UInt8} (h : Pg.RdB w (some ad) n c l) {k : Nat} (hk : k < n) : w.cell? (ad.add k) = some (.int .u8 ((l.getD k 0).toNat : Int)) := by
  obtain ⟨a, e, hc⟩ := RdB_at h hk
  obtain rfl := Option.some.inj e
  exact hc
theorem getD_drop (l : List UInt8) (k j : Nat) : (l.drop k).getD j 0 = l.getD (k + j) 0 := by simp [List.getD]
def unM (l : List UInt8) : Option (List ByteArray) → Option (List ByteArray)
  | none => none
  | some x => if pakE x = 0 ∧ pakB x = l then some x else none
theorem unR_M (l : List UInt8) : unR l = unM l (paA l.length [] [] l) := by
  unfold unR
  cases paA l.length [] [] l <;> rfl
theorem RdS_cap {w : World} {A : Option Addr} {n c : Nat} {l : List ByteArray} (h : Pg.RdS w A n c l) : l.length = n := Pg.RdS.len h
set_option maxRecDepth 100000 in
set_option maxHeartbeats 20000000 in
theorem rUnpack_any (A : Option Addr) (n c : Nat) (l : List UInt8) (w : World) (hn : n ≤ 1048576) (hl : Pg.RdB w A n c l) : Calls Tryd.prog 36 #[.slice A n c] w (GiveSsE (unR l) w) := by
  have info9 : (Tryd.prog.info? 9).map (fun i => (i.zero, i.size, i.bytes)) = some (some (.string ByteArray.empty), 1, 16) := by kernel_rfl
  obtain ⟨i0, hi, hz0, hz1, hz2⟩ := info_parts info9
  clear info9
  have cc := hid (fun A n c l w h hz => rPack_any A n c l w h hz)
  have hR0 := hid (unR_M l)
  generalize unR l = R0 at *
  generalize hRR : paA l.length [] [] l = R at *
  replace hRR : Hid (paA l.length [] [] (l.drop 0) = R) := by unfold Hid; rw [List.drop_zero]; exact hRR
  have hln := Pg.RdB.len hl
  have hln2 := hid hln
  have hmx0 := Rd.max hl
  replace hl := hid hl
  go_enter Tryd.func36, Tryd.ntmps36
  go_wp2_with fail
  go_loopw [4, 5, 6] (fun v s a wr => ∃ (k m f : Nat) (bf : ByteArray) (acc : List ByteArray), a = .int .i64 k ∧ k ≤ n ∧ s = .string bf ∧ bf.size ≤ 510 ∧ m ≤ k ∧ wr.ownsRow w.heap.size 9 1 v m (Pg.strs acc) ∧ Below w.heap.size w wr ∧ Hid (acc.length = m) ∧ Hid (∀ j, j < m → (Pg.sth acc j).size ≤ 510) ∧ Hid (n - k ≤ f) ∧ Hid (paA f acc bf.toList (l.drop k) = R)) (fun _ _ a _ => n - (intOf a).toNat)
  case atStart => exact ⟨0, 0, l.length, { data := #[] }, [], rfl, by omega, rfl, by decide, by omega, World.ownsRow_nil _ _ _ _, Below.refl _ _, rfl, fun j hj => absurd hj (by omega), by unfold Hid; omega, by rw [show ByteArray.toList { data := #[] } = [] from emp_list]; exact hRR⟩
  clear hRR
  case round =>
    obtain ⟨k, m, f, bf, acc, rfl, hk, rfl, hbf, hm, hown, hb, hal, hsz, hfu, hR⟩ := hrel
    have hbs := hb.size
    obtain ⟨hmx1, hmx2, hmx3⟩ := hmx0
    obtain ⟨A0, c0, rfl, hc0⟩ := own_form hown
    by_cases h0 : k < n
    rotate_left
    · obtain rfl : k = n := by omega
      rw [List.drop_of_length_le (by omega), pa_nil] at hR
      obtain rfl : R = some acc := hR.out.symm
      have hrd := show Pg.RdS wr A0 m c0 acc from Rd.of_own hown
      have c1 := hid (cc.out A0 m c0 acc wr hrd (fun j hj => by have := hsz.out j hj; omega))
      replace hrd := hid hrd
      have hR1 : Hid (R0 = if pakE acc = 0 ∧ pakB acc = l then some acc else none) := hR0.out
      have hcvb := hid (fun w' (hx : Ext w w') => Pg.conv_RdB (Pg.RdB.ext hl.out hx))
      clear hR0 hR hsz hal hown cc hfu
      by_cases hE : pakE acc = 0
      rotate_left
      · have d1 : (pakE acc != 0) = true := by simpa using hE
        obtain rfl : R0 = none := by rw [hR1.out]; exact if_neg (fun h => hE h.1)
        clear hE hR1 hcvb
        generalize pakE acc = E at *
        generalize pakB acc = B at *
        go_wp2_with fail
        refine c1.out.mono ?_
        rintro e w2 ⟨A2, n2, c2, rfl, hr2, hx2, hf2⟩
        go_wp2
        go_ret2
        exact GiveSsE.no (Ext.trans hb hx2)
      rw [hE] at c1
      generalize hB : pakB acc = B at *
      by_cases hBl : B = l
      · obtain rfl : R0 = some acc := by rw [hR1.out]; exact if_pos ⟨hE, hBl⟩
        obtain rfl : l = B := hBl.symm
        clear hE hR1 hB hBl
        go_wp2_with fail
        refine c1.out.mono ?_
        rintro e w2 ⟨A2, n2, c2, rfl, hr2, hx2, hf2⟩
        have hcv1 := Pg.conv_RdB hr2
        have hcv2 := hcvb.out w2 (Ext.trans hb hx2)
        have hs1 : Pg.strB l = strB l := rfl
        have hs2 : Pg.strB l = strB l := rfl
        rw [hs1] at hcv1
        rw [hs2] at hcv2
        clear hs1 hs2 hr2 hf2
        generalize strB l = Z at *
        replace hrd := hid (Pg.RdS.ext hrd.out hx2)
        replace hx2 := hid (Ext.trans hb hx2)
        go_wp2
        go_ret2
        exact GiveSsE.yes hrd.out hx2.out
      · obtain rfl : R0 = none := by rw [hR1.out]; exact if_neg (fun h => hBl h.2)
        have dS : ((strB B).toList == (strB l).toList) = false := by rw [strB_toList, strB_toList]; simpa using hBl
        have dS2 : ((strB B).toList != (strB l).toList) = true := by rw [strB_toList, strB_toList]; simpa using hBl
        clear hE hR1 hB hBl
        go_wp2_with fail
        refine c1.out.mono ?_
        rintro e w2 ⟨A2, n2, c2, rfl, hr2, hx2, hf2⟩
        have hcv1 := Pg.conv_RdB hr2
        have hcv2 := hcvb.out w2 (Ext.trans hb hx2)
        have hs1 : Pg.strB B = strB B := rfl
        have hs2 : Pg.strB l = strB l := rfl
        rw [hs1] at hcv1
        rw [hs2] at hcv2
        clear hs1 hs2 hr2 hf2
        generalize strB B = Z at *
        generalize strB l = Z2 at *
        replace hx2 := hid (Ext.trans hb hx2)
        go_wp2
        go_ret2
        exact GiveSsE.no hx2.out
    have hR00 := hR0
    clear hR0
    by_cases h1 : n < k + 2
    · have d1 : decide ((n : Int) < (k : Int) + 2) = true := by simp; omega
      obtain rfl : R = none := by
        obtain ⟨x, hx⟩ : ∃ x, l.drop k = [x] := List.length_eq_one_iff.1 (by rw [List.length_drop]; omega)
        rw [← hR.out, hx, pa_one]
      have hR0n : Hid (R0 = none) := hR00.out
      obtain rfl : R0 = none := hR0n.out
      clear h1 hR
      go_wp2
      go_ret2
      exact GiveSsE.no hb
    have d1 : decide ((n : Int) < (k : Int) + 2) = false := by simp; omega
    obtain ⟨ad, rfl, x0⟩ := RdB_at hl.out (k := k) h0
    have x1 := RdB_cells hl.out (k := k + 1) (by omega)
    have hdl : (l.drop k).length = n - k := by rw [List.length_drop]; omega
    obtain ⟨f', rfl, hst⟩ := pa_step (f := f) (acc := acc) (bf := bf.toList) (rest := l.drop k) (by omega) (by rw [hdl]; exact hfu.out)
    rw [hst, hdl, getD_drop, getD_drop, Nat.add_zero, List.drop_drop, List.drop_drop] at hR
    clear hst hdl
    have b0 := (l.getD k 0).toNat_lt
    have b1 := (l.getD (k + 1) 0).toNat_lt
    have hmid := hid (fun h => RdB_mid (lo := k + 2) (hi := k + 2 + (l.getD (k + 1) 0).toNat) hl.out (by omega) h)
    have y0 := Ext.cell hb x0
    have y1 := cell_1 (Ext.cell hb x1) (by omega)
    clear x0 x1
    generalize l.getD k 0 = q0 at *
    generalize l.getD (k + 1) 0 = q1 at *
    generalize hb0_ : q0.toNat = B0 at *
    generalize hb1_ : q1.toNat = B1 at *
    clear hb0_ hb1_
    rw [len_toList] at hR
    have ni0 : k < n := h0
    have ni1 : (k : Int) < (n : Int) := by omega
    have ni2 : (k : Int) + 1 < (n : Int) := by omega
    have ni3 : k + 1 < n := by omega
    by_cases g0 : bf.size < B0
    · have d2 : decide ((bf.size : Int) < (B0 : Int)) = true := by simp; omega
      have d2n : decide (bf.size < B0) = true := by simp; omega
      obtain rfl : R = none := by rw [← hR.out, if_pos (Or.inl g0)]
      have hR0n : Hid (R0 = none) := hR00.out
      obtain rfl : R0 = none := hR0n.out
      clear g0 hR
      go_wp2
      go_ret2
      exact GiveSsE.no hb
    have d2 : decide ((bf.size : Int) < (B0 : Int)) = false := by simp; omega
    have d2n : decide (bf.size < B0) = false := by simp; omega
    by_cases g1 : n - k - 2 < B1
    · have d3 : decide ((n : Int) < (k : Int) + 2 + (B1 : Int)) = true := by simp; omega
      obtain rfl : R = none := by rw [← hR.out, if_pos (Or.inr g1)]
      have hR0n : Hid (R0 = none) := hR00.out
      obtain rfl : R0 = none := hR0n.out
      clear g0 g1 hR
      go_wp2
      go_ret2
      exact GiveSsE.no hb
    have d3 : decide ((n : Int) < (k : Int) + 2 + (B1 : Int)) = false := by simp; omega
    rw [if_neg (by omega)] at hR
    have s1 : ∀ wx, (Instr.slice 9 (.string bf) none (some (.int .u8 (B0 : Nat))) none).run Tryd.prog wx = .ok (.string (bf.extract 0 B0)) wx := by
      intro wx
      rw [run_slice_string_to_if (P := Tryd.prog) wx 9 bf .u8 (B0 : Int) Tryd.underlying9, if_pos ⟨by omega, by omega⟩]
      rfl
    have s2 : ∀ wx, (Instr.slice 49 (.slice (some ad) n c) (some (.int .i64 ((k : Int) + 2))) (some (.int .i64 ((k : Int) + 2 + (B1 : Int)))) none).run Tryd.prog wx = .ok (.slice (cutA (some ad) c (k + 2)) B1 (c - (k + 2))) wx := by
      intro wx
      have := sl_bytes (some ad) n c (k + 2) (k + 2 + B1) (by omega) (by omega) wx
      rw [show k + 2 + B1 - (k + 2) = B1 by omega, show (((k + 2 + B1 : Nat)) : Int) = (k : Int) + 2 + (B1 : Int) by omega, show (((k + 2 : Nat)) : Int) = (k : Int) + 2 by omega] at this
      exact this
    have hmid2 := hmid.out (by omega)
    rw [show k + 2 + B1 - (k + 2) = B1 by omega] at hmid2
    have hcv : ∀ j, (convert 49 9 (.slice (cutA (some ad) c (k + 2)) B1 (c - (k + 2)))).run Tryd.prog (wr.drewN j) = .ok (.string (strB ((l.drop (k + 2)).take B1))) (wr.drewN j) := fun j => Pg.conv_RdB (Pg.RdB.ext (Pg.RdB.ext hmid2 hb) (Ext.drewN _ j))
    have hxl : ((l.drop (k + 2)).take B1).length = B1 := Pg.RdB.len hmid2
    clear hmid hmid2
    generalize (l.drop (k + 2)).take B1 = X at *
    generalize cutA (some ad) c (k + 2) = A3 at *
    have hez := ext0_size bf (k := B0) (by omega)
    have ad1 := str_add (bf.extract 0 B0) (strB X) (by rw [hez, strB_size]; omega)
    have hk_ : bf.extract 0 B0 ++ strB X = strB (bf.toList.take B0 ++ X) := by rw [ext0, strB_add]
    have hkl : (bf.toList.take B0 ++ X).length = B0 + B1 := by rw [List.length_append, List.length_take, len_toList, hxl]; omega
    rw [hk_] at ad1
    clear hk_ hez hxl
    generalize hKK : bf.toList.take B0 ++ X = KL at *
    have hks : (strB KL).size = B0 + B1 := by rw [strB_size, hkl]
    clear hKK
    generalize bf.extract 0 B0 = Y0 at *
    generalize strB X = Y1 at *
    have hkL : (strB KL).toList = KL := strB_toList KL
    generalize strB KL = K at *
    have hks1 : K.size ≤ 510 := by omega
    clear hks hkl
    have hR3 : Hid (paA f' (acc ++ [K]) K.toList (l.drop (k + 2 + B1)) = R) := by unfold Hid; rw [hkL, show k + 2 + B1 = k + (2 + B1) by omega]; exact hR.out
    have hfu2 : Hid (n - (k + 2 + B1) ≤ f') := by unfold Hid; have := hfu.out; omega
    have hal2 : Hid ((acc ++ [K]).length = m + 1) := by unfold Hid; rw [List.length_append, hal.out]; rfl
    have hb1 := hid (strs_snoc acc K)
    have hsz2 : Hid (∀ j, j < m + 1 → (Pg.sth (acc ++ [K]) j).size ≤ 510) := by
      intro j hj
      unfold Pg.sth
      by_cases e : j < m
      · have := hsz.out j e
        unfold Pg.sth at this
        rwa [List.getD_eq_getElem?_getD, List.getElem?_append_left (by rw [hal.out]; exact e), ← List.getD_eq_getElem?_getD]
      · obtain rfl : j = m := by omega
        rw [List.getD_eq_getElem?_getD, List.getElem?_append_right (by rw [hal.out]; omega), hal.out, Nat.sub_self]
        exact hks1
    clear hR hkL hal hsz hfu
    go_upto_region 8 with fail
    go_quiet (fail)
    generalize hw7 : wr.drewN _ = w7
    have hx7 : Ext wr w7 := by rw [← hw7]; exact Ext.drewN _ _
    clear hw7
    replace hown := Ext.own hx7 hown
    replace hb : Below w.heap.size w w7 := Ext.trans hb hx7
    clear hx7 hbs y0 y1 hcv
    have hbs := hb.size
    go_upto_region 9 with fail
    go_wp2_with (at_builtin; refine wpList_push _ rfl _ _ 48 rfl w.heap.size 9 i0 _ 1 16 Tryd.underlying48 hi hz0 hz1 hz2 rfl (by decide) _ _ _ rfl hown [.string K] rfl rfl (by simp [Value.oneCell']) (by unfold maxLen; omega) (by omega) hbs ?_)
    intro g cap wp ownp grp _
    rw [← hb1.out] at ownp
    have bel := below_push hb hown grp hbs
    clear grp hown hb
    go_wp2_with fail
    go_roundw
    case rel => exact ⟨k + 2 + B1, m + 1, f', K, _, by go_num, by omega, rfl, hks1, by omega, ownp, bel, hal2, hsz2, hfu2, hR3⟩
    case measure => simp [intOf]; omega
end Go.Proofs.YtlfanhlkoepodaaDoor
