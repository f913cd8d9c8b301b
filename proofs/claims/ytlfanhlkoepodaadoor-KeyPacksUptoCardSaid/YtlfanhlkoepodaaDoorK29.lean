/-
  The keys of bytes: the program.
-/
import Derived.Test.YtlfanhlkoepodaaDoorK28
import Derived.Laws.Slices
namespace Go.Proofs.YtlfanhlkoepodaaDoor
open Go.RowKit
set_option linter.unusedVariables false
set_option linter.unusedSimpArgs false
/-- The address of a slice that is cut. -/
def cutA (A : Option Addr) (c k : Nat) : Option Addr := if c = k then A else A.map (·.add k)
set_option maxRecDepth 1000000 in
theorem sl_bytes (A : Option Addr) (n c lo hi : Nat) (h1 : lo ≤ hi) (h2 : hi ≤ c) (wx : World) : (Instr.slice 49 (.slice A n c) (some (.int .i64 (lo : Nat))) (some (.int .i64 (hi : Nat))) none).run Tryd.prog wx = .ok (.slice (cutA A c lo) (hi - lo) (c - lo)) wx := by
  rw [run_slice_lh (P := Tryd.prog) wx 49 A n c Tryd.underlying49 .i64 .i64 (lo : Nat) (hi : Nat) (by omega) (by omega) (by omega)]
  rw [show Tryd.prog.elem 49 = 5 by kernel_rfl, Tryd.sizeOf5]
  simp [sliced, cutA, Result.andThen]
set_option maxRecDepth 1000000 in
theorem sl_from (A : Option Addr) (n c lo : Nat) (h1 : lo ≤ n) (wx : World) : (Instr.slice 49 (.slice A n c) (some (.int .i64 (lo : Nat))) none none).run Tryd.prog wx = .ok (.slice (cutA A c lo) (n - lo) (c - lo)) wx := by
  rw [run_slice_l (P := Tryd.prog) wx 49 A n c Tryd.underlying49 .i64 (lo : Nat) (by omega) (by omega)]
  rw [show Tryd.prog.elem 49 = 5 by kernel_rfl, Tryd.sizeOf5]
  simp [sliced, cutA, Result.andThen]
theorem bytesC_drop (l : List UInt8) (k : Nat) : (Pg.bytesC l).drop k = Pg.bytesC (l.drop k) := by simp [Pg.bytesC]
theorem bytesC_take (l : List UInt8) (k : Nat) : (Pg.bytesC l).take k = Pg.bytesC (l.take k) := by simp [Pg.bytesC]
theorem RdB_from {w : World} {A : Option Addr} {n c : Nat} {l : List UInt8} (h : Pg.RdB w A n c l) {k : Nat} (hk : k ≤ n) : Pg.RdB w (cutA A c k) (n - k) (c - k) (l.drop k) := by
  have := Rd.cut h hk
  rw [Nat.mul_one, bytesC_drop] at this
  exact this
theorem RdB_short {w : World} {A : Option Addr} {n c : Nat} {l : List UInt8} (h : Pg.RdB w A n c l) {m : Nat} (hm : m ≤ n) : Pg.RdB w A m c (l.take m) := by
  have hl := Pg.RdB.len h
  obtain ⟨h1, h2, h3, h4⟩ := h
  refine ⟨by simp [Pg.bytesC]; omega, by omega, h3, fun h0 => ?_⟩
  obtain ⟨ad, e, hc⟩ := h4 (by omega)
  refine ⟨ad, e, fun j u hu => hc j u ?_⟩
  rw [← bytesC_take] at hu
  rw [List.getElem?_take] at hu
  split at hu
  · exact hu
  · cases hu
theorem RdB_mid {w : World} {A : Option Addr} {n c : Nat} {l : List UInt8} (h : Pg.RdB w A n c l) {lo hi : Nat} (h1 : lo ≤ hi) (h2 : hi ≤ n) : Pg.RdB w (cutA A c lo) (hi - lo) (c - lo) ((l.drop lo).take (hi - lo)) := RdB_short (RdB_from h (by omega)) (by omega)
theorem RdB_at {w : World} {A : Option Addr} {n c : Nat} {l : List UInt8} (h : Pg.RdB w A n c l) {k : Nat} (hk : k < n) : ∃ ad, A = some ad ∧ w.cell? (ad.add k) = some (.int .u8 ((l.getD k 0).toNat : Int)) := by
  have hl := Pg.RdB.len h
  obtain ⟨ad, hA, hc⟩ := h.2.2.2 (by omega)
  exact ⟨ad, hA, hc k _ (by simp [Pg.bytesC, Pg.byt, List.getD, hl, hk])⟩
theorem cell_1 {w : World} {p : Addr} {j : Nat} {v : Value} (h : w.cell? (p.add j) = some v) (hj : j ≠ 0) : w.cell? ⟨p.block, p.off + j, none⟩ = some v := by
  unfold Addr.add at h
  rw [if_neg hj] at h
  exact h
theorem strs_snoc (l : List ByteArray) (s : ByteArray) : Pg.strs (l ++ [s]) = Pg.strs l ++ [.string s] := by simp [Pg.strs]
/-- A list of keys, or an error. -/
def unE (R : Option (List ByteArray)) : Int := if R.isSome then 0 else 11
def GiveSsE (R : Option (List ByteArray)) (w : World) (e : Ending) (w' : World) : Prop := ∃ A n c, e = .returned (.tuple #[.slice A n c, .int .i64 (unE R)]) ∧ Pg.RdS w' A n c (R.getD []) ∧ Ext w w'
theorem GiveSsE.no {w w' : World} (h : Ext w w') : GiveSsE none w (.returned (.tuple #[.slice none 0 0, .int .i64 11])) w' := ⟨_, _, _, rfl, Rd.none_ w' 1, h⟩
theorem GiveSsE.yes {w w' : World} {A : Option Addr} {n c : Nat} {l : List ByteArray} (h : Pg.RdS w' A n c l) (hx : Ext w w') : GiveSsE (some l) w (.returned (.tuple #[.slice A n c, .int .i64 0])) w' := ⟨_, _, _, rfl, h, hx⟩
theorem bad_no {bf k : List UInt8} {b0 : Nat} {f : Bool} (h1 : Op.bytesLess k bf = false) (h2 : ¬ 100 < k.length) (h3 : cmnL bf k = b0) (h4 : f = false) : badK bf k b0 f = false := by unfold badK; rw [h1, decide_eq_false h2, h4]; simp [h3]
theorem two_of {l : List UInt8} (h : 2 ≤ l.length) : l = l.getD 0 0 :: l.getD 1 0 :: l.drop 2 := by
  match l, h with
  | a :: b :: r, _ => rfl
theorem un_step {f : Nat} {acc : List ByteArray} {bf rest : List UInt8} (h : 2 ≤ rest.length) (hf : rest.length ≤ f) : ∃ f', f = f' + 1 ∧ unA f acc bf rest = if bf.length < (rest.getD 0 0).toNat ∨ rest.length - 2 < (rest.getD 1 0).toNat then none
    else if badK bf (bf.take (rest.getD 0 0).toNat ++ (rest.drop 2).take (rest.getD 1 0).toNat) (rest.getD 0 0).toNat (decide (acc.length = 300)) then none
    else unA f' (acc ++ [strB (bf.take (rest.getD 0 0).toNat ++ (rest.drop 2).take (rest.getD 1 0).toNat)]) (bf.take (rest.getD 0 0).toNat ++ (rest.drop 2).take (rest.getD 1 0).toNat) (rest.drop (2 + (rest.getD 1 0).toNat)) := by
  obtain ⟨f', rfl⟩ : ∃ f', f = f' + 1 := ⟨f - 1, by omega⟩
  refine ⟨f', rfl, ?_⟩
  have e := two_of h
  have hd : rest.drop (2 + (rest.getD 1 0).toNat) = (rest.drop 2).drop (rest.getD 1 0).toNat := by rw [List.drop_drop]
  have hl : rest.length - 2 = (rest.drop 2).length := by rw [List.length_drop]
  rw [hd, hl]
  generalize rest.getD 0 0 = a at *
  generalize rest.getD 1 0 = b at *
  generalize rest.drop 2 = r at *
  subst e
  exact un_two _ _ _ _ _ _
theorem pa_step {f : Nat} {acc : List ByteArray} {bf rest : List UInt8} (h : 2 ≤ rest.length) (hf : rest.length ≤ f) : ∃ f', f = f' + 1 ∧ paA f acc bf rest = if bf.length < (rest.getD 0 0).toNat ∨ rest.length - 2 < (rest.getD 1 0).toNat then none
    else paA f' (acc ++ [strB (bf.take (rest.getD 0 0).toNat ++ (rest.drop 2).take (rest.getD 1 0).toNat)]) (bf.take (rest.getD 0 0).toNat ++ (rest.drop 2).take (rest.getD 1 0).toNat) (rest.drop (2 + (rest.getD 1 0).toNat)) := by
  obtain ⟨f', rfl⟩ : ∃ f', f = f' + 1 := ⟨f - 1, by omega⟩
  refine ⟨f', rfl, ?_⟩
  have e := two_of h
  have hd : rest.drop (2 + (rest.getD 1 0).toNat) = (rest.drop 2).drop (rest.getD 1 0).toNat := by rw [List.drop_drop]
  have hl : rest.length - 2 = (rest.drop 2).length := by rw [List.length_drop]
  rw [hd, hl]
  generalize rest.getD 0 0 = a at *
  generalize rest.getD 1 0 = b at *
  generalize rest.drop 2 = r at *
  subst e
  exact pa_two _ _ _ _ _ _
set_option maxRecDepth 100000 in
set_option maxHeartbeats 20000000 in
theorem Unpack_any (A : Option Addr) (n c : Nat) (l : List UInt8) (w : World) (hl : Pg.RdB w A n c l) : Calls Tryd.prog 35 #[.slice A n c] w (GiveSsE (unA l.length [] [] l) w) := by
  have info9 : (Tryd.prog.info? 9).map (fun i => (i.zero, i.size, i.bytes)) = some (some (.string ByteArray.empty), 1, 16) := by kernel_rfl
  obtain ⟨i0, hi, hz0, hz1, hz2⟩ := info_parts info9
  clear info9
  have cc := hid (fun a b hs ht w => common_q a b hs ht w)
  generalize hRR : unA l.length [] [] l = R
  replace hRR := hid hRR
  have hln := hid (Pg.RdB.len hl)
  have hmx0 := Rd.max hl
  replace hl := hid hl
  go_enter Tryd.func35, Tryd.ntmps35
  go_wp2_with fail
  go_loopw [0, 4, 5] (fun bs v s wr => ∃ (A1 : Option Addr) (n1 c1 m f : Nat) (bf : ByteArray) (rest : List UInt8) (acc : List ByteArray), bs = .slice A1 n1 c1 ∧ Hid (Pg.RdB w A1 n1 c1 rest) ∧ n1 ≤ n ∧ s = .string bf ∧ bf.size ≤ 510 ∧ m ≤ 300 ∧ wr.ownsRow w.heap.size 9 1 v m (Pg.strs acc) ∧ Below w.heap.size w wr ∧ Hid (acc.length = m) ∧ Hid (rest.length ≤ f) ∧ Hid (unA f acc bf.toList rest = R)) (fun bs _ _ _ => lenOf bs)
  case atStart => exact ⟨A, n, c, 0, _, { data := #[] }, l, [], rfl, hl, by omega, rfl, by decide, by omega, World.ownsRow_nil _ _ _ _, Below.refl _ _, rfl, Nat.le_refl _, by rw [show ByteArray.toList { data := #[] } = [] from emp_list]; exact hRR⟩
  clear hRR
  case round =>
    obtain ⟨A1, n1, c1, m, f, bf, rest, acc, rfl, hrd, hn1, rfl, hbf, hm, hown, hb, hal, hfu, hR⟩ := hrel
    have hbs := hb.size
    have hmx := Rd.max hrd.out
    obtain ⟨hmx1, hmx2, hmx3⟩ := hmx
    obtain ⟨A0, c0, rfl, hc0⟩ := own_form hown
    have hrl := Pg.RdB.len hrd.out
    have hrl2 := hid hrl
    by_cases h0 : n1 = 0
    · obtain rfl : R = some acc := by rw [← hR.out, List.eq_nil_of_length_eq_zero (l := rest) (by rw [hrl]; exact h0), un_nil]
      have d0 : decide (0 < n1) = false := by simp; omega
      clear h0 hR hrl
      have hrd2 := hid (show Pg.RdS wr A0 m c0 acc from Rd.of_own hown)
      go_wp2
      go_ret2
      exact GiveSsE.yes hrd2.out hb
    have d0 : decide (0 < n1) = true := by simp; omega
    by_cases h1 : n1 < 2
    · have d1 : decide ((n1 : Int) < 2) = true := by simp; omega
      obtain rfl : R = none := by
        obtain ⟨x, rfl⟩ : ∃ x, rest = [x] := List.length_eq_one_iff.1 (by omega)
        rw [← hR.out, un_one]
      clear h0 h1 hR hrl
      go_wp2
      go_ret2
      exact GiveSsE.no hb
    have d1 : decide ((n1 : Int) < 2) = false := by simp; omega
    have ni0 : 0 < n1 := by omega
    have ni1 : (0 : Int) < (n1 : Int) := by omega
    have ni2 : (1 : Int) < (n1 : Int) := by omega
    have ni3 : 1 < n1 := by omega
    obtain ⟨ad, rfl, x0⟩ := RdB_at hrd.out (k := 0) (by omega)
    obtain ⟨ad2, e2, x1⟩ := RdB_at hrd.out (k := 1) (by omega)
    obtain rfl := Option.some.inj e2
    clear e2
    obtain ⟨f', rfl, hst⟩ := un_step (f := f) (acc := acc) (bf := bf.toList) (rest := rest) (by rw [hrl]; omega) hfu.out
    rw [hst] at hR
    clear hst
    have b0 := (rest.getD 0 0).toNat_lt
    have b1 := (rest.getD 1 0).toNat_lt
    have hmid := hid (fun h => RdB_mid (lo := 2) (hi := 2 + (rest.getD 1 0).toNat) hrd.out (by omega) h)
    have hfrom := hid (fun h => RdB_from (k := 2 + (rest.getD 1 0).toNat) hrd.out h)
    have hmr : Hid (∀ k, (rest.drop k).length = rest.length - k) := fun k => List.length_drop
    rw [hrl] at hR hfu
    have y0 := Ext.cell hb x0
    have y1 := cell_1 (Ext.cell hb x1) (by decide)
    rw [show ad.add 0 = ad by unfold Addr.add; simp] at y0
    clear x0 x1
    generalize rest.getD 0 0 = q0 at *
    generalize rest.getD 1 0 = q1 at *
    generalize hb0_ : q0.toNat = B0 at *
    generalize hb1_ : q1.toNat = B1 at *
    clear hb0_ hb1_
    rw [len_toList] at hR
    replace hfu : Hid (n1 ≤ f' + 1) := hfu
    by_cases g0 : bf.size < B0
    · have d2 : decide ((bf.size : Int) < (B0 : Int)) = true := by simp; omega
      have d2n : decide (bf.size < B0) = true := by simp; omega
      obtain rfl : R = none := by rw [← hR.out, if_pos (Or.inl g0)]
      clear g0 hR hrl
      go_wp2
      go_ret2
      exact GiveSsE.no hb
    have d2 : decide ((bf.size : Int) < (B0 : Int)) = false := by simp; omega
    have d2n : decide (bf.size < B0) = false := by simp; omega
    by_cases g1 : n1 - 2 < B1
    · have d3 : decide ((n1 : Int) < 2 + (B1 : Int)) = true := by simp; omega
      obtain rfl : R = none := by rw [← hR.out, if_pos (Or.inr g1)]
      clear g0 g1 hR hrl
      go_wp2
      go_ret2
      exact GiveSsE.no hb
    have d3 : decide ((n1 : Int) < 2 + (B1 : Int)) = false := by simp; omega
    rw [if_neg (by omega)] at hR
    have s1 : ∀ wx, (Instr.slice 9 (.string bf) none (some (.int .u8 (B0 : Nat))) none).run Tryd.prog wx = .ok (.string (bf.extract 0 B0)) wx := by
      intro wx
      rw [run_slice_string_to_if (P := Tryd.prog) wx 9 bf .u8 (B0 : Int) Tryd.underlying9, if_pos ⟨by omega, by omega⟩]
      rfl
    have s2 : ∀ wx, (Instr.slice 49 (.slice (some ad) n1 c1) (some (.int .i64 2)) (some (.int .i64 (2 + (B1 : Int)))) none).run Tryd.prog wx = .ok (.slice (cutA (some ad) c1 2) B1 (c1 - 2)) wx := by
      intro wx
      have := sl_bytes (some ad) n1 c1 2 (2 + B1) (by omega) (by omega) wx
      rw [show 2 + B1 - 2 = B1 by omega, show (((2 + B1 : Nat)) : Int) = 2 + (B1 : Int) by omega] at this
      exact this
    have s3 : ∀ wx, (Instr.slice 49 (.slice (some ad) n1 c1) (some (.int .i64 (2 + (B1 : Int)))) none none).run Tryd.prog wx = .ok (.slice (cutA (some ad) c1 (2 + B1)) (n1 - (2 + B1)) (c1 - (2 + B1))) wx := by
      intro wx
      have := sl_from (some ad) n1 c1 (2 + B1) (by omega) wx
      rw [show (((2 + B1 : Nat)) : Int) = 2 + (B1 : Int) by omega] at this
      exact this
    have hmid2 := hmid.out (by omega)
    rw [show 2 + B1 - 2 = B1 by omega] at hmid2
    have hfrom2 := hid (hfrom.out (by omega))
    have hcv : ∀ k, (convert 49 9 (.slice (cutA (some ad) c1 2) B1 (c1 - 2))).run Tryd.prog (wr.drewN k) = .ok (.string (strB ((rest.drop 2).take B1))) (wr.drewN k) := fun k => Pg.conv_RdB (Pg.RdB.ext (Pg.RdB.ext hmid2 hb) (Ext.drewN _ k))
    have hmr2 := hid (hmr.out (2 + B1))
    have hxl : ((rest.drop 2).take B1).length = B1 := Pg.RdB.len hmid2
    clear hmid hfrom hmid2 hmr
    generalize (rest.drop 2).take B1 = X at *
    generalize rest.drop (2 + B1) = rest2 at *
    generalize cutA (some ad) c1 2 = A3 at *
    generalize cutA (some ad) c1 (2 + B1) = A4 at *
    have hez := ext0_size bf (k := B0) (by omega)
    have ad1 := str_add (bf.extract 0 B0) (strB X) (by rw [hez, strB_size]; omega)
    have hk : bf.extract 0 B0 ++ strB X = strB (bf.toList.take B0 ++ X) := by rw [ext0, strB_add]
    have hkl : (bf.toList.take B0 ++ X).length = B0 + B1 := by rw [List.length_append, List.length_take, len_toList, hxl]; omega
    rw [hk] at ad1
    clear hk hez hxl
    generalize hKK : bf.toList.take B0 ++ X = KL at *
    have hks : (strB KL).size = B0 + B1 := by rw [strB_size, hkl]
    clear hKK
    generalize bf.extract 0 B0 = Y0 at *
    generalize strB X = Y1 at *
    have cq := hid (fun w => cc.out bf (strB KL) (by omega) (by omega) w)
    rw [strB_toList] at cq
    have hbl0 := hid (Eq.refl (Op.bytesLess KL bf.toList))
    have hkL : (strB KL).toList = KL := strB_toList KL
    generalize strB KL = K at *
    have hks1 : K.size ≤ B0 + B1 := by omega
    have hks2 : B0 + B1 ≤ K.size := by omega
    clear hks
    have htr := trivial
    clear htr
    rcases Bool.eq_false_or_eq_true (Op.bytesLess KL bf.toList) with ql | ql
    · obtain rfl : R = none := by rw [← hR.out, if_pos (by unfold badK; rw [ql]; rfl)]
      have ql2 : Op.bytesLess K.toList bf.toList = true := by rw [hkL]; exact ql
      clear ql hR hkL hkl hrl
      go_upto_region 7 with fail
      go_quiet (fail)
      go_upto_region 8 with fail
      generalize hw7 : wr.drewN _ = w7
      have hx7 : Ext wr w7 := by rw [← hw7]; exact Ext.drewN _ _
      clear hw7
      have z0 := Ext.cell hx7 y0
      clear y0 y1 hcv
      replace hown := Ext.own hx7 hown
      replace hb : Below w.heap.size w w7 := Ext.trans hb hx7
      clear hx7 hbs
      have hbs := hb.size
      go_quiet ((go_at_call 65; exact quiet_dr (cq.out _)))
      generalize hw8 : w7.drewN _ = w8
      have hx8 : Ext w7 w8 := by rw [← hw8]; exact Ext.drewN _ _
      clear hw8
      go_wp2
      go_ret2
      exact GiveSsE.no (Ext.trans hb hx8)
    have ql2 : Op.bytesLess K.toList bf.toList = false := by rw [hkL]; exact ql
    by_cases g2 : 100 < B0 + B1
    · obtain rfl : R = none := by rw [← hR.out, if_pos (by unfold badK; rw [ql, hkl, decide_eq_true g2]; rfl)]
      have d4 : decide ((100 : Int) < (K.size : Int)) = true := by simp; omega
      clear ql g2 hR hkL hkl hrl
      go_upto_region 7 with fail
      go_quiet (fail)
      go_upto_region 8 with fail
      generalize hw7 : wr.drewN _ = w7
      have hx7 : Ext wr w7 := by rw [← hw7]; exact Ext.drewN _ _
      clear hw7
      have z0 := Ext.cell hx7 y0
      clear y0 y1 hcv
      replace hown := Ext.own hx7 hown
      replace hb : Below w.heap.size w w7 := Ext.trans hb hx7
      clear hx7 hbs
      have hbs := hb.size
      go_quiet ((go_at_call 65; exact quiet_dr (cq.out _)))
      generalize hw8 : w7.drewN _ = w8
      have hx8 : Ext w7 w8 := by rw [← hw8]; exact Ext.drewN _ _
      clear hw8
      go_wp2
      go_ret2
      exact GiveSsE.no (Ext.trans hb hx8)
    have d4 : decide ((100 : Int) < (K.size : Int)) = false := by simp; omega
    by_cases g3 : cmnL bf.toList KL = B0
    rotate_left
    · obtain rfl : R = none := by rw [← hR.out, if_pos (by unfold badK; rw [decide_eq_true g3, Bool.or_true, Bool.true_or])]
      have d5 : ((cmnL bf.toList KL : Int) != (B0 : Int)) = true := by simp; omega
      generalize cmnL bf.toList KL = CM at *
      clear ql g2 g3 hR hkL hkl hrl
      go_upto_region 7 with fail
      go_quiet (fail)
      go_upto_region 8 with fail
      generalize hw7 : wr.drewN _ = w7
      have hx7 : Ext wr w7 := by rw [← hw7]; exact Ext.drewN _ _
      clear hw7
      have z0 := Ext.cell hx7 y0
      clear y0 y1 hcv
      replace hown := Ext.own hx7 hown
      replace hb : Below w.heap.size w w7 := Ext.trans hb hx7
      clear hx7 hbs
      have hbs := hb.size
      go_quiet ((go_at_call 65; exact quiet_dr (cq.out _)))
      generalize hw8 : w7.drewN _ = w8
      have hx8 : Ext w7 w8 := by rw [← hw8]; exact Ext.drewN _ _
      clear hw8
      go_wp2
      go_ret2
      exact GiveSsE.no (Ext.trans hb hx8)
    have d5 : ((cmnL bf.toList KL : Int) != (B0 : Int)) = false := by simp; omega
    by_cases g4 : m = 300
    · obtain rfl : R = none := by rw [← hR.out, if_pos (by unfold badK; rw [hal.out, decide_eq_true g4, Bool.or_true])]
      have d6 : ((m : Int) == 300) = true := by simp; omega
      generalize cmnL bf.toList KL = CM at *
      clear ql g2 g3 g4 hR hkL hkl hrl
      go_upto_region 7 with fail
      go_quiet (fail)
      go_upto_region 8 with fail
      generalize hw7 : wr.drewN _ = w7
      have hx7 : Ext wr w7 := by rw [← hw7]; exact Ext.drewN _ _
      clear hw7
      have z0 := Ext.cell hx7 y0
      clear y0 y1 hcv
      replace hown := Ext.own hx7 hown
      replace hb : Below w.heap.size w w7 := Ext.trans hb hx7
      clear hx7 hbs
      have hbs := hb.size
      go_quiet ((go_at_call 65; exact quiet_dr (cq.out _)))
      generalize hw8 : w7.drewN _ = w8
      have hx8 : Ext w7 w8 := by rw [← hw8]; exact Ext.drewN _ _
      clear hw8
      go_wp2
      go_ret2
      exact GiveSsE.no (Ext.trans hb hx8)
    have d6 : ((m : Int) == 300) = false := by simp; omega
    have hbn := bad_no ql (by omega) g3 (f := decide (acc.length = 300)) (by rw [hal.out]; exact decide_eq_false g4)
    rw [if_neg (by rw [hbn]; simp)] at hR
    generalize cmnL bf.toList KL = CM at *
    clear ql g2 g3 hbn hrl
    have hK5 : K.size ≤ 510 := by omega
    have hR3 : Hid (unA f' (acc ++ [K]) K.toList rest2 = R) := by unfold Hid; rw [hkL, ← hR.out]
    have hfu2 : Hid (rest2.length ≤ f') := by unfold Hid; rw [hmr2.out, hrl2.out]; have := hfu.out; omega
    have hal2 : Hid ((acc ++ [K]).length = m + 1) := by unfold Hid; rw [List.length_append, hal.out]; rfl
    have hb1 := hid (strs_snoc acc K)
    clear hR hkL hkl hal hmr2 hrl2 hbl0
    go_upto_region 7 with fail
    go_quiet (fail)
    go_upto_region 8 with fail
    generalize hw7 : wr.drewN _ = w7
    have hx7 : Ext wr w7 := by rw [← hw7]; exact Ext.drewN _ _
    clear hw7
    have z0 := Ext.cell hx7 y0
    clear y0 y1 hcv
    replace hown := Ext.own hx7 hown
    replace hb : Below w.heap.size w w7 := Ext.trans hb hx7
    clear hx7 hbs
    have hbs := hb.size
    go_quiet ((go_at_call 65; exact quiet_dr (cq.out _)))
    generalize hw8 : w7.drewN _ = w8
    have hx8 : Ext w7 w8 := by rw [← hw8]; exact Ext.drewN _ _
    clear hw8
    replace hown := Ext.own hx8 hown
    replace hb : Below w.heap.size w w8 := Ext.trans hb hx8
    clear hx8 hbs
    have hbs := hb.size
    go_upto_region 10 with fail
    go_wp2_with (at_builtin; refine wpList_push _ rfl _ _ 48 rfl w.heap.size 9 i0 _ 1 16 Tryd.underlying48 hi hz0 hz1 hz2 rfl (by decide) _ _ _ rfl hown [.string K] rfl rfl (by simp [Value.oneCell']) (by unfold maxLen; omega) (by omega) hbs ?_)
    intro g cap wp ownp grp _
    rw [← hb1.out] at ownp
    have bel := below_push hb hown grp hbs
    clear grp hown hb z0
    go_wp2_with fail
    go_roundw
    case rel => exact ⟨A4, n1 - (2 + B1), c1 - (2 + B1), m + 1, f', K, rest2, _, rfl, hfrom2, by omega, rfl, hK5, by omega, ownp, bel, hal2, hfu2, hR3⟩
    case measure => simp [lenOf]; omega
end Go.Proofs.YtlfanhlkoepodaaDoor
