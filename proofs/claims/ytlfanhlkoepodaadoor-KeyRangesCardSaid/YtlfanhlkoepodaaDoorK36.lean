/-
  Between which keys the values are for which a comparison holds: the bounds of ascending keys.
-/
import Derived.Test.YtlfanhlkoepodaaDoorK35
import Derived.Test.YtlfanhlkoepodaaDoorK3
namespace Go.Proofs.YtlfanhlkoepodaaDoor
open Go.RowKit
set_option linter.unusedVariables false
set_option linter.unusedSimpArgs false
attribute [local go_sem] Pg.conv_new
/-- The six operators. -/
def opB : Nat → ByteArray
  | 0 => ⟨#[61]⟩ | 1 => ⟨#[61, 61]⟩ | 2 => ⟨#[60]⟩ | 3 => ⟨#[60, 61]⟩ | 4 => ⟨#[62]⟩ | _ => ⟨#[62, 61]⟩
def kiB (k : Int) : ByteArray := strB [byo k.toNat]
def enB (k : Int) : ByteArray := behS (kiB k)
def bnd (o : Nat) (k n : Int) (s : ByteArray) (x : Bool) (p c : Int) : ByteArray × ByteArray :=
  if k = 4 ∧ (c ≠ 0 ∨ 48 ≤ s.size) ∧ 2 ≤ o then
    (if c ≠ 0 then (kiB k, enB k) else if o = 2 ∨ o = 3 then (kiB k, behS (strB (preL s p c))) else (strB (preL s p c), enB k))
  else if o = 0 ∧ k = 4 then (neaL s x p c, neaH s x p c)
  else if o = 0 ∨ o = 1 then (keyB k n s p c, behS (keyB k n s p c))
  else if o = 2 then (kiB k, keyB k n s p c)
  else if o = 3 then (kiB k, behS (keyB k n s p c))
  else if o = 4 then (behS (keyB k n s p c), enB k)
  else (keyB k n s p c, enB k)
theorem behR_4 : ∀ r : List UInt8, behR (r ++ [byo 4]) = some [byo 5] ∨ ∃ t, behR (r ++ [byo 4]) = some (byo 4 :: t)
  | [] => Or.inl (by decide)
  | b :: r => by
    rw [List.cons_append, behR]
    by_cases h : b.toNat = 255
    · rw [if_pos h]
      exact behR_4 r
    · rw [if_neg h]
      exact Or.inr ⟨r.reverse ++ [byo (b.toNat + 1)], by simp⟩
theorem beh_pre (s : ByteArray) (p c : Int) : behL (preL s p c) = some [byo 5] ∨ ∃ t, behL (preL s p c) = some (byo 4 :: t) := by
  unfold behL preL
  rw [List.reverse_cons]
  exact behR_4 _
theorem enB_4 : enB 4 = strB [byo 5] := by
  have h : behL (kiB 4).toList = some [byo 5] := by
    show behL (strB [byo 4]).toList = _
    rw [strB_toList]
    decide
  unfold enB
  exact (beh_s h).1
theorem nx_facts (s : ByteArray) (p c : Int) : (behS (strB (preL s p c))).size ≠ 0 ∧ (Op.bytesLess (behS (strB (preL s p c))).toList (enB 4).toList = true ∨ behS (strB (preL s p c)) = enB 4) := by
  rw [enB_4, strB_toList]
  rcases beh_pre s p c with h | ⟨t, h⟩
  all_goals
    rw [← strB_toList (preL s p c)] at h
    rw [(beh_s h).1, strB_size, strB_toList]
  · exact ⟨by simp, Or.inr rfl⟩
  · refine ⟨by simp, Or.inl ?_⟩
    have h4 : decide (byo 4 < byo 5) = true := by decide
    rw [Op.bytesLess, h4]
    rfl
set_option maxRecDepth 100000 in
set_option maxHeartbeats 20000000 in
theorem bounds_any (o : Nat) (ho : o < 6) (k n : Int) (s : ByteArray) (x : Bool) (p c : Int) (he : valE k n s = 0) (hco : Co p c) (w : World) (hm : ML w) : Calls Tryd.prog 75 #[.string (opB o), vV k n s, .bool x, .int .i64 p, .int .i64 c] w (GiveSS (bnd o k n s x p c).1 (bnd o k n s x p c).2 w) := by
  have hz := val_size he
  have hk : 0 ≤ k ∧ k ≤ 4 := by have := val_kinds he; omega
  have c1 := hid (fun w => Behind_any (kiB k) (by show (strB [byo k.toNat]).size ≤ _; rw [strB_size]; simp) w)
  have c2 := hid (fun w hm => plain_any k n s p c he hco w hm)
  unfold vV at c2
  have c3 := hid (fun w => Behind_any (keyB k n s p c) (by have := keyB_size k n s p c; omega) w)
  have c4 := hid (fun w hm => weights_any s p c hco w hm)
  have ad := hid (pre_add s p c)
  have c5 := hid (fun w => Behind_any (strB (preL s p c)) (by have := preL_len s p c; rw [strB_size]; omega) w)
  have c6 := hid (fun w hm => near_any s x p c (by unfold maxLen; omega) hco w hm)
  have nf := hid (nx_facts s p c)
  clear he hco
  have hcv : Hid (∀ w : World, (convert 49 9 (.slice (some ⟨w.heap.size, 0, none⟩) 1 1)).run Tryd.prog (w.alloc (.cells #[.int .u8 k] 5)) = .ok (.string (kiB k)) (w.alloc (.cells #[.int .u8 k] 5))) := fun w => Pg.conv_one w k (by omega) (by omega)
  have hk4 : Hid (k = 4 → strB [byo 4] = kiB k) := by rintro rfl; rfl
  have eu : IntKind.u8.wrap k = k := Pg.u8_in k (by omega) (by omega)
  generalize hB : bnd o k n s x p c = B
  replace hB := hid hB
  have hB2 := hB.out
  unfold bnd at hB2
  replace hB := hid hB2
  clear hB2
  generalize hop_ : opB o = op
  have hop := hid hop_.symm
  clear hop_
  have hen : Hid (k = 4 → enB k = enB 4) := by rintro rfl; rfl
  unfold enB at hB hen
  rw [show enB 4 = behS (kiB 4) from rfl] at nf
  generalize kiB k = KI at *
  generalize behS KI = EN at *
  generalize behO KI = EO at *
  generalize keyB k n s p c = K at *
  generalize behS K = NX at *
  generalize behO K = NO at *
  generalize strB (preL s p c) = P at *
  generalize behS P = NP at *
  generalize behO P = PO at *
  generalize strB (escL (wt s p c)) = Y at *
  generalize neaL s x p c = NL at *
  generalize neaH s x p c = NH at *
  replace hm := hid hm
  unfold vV
  go_enter Tryd.func75, Tryd.ntmps75
  go_upto_region 1 with fail
  generalize hw_ : w.alloc (.cells #[.int .i64 k, .int .i64 n, .string s] 23) = w1
  have hx1 : Ext (w.alloc (.cells #[.int .i64 k, .int .i64 n, .string s] 23)) w1 := by rw [hw_]; exact Ext.refl _
  clear hw_
  have b0 : w1.cell? ⟨w.heap.size, 0, none⟩ = some (.int .i64 k) := hx1.cell (by go_simp)
  have b1 : w1.cell? ⟨w.heap.size, 1, none⟩ = some (.int .i64 n) := hx1.cell (by go_simp)
  have b2 : w1.cell? ⟨w.heap.size, 2, none⟩ = some (.string s) := hx1.cell (by go_simp)
  have hE := hid (Ext.trans ((Ext.refl w).alloc_right _) hx1)
  have lt := World.block_lt_of_cell? w1 _ b0
  clear hx1
  have hcw := hcv.out w1
  replace hE := hid (hE.out.alloc_right (.cells #[.int .u8 k] 5))
  have a0 := ((Ext.refl w1).alloc_right (.cells #[.int .u8 k] 5)).cell b0
  have a1 := ((Ext.refl w1).alloc_right (.cells #[.int .u8 k] 5)).cell b1
  have a2 := ((Ext.refl w1).alloc_right (.cells #[.int .u8 k] 5)).cell b2
  go_upto_region 2 with fail
  generalize w1.alloc (.cells #[.int .u8 k] 5) = w2 at *
  clear b0 b1 b2 lt hcw hcv eu
  have lt := World.block_lt_of_cell? w2 _ a0
  go_wp2_with fail
  refine (c1.out _).mono ?_
  rintro e w3 ⟨rfl, hx⟩
  replace a0 := hx.cell a0
  replace a1 := hx.cell a1
  replace a2 := hx.cell a2
  replace hE := hid (hE.out.trans hx)
  clear hx lt
  have lt := World.block_lt_of_cell? w3 _ a0
  go_wp2_with fail
  refine (c2.out _ (hm.out.ext hE.out)).mono ?_
  rintro e w4 ⟨rfl, hx⟩
  replace a0 := hx.cell a0
  replace a1 := hx.cell a1
  replace a2 := hx.cell a2
  replace hE := hid (hE.out.trans hx)
  clear hx lt
  have lt := World.block_lt_of_cell? w4 _ a0
  go_wp2_with fail
  refine (c3.out _).mono ?_
  rintro e w5 ⟨rfl, hx⟩
  replace a0 := hx.cell a0
  replace a1 := hx.cell a1
  replace a2 := hx.cell a2
  replace hE := hid (hE.out.trans hx)
  clear hx lt
  have lt := World.block_lt_of_cell? w5 _ a0
  clear c1 c2 c3
  have hkk := hk.1
  have hkl := hk.2
  clear hk
  by_cases h4 : k = 4
  rotate_left
  · have e4 : (k == 4) = false := by simpa using h4
    have hA := h4
    clear h4 hen
    have ho6 : o = 0 ∨ o = 1 ∨ o = 2 ∨ o = 3 ∨ o = 4 ∨ o = 5 := by omega
    clear ho
    rcases ho6 with rfl | rfl | rfl | rfl | rfl | rfl
    · obtain rfl : op = ⟨#[61]⟩ := hop.out
      obtain rfl : B = (K, NX) := by rw [← hB.out]; simp [hA]
      clear hB hop hA
      clear c4 c5 c6 nf ad hk4
      go_wp2
      go_ret2
      exact ⟨rfl, hE.out⟩
    · obtain rfl : op = ⟨#[61, 61]⟩ := hop.out
      obtain rfl : B = (K, NX) := by rw [← hB.out]; simp [hA]
      clear hB hop hA
      clear c4 c5 c6 nf ad hk4
      go_wp2
      go_ret2
      exact ⟨rfl, hE.out⟩
    · obtain rfl : op = ⟨#[60]⟩ := hop.out
      obtain rfl : B = (KI, K) := by rw [← hB.out]; simp [hA]
      clear hB hop hA
      clear c4 c5 c6 nf ad hk4
      go_wp2
      go_ret2
      exact ⟨rfl, hE.out⟩
    · obtain rfl : op = ⟨#[60, 61]⟩ := hop.out
      obtain rfl : B = (KI, NX) := by rw [← hB.out]; simp [hA]
      clear hB hop hA
      clear c4 c5 c6 nf ad hk4
      go_wp2
      go_ret2
      exact ⟨rfl, hE.out⟩
    · obtain rfl : op = ⟨#[62]⟩ := hop.out
      obtain rfl : B = (NX, EN) := by rw [← hB.out]; simp [hA]
      clear hB hop hA
      clear c4 c5 c6 nf ad hk4
      go_wp2
      go_ret2
      exact ⟨rfl, hE.out⟩
    · obtain rfl : op = ⟨#[62, 61]⟩ := hop.out
      obtain rfl : B = (K, EN) := by rw [← hB.out]; simp [hA]
      clear hB hop hA
      clear c4 c5 c6 nf ad hk4
      go_wp2
      go_ret2
      exact ⟨rfl, hE.out⟩
  subst h4
  have hki := hk4.out rfl
  subst hki
  clear hk4 hkk hkl
  have hen := hen.out rfl
  rw [← hen] at nf
  clear hen
  by_cases hc : c = 0
  rotate_left
  · have ec : (c == 0) = false := by simpa using hc
    have ec2 : (c != 0) = true := by simpa using hc
    have hA := hc
    clear hc
    have ho6 : o = 0 ∨ o = 1 ∨ o = 2 ∨ o = 3 ∨ o = 4 ∨ o = 5 := by omega
    clear ho
    rcases ho6 with rfl | rfl | rfl | rfl | rfl | rfl
    · obtain rfl : op = ⟨#[61]⟩ := hop.out
      obtain rfl : B = (NL, NH) := by rw [← hB.out]; simp [hA]
      clear hB hop hA
      clear c4 c5 nf ad
      go_wp2_with fail
      refine (c6.out _ (hm.out.ext hE.out)).mono ?_
      rintro e w6 ⟨rfl, hx⟩
      replace hE := hid (hE.out.trans hx)
      clear hx
      go_wp2
      go_ret2
      exact ⟨rfl, hE.out⟩
    · obtain rfl : op = ⟨#[61, 61]⟩ := hop.out
      obtain rfl : B = (K, NX) := by rw [← hB.out]; simp [hA]
      clear hB hop hA
      clear c4 c5 c6 nf ad
      go_wp2
      go_ret2
      exact ⟨rfl, hE.out⟩
    · obtain rfl : op = ⟨#[60]⟩ := hop.out
      obtain rfl : B = (strB [byo 4], EN) := by rw [← hB.out]; simp [hA]
      clear hB hop hA
      clear c4 c5 c6 nf ad
      go_wp2
      go_ret2
      exact ⟨rfl, hE.out⟩
    · obtain rfl : op = ⟨#[60, 61]⟩ := hop.out
      obtain rfl : B = (strB [byo 4], EN) := by rw [← hB.out]; simp [hA]
      clear hB hop hA
      clear c4 c5 c6 nf ad
      go_wp2
      go_ret2
      exact ⟨rfl, hE.out⟩
    · obtain rfl : op = ⟨#[62]⟩ := hop.out
      obtain rfl : B = (strB [byo 4], EN) := by rw [← hB.out]; simp [hA]
      clear hB hop hA
      clear c4 c5 c6 nf ad
      go_wp2
      go_ret2
      exact ⟨rfl, hE.out⟩
    · obtain rfl : op = ⟨#[62, 61]⟩ := hop.out
      obtain rfl : B = (strB [byo 4], EN) := by rw [← hB.out]; simp [hA]
      clear hB hop hA
      clear c4 c5 c6 nf ad
      go_wp2
      go_ret2
      exact ⟨rfl, hE.out⟩
  subst hc
  by_cases hs : 48 ≤ s.size
  · have es : decide ((48 : Int) ≤ (s.size : Int)) = true := by simp; omega
    have hA := hs
    clear hs
    have ho6 : o = 0 ∨ o = 1 ∨ o = 2 ∨ o = 3 ∨ o = 4 ∨ o = 5 := by omega
    clear ho
    rcases ho6 with rfl | rfl | rfl | rfl | rfl | rfl
    · obtain rfl : op = ⟨#[61]⟩ := hop.out
      obtain rfl : B = (NL, NH) := by rw [← hB.out]; simp [hA]
      clear hB hop hA
      clear c4 c5 nf ad
      go_wp2_with fail
      refine (c6.out _ (hm.out.ext hE.out)).mono ?_
      rintro e w6 ⟨rfl, hx⟩
      replace hE := hid (hE.out.trans hx)
      clear hx
      go_wp2
      go_ret2
      exact ⟨rfl, hE.out⟩
    · obtain rfl : op = ⟨#[61, 61]⟩ := hop.out
      obtain rfl : B = (K, NX) := by rw [← hB.out]; simp [hA]
      clear hB hop hA
      clear c4 c5 c6 nf ad
      go_wp2
      go_ret2
      exact ⟨rfl, hE.out⟩
    · obtain rfl : op = ⟨#[60]⟩ := hop.out
      obtain rfl : B = (strB [byo 4], NP) := by rw [← hB.out]; simp [hA]
      clear hB hop hA
      clear c6
      obtain ⟨n1, n2⟩ := nf.out
      clear nf
      have d1 := (full_facts n1).1
      have adw := ad.out
      clear n1 ad
      rcases n2 with n2 | rfl
      all_goals
        go_wp2_with fail
        refine (c4.out _ (hm.out.ext hE.out)).mono ?_
        rintro e w6 ⟨rfl, hx⟩
        replace hE := hid (hE.out.trans hx)
        clear hx
        go_wp2_with fail
        refine (c5.out _).mono ?_
        rintro e w7 ⟨rfl, hx⟩
        replace hE := hid (hE.out.trans hx)
        clear hx
        go_wp2
        go_ret2
        exact ⟨rfl, hE.out⟩
    · obtain rfl : op = ⟨#[60, 61]⟩ := hop.out
      obtain rfl : B = (strB [byo 4], NP) := by rw [← hB.out]; simp [hA]
      clear hB hop hA
      clear c6
      obtain ⟨n1, n2⟩ := nf.out
      clear nf
      have d1 := (full_facts n1).1
      have adw := ad.out
      clear n1 ad
      rcases n2 with n2 | rfl
      all_goals
        go_wp2_with fail
        refine (c4.out _ (hm.out.ext hE.out)).mono ?_
        rintro e w6 ⟨rfl, hx⟩
        replace hE := hid (hE.out.trans hx)
        clear hx
        go_wp2_with fail
        refine (c5.out _).mono ?_
        rintro e w7 ⟨rfl, hx⟩
        replace hE := hid (hE.out.trans hx)
        clear hx
        go_wp2
        go_ret2
        exact ⟨rfl, hE.out⟩
    · obtain rfl : op = ⟨#[62]⟩ := hop.out
      obtain rfl : B = (P, EN) := by rw [← hB.out]; simp [hA]
      clear hB hop hA
      clear c6
      obtain ⟨n1, n2⟩ := nf.out
      clear nf
      have d1 := (full_facts n1).1
      have adw := ad.out
      clear n1 ad
      rcases n2 with n2 | rfl
      all_goals
        go_wp2_with fail
        refine (c4.out _ (hm.out.ext hE.out)).mono ?_
        rintro e w6 ⟨rfl, hx⟩
        replace hE := hid (hE.out.trans hx)
        clear hx
        go_wp2_with fail
        refine (c5.out _).mono ?_
        rintro e w7 ⟨rfl, hx⟩
        replace hE := hid (hE.out.trans hx)
        clear hx
        go_wp2
        go_ret2
        exact ⟨rfl, hE.out⟩
    · obtain rfl : op = ⟨#[62, 61]⟩ := hop.out
      obtain rfl : B = (P, EN) := by rw [← hB.out]; simp [hA]
      clear hB hop hA
      clear c6
      obtain ⟨n1, n2⟩ := nf.out
      clear nf
      have d1 := (full_facts n1).1
      have adw := ad.out
      clear n1 ad
      rcases n2 with n2 | rfl
      all_goals
        go_wp2_with fail
        refine (c4.out _ (hm.out.ext hE.out)).mono ?_
        rintro e w6 ⟨rfl, hx⟩
        replace hE := hid (hE.out.trans hx)
        clear hx
        go_wp2_with fail
        refine (c5.out _).mono ?_
        rintro e w7 ⟨rfl, hx⟩
        replace hE := hid (hE.out.trans hx)
        clear hx
        go_wp2
        go_ret2
        exact ⟨rfl, hE.out⟩
  · have es : decide ((48 : Int) ≤ (s.size : Int)) = false := by simp; omega
    have hA := hs
    clear hs
    have ho6 : o = 0 ∨ o = 1 ∨ o = 2 ∨ o = 3 ∨ o = 4 ∨ o = 5 := by omega
    clear ho
    rcases ho6 with rfl | rfl | rfl | rfl | rfl | rfl
    · obtain rfl : op = ⟨#[61]⟩ := hop.out
      obtain rfl : B = (NL, NH) := by rw [← hB.out]; simp [hA]
      clear hB hop hA
      clear c4 c5 nf ad
      go_wp2_with fail
      refine (c6.out _ (hm.out.ext hE.out)).mono ?_
      rintro e w6 ⟨rfl, hx⟩
      replace hE := hid (hE.out.trans hx)
      clear hx
      go_wp2
      go_ret2
      exact ⟨rfl, hE.out⟩
    · obtain rfl : op = ⟨#[61, 61]⟩ := hop.out
      obtain rfl : B = (K, NX) := by rw [← hB.out]; simp [hA]
      clear hB hop hA
      clear c4 c5 c6 nf ad
      go_wp2
      go_ret2
      exact ⟨rfl, hE.out⟩
    · obtain rfl : op = ⟨#[60]⟩ := hop.out
      obtain rfl : B = (strB [byo 4], K) := by rw [← hB.out]; simp [hA]
      clear hB hop hA
      clear c4 c5 c6 nf ad
      go_wp2
      go_ret2
      exact ⟨rfl, hE.out⟩
    · obtain rfl : op = ⟨#[60, 61]⟩ := hop.out
      obtain rfl : B = (strB [byo 4], NX) := by rw [← hB.out]; simp [hA]
      clear hB hop hA
      clear c4 c5 c6 nf ad
      go_wp2
      go_ret2
      exact ⟨rfl, hE.out⟩
    · obtain rfl : op = ⟨#[62]⟩ := hop.out
      obtain rfl : B = (NX, EN) := by rw [← hB.out]; simp [hA]
      clear hB hop hA
      clear c4 c5 c6 nf ad
      go_wp2
      go_ret2
      exact ⟨rfl, hE.out⟩
    · obtain rfl : op = ⟨#[62, 61]⟩ := hop.out
      obtain rfl : B = (K, EN) := by rw [← hB.out]; simp [hA]
      clear hB hop hA
      clear c4 c5 c6 nf ad
      go_wp2
      go_ret2
      exact ⟨rfl, hE.out⟩
end Go.Proofs.YtlfanhlkoepodaaDoor
