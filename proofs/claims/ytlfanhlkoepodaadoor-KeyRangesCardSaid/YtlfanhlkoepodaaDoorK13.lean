/-
  The text of a key: the program and the reference.
-/
import Derived.Test.YtlfanhlkoepodaaDoorK11
namespace Go.Proofs.YtlfanhlkoepodaaDoor
open Go.RowKit
set_option linter.unusedVariables false
set_option linter.unusedSimpArgs false
attribute [local go_sem] Pg.conv_new
/-- A text and how many bytes its key has, or none. -/
def GiveCT (R : Option (List UInt8 × Nat)) (w : World) (e : Ending) (w' : World) : Prop := match R with
  | none => e = .returned (.tuple #[vV 0 0 { data := #[] }, .int .i64 0]) ∧ Ext w w'
  | some x => e = .returned (.tuple #[vV 4 0 (strB x.1), .int .i64 (x.2 : Nat)]) ∧ Ext w w'
theorem GiveCT.none_ {w w' : World} (h : Ext w w') : GiveCT none w (.returned (.tuple #[.agg #[.int .i64 0, .int .i64 0, .string { data := #[] }], .int .i64 0])) w' := ⟨rfl, h⟩
theorem GiveCT.some_ {w w' : World} (t : List UInt8) (q : Nat) (h : Ext w w') : GiveCT (some (t, q)) w (.returned (.tuple #[.agg #[.int .i64 4, .int .i64 0, .string (strB t)], .int .i64 (q : Nat)])) w' := ⟨rfl, h⟩
theorem byte_nz {b : UInt8} (h : ((b.toNat : Int) == 0) = false) : b ≠ 0 := by intro e; subst e; exact absurd h (by decide)
theorem byte_z {b : UInt8} (h : ((b.toNat : Int) == 0) = true) : b = 0 := UInt8.toNat_inj.1 (by show b.toNat = 0; simpa using h)
theorem cut_end (s : ByteArray) {k : Nat} {acc : List UInt8} (hk : k < s.size) (h0 : s[k]'hk = 0) (he : k + 1 = s.size) : cutT acc k (s.toList.drop k) = none := by
  rw [drop_byte s hk, he, List.drop_of_length_le (by rw [len_toList]; exact Nat.le_refl _), cutT_one]
theorem cut_big (s : ByteArray) {k : Nat} {acc : List UInt8} (hk : k < s.size) (h0 : s[k]'hk = 0) (he : k + 1 < s.size) (h1 : 1 < (s[k + 1]'he).toNat) : cutT acc k (s.toList.drop k) = none := by
  rw [drop_byte s hk, drop_byte s he, cutT_two, if_neg (by rw [h0]; simp), if_pos h1]
theorem cut_esc (s : ByteArray) {k : Nat} {acc : List UInt8} (hk : k < s.size) (h0 : s[k]'hk = 0) (he : k + 1 < s.size) (h1 : (s[k + 1]'he).toNat = 1) : cutT acc k (s.toList.drop k) = cutT (acc ++ [Pg.bOf 0]) (k + 1 + 1) (s.toList.drop (k + 1 + 1)) := by
  rw [drop_byte s hk, drop_byte s he, cutT_two, if_neg (by rw [h0]; simp), if_neg (by omega), if_pos h1]
  rfl
theorem cut_fin (s : ByteArray) {k : Nat} {acc : List UInt8} (hk : k < s.size) (h0 : s[k]'hk = 0) (he : k + 1 < s.size) (h1 : (s[k + 1]'he).toNat = 0) : cutT acc k (s.toList.drop k) = if 48 < acc.length then none else some (acc, k + 1 + 1) := by
  rw [drop_byte s hk, drop_byte s he, cutT_two, if_neg (by rw [h0]; simp), if_neg (by omega), if_neg (by omega)]
theorem cut_on (s : ByteArray) {k : Nat} {acc : List UInt8} (hk : k < s.size) (h0 : s[k]'hk ≠ 0) : cutT acc k (s.toList.drop k) = cutT (acc ++ [s[k]'hk]) (k + 1) (s.toList.drop (k + 1)) := by
  rw [drop_byte s hk, cutT_on _ _ _ _ h0]
set_option maxRecDepth 100000 in
set_option maxHeartbeats 4000000 in
theorem cutText_any (s : ByteArray) (h1 : 1 ≤ s.size) (hs : s.size ≤ 4000000) (w : World) : Calls Tryd.prog 87 #[.string s] w (GiveCT (cutT [] 1 (s.toList.drop 1)) w) := by
  have info5 : (Tryd.prog.info? 5).map (fun i => (i.zero, i.size, i.bytes)) = some (some (.int .u8 0), 1, 1) := by kernel_rfl
  obtain ⟨i0, hi, hz0, hz1, hz2⟩ := info_parts info5
  clear info5
  generalize hRR : cutT [] 1 (s.toList.drop 1) = R
  replace hRR := hid hRR
  go_enter Tryd.func87, Tryd.ntmps87
  go_upto_region 1 with fail
  generalize hw_ : w.alloc (.cells #[.int .i64 0, .int .i64 0, .string { data := #[] }] 23) = w1
  have ht1 : Hid (There w1 w.heap.size 3) := by rw [← hw_]; exact There.new w _ _ (by decide)
  have hE1 : Hid (Ext w w1) := by rw [← hw_]; exact (Ext.refl w).alloc_right _
  have lt1 : w.heap.size < w1.heap.size := by rw [← hw_]; simp
  clear hw_
  go_wp2_with fail
  go_loopw [4, 5] (fun v i wr => ∃ (k n : Nat) (acc : List UInt8), 1 ≤ k ∧ k ≤ s.size ∧ i = .int .i64 k ∧ n ≤ k ∧ wr.ownsRow w1.heap.size 5 1 v n (Pg.bytesC acc) ∧ Below w1.heap.size w1 wr ∧ Hid (acc.length = n) ∧ Hid (cutT acc k (s.toList.drop k) = R)) (fun _ i _ => s.size - (intOf i).toNat)
  case atStart => exact ⟨1, 0, [], by omega, by omega, rfl, by omega, World.ownsRow_nil _ _ _ _, Below.refl _ _, rfl, hRR⟩
  clear hRR
  case round =>
    obtain ⟨k, n, acc, hk1, hk, rfl, hn, hown, hb, hal, hR⟩ := hrel
    have hbs := hb.size
    obtain ⟨A0, c0, rfl, hc0⟩ := own_form hown
    by_cases hlt : k < s.size
    · have hb0 := (s[k]'hlt).toNat_lt
      rcases Bool.eq_false_or_eq_true (((s[k]'hlt).toNat : Int) == 0) with q | q
      · have q2 : (((s[k]'hlt).toNat : Int) != 0) = false := by simpa using q
        have hq := hid (byte_z q)
        by_cases he : k + 1 = s.size
        · have d1 : ((k : Int) + 1 == (s.size : Int)) = true := by simp; omega
          obtain rfl : R = none := by rw [← hR.out, cut_end s hlt hq.out he]
          clear he hR hq
          have ht := hid (There.ext ht1.out hb)
          have hEw := hid (hE1.out.trans hb)
          have p0 := ht.out.cell (o := 0) (by omega)
          have f0 := ht.out.free (o := 0) (by omega)
          have p1 := ht.out.cell (o := 1) (by omega)
          have f1 := ht.out.free (o := 1) (by omega)
          have p2 := ht.out.cell (o := 2) (by omega)
          have f2 := ht.out.free (o := 2) (by omega)
          have kk := hid (put3 ht.out (.int .i64 0) (.int .i64 0) (.string { data := #[] }))
          have Fin := hid (((hEw.out.set (p := ⟨w.heap.size, 0, none⟩) (Nat.le_refl _) (.int .i64 0)).set (p := ⟨w.heap.size, 1, none⟩) (Nat.le_refl _) (.int .i64 0)).set (p := ⟨w.heap.size, 2, none⟩) (Nat.le_refl _) (.string { data := #[] }))
          clear ht hEw
          go_wp2
          obtain ⟨k0, k1, k2⟩ := kk.out
          exact bodyPost_ret (v := .tuple #[.agg #[.int .i64 0, .int .i64 0, .string { data := #[] }], .int .i64 0]) (by simp [results, Tryd.results87, go_sem, k0, k1, k2]) rfl (GiveCT.none_ Fin.out)
        have hlt2 : k + 1 < s.size := by omega
        have d1 : ((k : Int) + 1 == (s.size : Int)) = false := by simp; omega
        have hb2 := (s[k + 1]'hlt2).toNat_lt
        clear he
        by_cases g1 : 1 < (s[k + 1]'hlt2).toNat
        · have d2 : decide ((1 : Int) < ((s[k + 1]'hlt2).toNat : Int)) = true := by simp; omega
          obtain rfl : R = none := by rw [← hR.out, cut_big s hlt hq.out hlt2 g1]
          clear g1 hR hq
          have ht := hid (There.ext ht1.out hb)
          have hEw := hid (hE1.out.trans hb)
          have p0 := ht.out.cell (o := 0) (by omega)
          have f0 := ht.out.free (o := 0) (by omega)
          have p1 := ht.out.cell (o := 1) (by omega)
          have f1 := ht.out.free (o := 1) (by omega)
          have p2 := ht.out.cell (o := 2) (by omega)
          have f2 := ht.out.free (o := 2) (by omega)
          have kk := hid (put3 ht.out (.int .i64 0) (.int .i64 0) (.string { data := #[] }))
          have Fin := hid (((hEw.out.set (p := ⟨w.heap.size, 0, none⟩) (Nat.le_refl _) (.int .i64 0)).set (p := ⟨w.heap.size, 1, none⟩) (Nat.le_refl _) (.int .i64 0)).set (p := ⟨w.heap.size, 2, none⟩) (Nat.le_refl _) (.string { data := #[] }))
          clear ht hEw
          go_wp2
          obtain ⟨k0, k1, k2⟩ := kk.out
          exact bodyPost_ret (v := .tuple #[.agg #[.int .i64 0, .int .i64 0, .string { data := #[] }], .int .i64 0]) (by simp [results, Tryd.results87, go_sem, k0, k1, k2]) rfl (GiveCT.none_ Fin.out)
        have d2 : decide ((1 : Int) < ((s[k + 1]'hlt2).toNat : Int)) = false := by simp; omega
        by_cases g2 : (s[k + 1]'hlt2).toNat = 1
        · have d3 : (((s[k + 1]'hlt2).toNat : Int) == 1) = true := by simp; omega
          have d4 : (((s[k + 1]'hlt2).toNat : Int) == 0) = false := by simp; omega
          have hR2 := hid ((cut_esc (acc := acc) s hlt hq.out hlt2 g2).symm.trans hR.out)
          have hb1 := hid (Pg.bytesC_snoc acc 0 (by omega) (by omega))
          have hal2 : Hid ((acc ++ [Pg.bOf 0]).length = n + 1) := by unfold Hid; rw [List.length_append, hal.out]; rfl
          clear g1 g2 hR hq hal
          go_wp2_with (at_builtin; refine wpList_push _ rfl _ _ 49 rfl w1.heap.size 5 i0 _ 1 1 Tryd.underlying49 hi hz0 hz1 hz2 rfl (by decide) _ _ _ rfl hown [.int .u8 0] rfl rfl (by simp [Value.oneCell']) (by unfold maxLen; omega) (by omega) hbs ?_)
          intro g cap wp ownp grp _
          rw [← hb1.out] at ownp
          have bel := below_push hb hown grp hbs
          clear grp hown hb
          go_wp2_with fail
          go_roundw
          case rel => exact ⟨k + 1 + 1, n + 1, _, by omega, by omega, by go_num, by omega, ownp, bel, hal2, hR2⟩
          case measure => simp [intOf]; omega
        · have g3 : (s[k + 1]'hlt2).toNat = 0 := by omega
          have d3 : (((s[k + 1]'hlt2).toNat : Int) == 1) = false := by simp; omega
          have d4 : (((s[k + 1]'hlt2).toNat : Int) == 0) = true := by simp; omega
          have hR2 := hid ((cut_fin (acc := acc) s hlt hq.out hlt2 g3).symm.trans hR.out)
          by_cases gl : 48 < n
          · have d5 : decide ((48 : Int) < (n : Int)) = true := by simp; omega
            obtain rfl : R = none := by rw [← hR2.out, if_pos (by rw [hal.out]; exact gl)]
            clear g1 g2 g3 hR hR2 hq hal
            have ht := hid (There.ext ht1.out hb)
            have hEw := hid (hE1.out.trans hb)
            have p0 := ht.out.cell (o := 0) (by omega)
            have f0 := ht.out.free (o := 0) (by omega)
            have p1 := ht.out.cell (o := 1) (by omega)
            have f1 := ht.out.free (o := 1) (by omega)
            have p2 := ht.out.cell (o := 2) (by omega)
            have f2 := ht.out.free (o := 2) (by omega)
            have kk := hid (put3 ht.out (.int .i64 0) (.int .i64 0) (.string { data := #[] }))
            have Fin := hid (((hEw.out.set (p := ⟨w.heap.size, 0, none⟩) (Nat.le_refl _) (.int .i64 0)).set (p := ⟨w.heap.size, 1, none⟩) (Nat.le_refl _) (.int .i64 0)).set (p := ⟨w.heap.size, 2, none⟩) (Nat.le_refl _) (.string { data := #[] }))
            clear ht hEw
            go_wp2
            obtain ⟨k0, k1, k2⟩ := kk.out
            exact bodyPost_ret (v := .tuple #[.agg #[.int .i64 0, .int .i64 0, .string { data := #[] }], .int .i64 0]) (by simp [results, Tryd.results87, go_sem, k0, k1, k2]) rfl (GiveCT.none_ Fin.out)
          have d5 : decide ((48 : Int) < (n : Int)) = false := by simp; omega
          obtain rfl : R = some (acc, k + 1 + 1) := by rw [← hR2.out, if_neg (by rw [hal.out]; omega)]
          clear g1 g2 g3 hR hR2 hq hal
          have hcv := Pg.conv_RdB (Rd.of_own hown)
          have hs : Pg.strB acc = strB acc := rfl
          rw [hs] at hcv
          clear hs
          have ht := hid (There.ext ht1.out hb)
          have hEw := hid (hE1.out.trans hb)
          have p0 := ht.out.cell (o := 0) (by omega)
          have f0 := ht.out.free (o := 0) (by omega)
          have p1 := ht.out.cell (o := 1) (by omega)
          have f1 := ht.out.free (o := 1) (by omega)
          have p2 := ht.out.cell (o := 2) (by omega)
          have f2 := ht.out.free (o := 2) (by omega)
          have kk := hid (put3 ht.out (.int .i64 4) (.int .i64 0) (.string (strB acc)))
          have Fin := hid (((hEw.out.set (p := ⟨w.heap.size, 0, none⟩) (Nat.le_refl _) (.int .i64 4)).set (p := ⟨w.heap.size, 1, none⟩) (Nat.le_refl _) (.int .i64 0)).set (p := ⟨w.heap.size, 2, none⟩) (Nat.le_refl _) (.string (strB acc)))
          clear ht hEw
          go_wp2
          obtain ⟨k0, k1, k2⟩ := kk.out
          exact bodyPost_ret (v := .tuple #[.agg #[.int .i64 4, .int .i64 0, .string (strB acc)], .int .i64 ((k + 1 + 1 : Nat) : Int)]) (by simp [results, Tryd.results87, go_sem, k0, k1, k2]) rfl (GiveCT.some_ acc (k + 1 + 1) Fin.out)
      · have q2 : (((s[k]'hlt).toNat : Int) != 0) = true := by simpa using q
        have hR2 := hid ((cut_on (acc := acc) s hlt (byte_nz q)).symm.trans hR.out)
        have hb1 := Pg.bytesC_snoc acc ((s[k]'hlt).toNat : Int) (by omega) (by omega)
        rw [show Pg.bOf ((s[k]'hlt).toNat : Int) = s[k]'hlt by rw [bOf_byo, byo_toNat]] at hb1
        replace hb1 := hid hb1
        have hal2 : Hid ((acc ++ [s[k]'hlt]).length = n + 1) := by unfold Hid; rw [List.length_append, hal.out]; rfl
        clear hR hal
        go_wp2_with (at_builtin; refine wpList_push _ rfl _ _ 49 rfl w1.heap.size 5 i0 _ 1 1 Tryd.underlying49 hi hz0 hz1 hz2 rfl (by decide) _ _ _ rfl hown [.int .u8 ((s[k]'hlt).toNat : Int)] rfl rfl (by simp [Value.oneCell']) (by unfold maxLen; omega) (by omega) hbs ?_)
        intro g cap wp ownp grp _
        rw [← hb1.out] at ownp
        have bel := below_push hb hown grp hbs
        clear grp hown hb
        go_wp2_with fail
        go_roundw
        case rel => exact ⟨k + 1, n + 1, _, by omega, by omega, by go_num, by omega, ownp, bel, hal2, hR2⟩
        case measure => simp [intOf]; omega
    · obtain rfl : k = s.size := by omega
      obtain rfl : R = none := by rw [← hR.out, List.drop_of_length_le (by rw [len_toList]; exact Nat.le_refl _), cutT_nil]
      clear hR hal
      have ht := hid (There.ext ht1.out hb)
      have hEw := hid (hE1.out.trans hb)
      have p0 := ht.out.cell (o := 0) (by omega)
      have f0 := ht.out.free (o := 0) (by omega)
      have p1 := ht.out.cell (o := 1) (by omega)
      have f1 := ht.out.free (o := 1) (by omega)
      have p2 := ht.out.cell (o := 2) (by omega)
      have f2 := ht.out.free (o := 2) (by omega)
      have kk := hid (put3 ht.out (.int .i64 0) (.int .i64 0) (.string { data := #[] }))
      have Fin := hid (((hEw.out.set (p := ⟨w.heap.size, 0, none⟩) (Nat.le_refl _) (.int .i64 0)).set (p := ⟨w.heap.size, 1, none⟩) (Nat.le_refl _) (.int .i64 0)).set (p := ⟨w.heap.size, 2, none⟩) (Nat.le_refl _) (.string { data := #[] }))
      clear ht hEw
      go_wp2
      obtain ⟨k0, k1, k2⟩ := kk.out
      exact bodyPost_ret (v := .tuple #[.agg #[.int .i64 0, .int .i64 0, .string { data := #[] }], .int .i64 0]) (by simp [results, Tryd.results87, go_sem, k0, k1, k2]) rfl (GiveCT.none_ Fin.out)
set_option maxRecDepth 100000 in
set_option maxHeartbeats 4000000 in
theorem rtext_any (s : ByteArray) (h1 : 1 ≤ s.size) (hs : s.size ≤ 4000000) (w : World) : Calls Tryd.prog 89 #[.string s] w (GiveCT (cutT [] 1 (s.toList.drop 1)) w) := by
  have info5 : (Tryd.prog.info? 5).map (fun i => (i.zero, i.size, i.bytes)) = some (some (.int .u8 0), 1, 1) := by kernel_rfl
  obtain ⟨i0, hi, hz0, hz1, hz2⟩ := info_parts info5
  clear info5
  generalize hRR : cutT [] 1 (s.toList.drop 1) = R
  replace hRR := hid hRR
  go_enter Tryd.func89, Tryd.ntmps89
  go_upto_region 1 with fail
  generalize hw_ : w.alloc (.cells #[.int .i64 0, .int .i64 0, .string { data := #[] }] 23) = w1
  have ht1 : Hid (There w1 w.heap.size 3) := by rw [← hw_]; exact There.new w _ _ (by decide)
  have hE1 : Hid (Ext w w1) := by rw [← hw_]; exact (Ext.refl w).alloc_right _
  have lt1 : w.heap.size < w1.heap.size := by rw [← hw_]; simp
  clear hw_
  go_wp2_with fail
  go_loopw [4, 5] (fun v i wr => ∃ (k n : Nat) (acc : List UInt8), 1 ≤ k ∧ k ≤ s.size ∧ i = .int .i64 k ∧ n ≤ k ∧ wr.ownsRow w1.heap.size 5 1 v n (Pg.bytesC acc) ∧ Below w1.heap.size w1 wr ∧ Hid (acc.length = n) ∧ Hid (cutT acc k (s.toList.drop k) = R)) (fun _ i _ => s.size - (intOf i).toNat)
  case atStart => exact ⟨1, 0, [], by omega, by omega, rfl, by omega, World.ownsRow_nil _ _ _ _, Below.refl _ _, rfl, hRR⟩
  clear hRR
  case round =>
    obtain ⟨k, n, acc, hk1, hk, rfl, hn, hown, hb, hal, hR⟩ := hrel
    have hbs := hb.size
    obtain ⟨A0, c0, rfl, hc0⟩ := own_form hown
    by_cases hlt : k < s.size
    · have hb0 := (s[k]'hlt).toNat_lt
      rcases Bool.eq_false_or_eq_true (((s[k]'hlt).toNat : Int) == 0) with q | q
      · have q2 : (((s[k]'hlt).toNat : Int) != 0) = false := by simpa using q
        have hq := hid (byte_z q)
        by_cases he : k + 1 = s.size
        · have d1 : ((k : Int) + 1 == (s.size : Int)) = true := by simp; omega
          obtain rfl : R = none := by rw [← hR.out, cut_end s hlt hq.out he]
          clear he hR hq
          have ht := hid (There.ext ht1.out hb)
          have hEw := hid (hE1.out.trans hb)
          have p0 := ht.out.cell (o := 0) (by omega)
          have f0 := ht.out.free (o := 0) (by omega)
          have p1 := ht.out.cell (o := 1) (by omega)
          have f1 := ht.out.free (o := 1) (by omega)
          have p2 := ht.out.cell (o := 2) (by omega)
          have f2 := ht.out.free (o := 2) (by omega)
          have kk := hid (put3 ht.out (.int .i64 0) (.int .i64 0) (.string { data := #[] }))
          have Fin := hid (((hEw.out.set (p := ⟨w.heap.size, 0, none⟩) (Nat.le_refl _) (.int .i64 0)).set (p := ⟨w.heap.size, 1, none⟩) (Nat.le_refl _) (.int .i64 0)).set (p := ⟨w.heap.size, 2, none⟩) (Nat.le_refl _) (.string { data := #[] }))
          clear ht hEw
          go_wp2
          obtain ⟨k0, k1, k2⟩ := kk.out
          exact bodyPost_ret (v := .tuple #[.agg #[.int .i64 0, .int .i64 0, .string { data := #[] }], .int .i64 0]) (by simp [results, Tryd.results89, go_sem, k0, k1, k2]) rfl (GiveCT.none_ Fin.out)
        have hlt2 : k + 1 < s.size := by omega
        have d1 : ((k : Int) + 1 == (s.size : Int)) = false := by simp; omega
        have hb2 := (s[k + 1]'hlt2).toNat_lt
        clear he
        by_cases g1 : 1 < (s[k + 1]'hlt2).toNat
        · have d2 : decide ((1 : Int) < ((s[k + 1]'hlt2).toNat : Int)) = true := by simp; omega
          obtain rfl : R = none := by rw [← hR.out, cut_big s hlt hq.out hlt2 g1]
          clear g1 hR hq
          have ht := hid (There.ext ht1.out hb)
          have hEw := hid (hE1.out.trans hb)
          have p0 := ht.out.cell (o := 0) (by omega)
          have f0 := ht.out.free (o := 0) (by omega)
          have p1 := ht.out.cell (o := 1) (by omega)
          have f1 := ht.out.free (o := 1) (by omega)
          have p2 := ht.out.cell (o := 2) (by omega)
          have f2 := ht.out.free (o := 2) (by omega)
          have kk := hid (put3 ht.out (.int .i64 0) (.int .i64 0) (.string { data := #[] }))
          have Fin := hid (((hEw.out.set (p := ⟨w.heap.size, 0, none⟩) (Nat.le_refl _) (.int .i64 0)).set (p := ⟨w.heap.size, 1, none⟩) (Nat.le_refl _) (.int .i64 0)).set (p := ⟨w.heap.size, 2, none⟩) (Nat.le_refl _) (.string { data := #[] }))
          clear ht hEw
          go_wp2
          obtain ⟨k0, k1, k2⟩ := kk.out
          exact bodyPost_ret (v := .tuple #[.agg #[.int .i64 0, .int .i64 0, .string { data := #[] }], .int .i64 0]) (by simp [results, Tryd.results89, go_sem, k0, k1, k2]) rfl (GiveCT.none_ Fin.out)
        have d2 : decide ((1 : Int) < ((s[k + 1]'hlt2).toNat : Int)) = false := by simp; omega
        by_cases gl : 48 < n
        · have d5 : decide ((48 : Int) < (n : Int)) = true := by simp; omega
          obtain rfl : R = none := by rw [← hR.out, cutT_long _ _ _ _ (Nat.le_refl _) (by rw [hal.out]; exact gl)]
          clear g1 hR hq hal
          have ht := hid (There.ext ht1.out hb)
          have hEw := hid (hE1.out.trans hb)
          have p0 := ht.out.cell (o := 0) (by omega)
          have f0 := ht.out.free (o := 0) (by omega)
          have p1 := ht.out.cell (o := 1) (by omega)
          have f1 := ht.out.free (o := 1) (by omega)
          have p2 := ht.out.cell (o := 2) (by omega)
          have f2 := ht.out.free (o := 2) (by omega)
          have kk := hid (put3 ht.out (.int .i64 0) (.int .i64 0) (.string { data := #[] }))
          have Fin := hid (((hEw.out.set (p := ⟨w.heap.size, 0, none⟩) (Nat.le_refl _) (.int .i64 0)).set (p := ⟨w.heap.size, 1, none⟩) (Nat.le_refl _) (.int .i64 0)).set (p := ⟨w.heap.size, 2, none⟩) (Nat.le_refl _) (.string { data := #[] }))
          clear ht hEw
          go_wp2
          obtain ⟨k0, k1, k2⟩ := kk.out
          exact bodyPost_ret (v := .tuple #[.agg #[.int .i64 0, .int .i64 0, .string { data := #[] }], .int .i64 0]) (by simp [results, Tryd.results89, go_sem, k0, k1, k2]) rfl (GiveCT.none_ Fin.out)
        have d5 : decide ((48 : Int) < (n : Int)) = false := by simp; omega
        by_cases g2 : (s[k + 1]'hlt2).toNat = 1
        · have d3 : (((s[k + 1]'hlt2).toNat : Int) == 1) = true := by simp; omega
          have d4 : (((s[k + 1]'hlt2).toNat : Int) == 0) = false := by simp; omega
          have hR2 := hid ((cut_esc (acc := acc) s hlt hq.out hlt2 g2).symm.trans hR.out)
          have hb1 := hid (Pg.bytesC_snoc acc 0 (by omega) (by omega))
          have hal2 : Hid ((acc ++ [Pg.bOf 0]).length = n + 1) := by unfold Hid; rw [List.length_append, hal.out]; rfl
          clear g1 g2 hR hq hal
          go_wp2_with (at_builtin; refine wpList_push _ rfl _ _ 49 rfl w1.heap.size 5 i0 _ 1 1 Tryd.underlying49 hi hz0 hz1 hz2 rfl (by decide) _ _ _ rfl hown [.int .u8 0] rfl rfl (by simp [Value.oneCell']) (by unfold maxLen; omega) (by omega) hbs ?_)
          intro g cap wp ownp grp _
          rw [← hb1.out] at ownp
          have bel := below_push hb hown grp hbs
          clear grp hown hb
          go_wp2_with fail
          go_roundw
          case rel => exact ⟨k + 1 + 1, n + 1, _, by omega, by omega, by go_num, by omega, ownp, bel, hal2, hR2⟩
          case measure => simp [intOf]; omega
        · have g3 : (s[k + 1]'hlt2).toNat = 0 := by omega
          have d3 : (((s[k + 1]'hlt2).toNat : Int) == 1) = false := by simp; omega
          have d4 : (((s[k + 1]'hlt2).toNat : Int) == 0) = true := by simp; omega
          have hR2 := hid ((cut_fin (acc := acc) s hlt hq.out hlt2 g3).symm.trans hR.out)
          obtain rfl : R = some (acc, k + 1 + 1) := by rw [← hR2.out, if_neg (by rw [hal.out]; omega)]
          clear g1 g2 g3 hR hR2 hq hal
          have hcv := Pg.conv_RdB (Rd.of_own hown)
          have hs : Pg.strB acc = strB acc := rfl
          rw [hs] at hcv
          clear hs
          go_wp2_with fail
          refine (Text_any (strB acc) wr).mono ?_
          rintro e w3 ⟨rfl, hx3⟩
          unfold vV
          have ht := hid ((There.ext ht1.out hb).ext hx3)
          have hEw := hid ((hE1.out.trans hb).trans hx3)
          clear hx3
          have p0 := ht.out.cell (o := 0) (by omega)
          have f0 := ht.out.free (o := 0) (by omega)
          have p1 := ht.out.cell (o := 1) (by omega)
          have f1 := ht.out.free (o := 1) (by omega)
          have p2 := ht.out.cell (o := 2) (by omega)
          have f2 := ht.out.free (o := 2) (by omega)
          have kk := hid (put3 ht.out (.int .i64 4) (.int .i64 0) (.string (strB acc)))
          have Fin := hid (((hEw.out.set (p := ⟨w.heap.size, 0, none⟩) (Nat.le_refl _) (.int .i64 4)).set (p := ⟨w.heap.size, 1, none⟩) (Nat.le_refl _) (.int .i64 0)).set (p := ⟨w.heap.size, 2, none⟩) (Nat.le_refl _) (.string (strB acc)))
          clear ht hEw
          go_wp2
          obtain ⟨k0, k1, k2⟩ := kk.out
          exact bodyPost_ret (v := .tuple #[.agg #[.int .i64 4, .int .i64 0, .string (strB acc)], .int .i64 ((k + 1 + 1 : Nat) : Int)]) (by simp [results, Tryd.results89, go_sem, k0, k1, k2]) rfl (GiveCT.some_ acc (k + 1 + 1) Fin.out)
      · have q2 : (((s[k]'hlt).toNat : Int) != 0) = true := by simpa using q
        have hR2 := hid ((cut_on (acc := acc) s hlt (byte_nz q)).symm.trans hR.out)
        have hb1 := Pg.bytesC_snoc acc ((s[k]'hlt).toNat : Int) (by omega) (by omega)
        rw [show Pg.bOf ((s[k]'hlt).toNat : Int) = s[k]'hlt by rw [bOf_byo, byo_toNat]] at hb1
        replace hb1 := hid hb1
        have hal2 : Hid ((acc ++ [s[k]'hlt]).length = n + 1) := by unfold Hid; rw [List.length_append, hal.out]; rfl
        clear hR hal
        go_wp2_with (at_builtin; refine wpList_push _ rfl _ _ 49 rfl w1.heap.size 5 i0 _ 1 1 Tryd.underlying49 hi hz0 hz1 hz2 rfl (by decide) _ _ _ rfl hown [.int .u8 ((s[k]'hlt).toNat : Int)] rfl rfl (by simp [Value.oneCell']) (by unfold maxLen; omega) (by omega) hbs ?_)
        intro g cap wp ownp grp _
        rw [← hb1.out] at ownp
        have bel := below_push hb hown grp hbs
        clear grp hown hb
        go_wp2_with fail
        go_roundw
        case rel => exact ⟨k + 1, n + 1, _, by omega, by omega, by go_num, by omega, ownp, bel, hal2, hR2⟩
        case measure => simp [intOf]; omega
    · obtain rfl : k = s.size := by omega
      obtain rfl : R = none := by rw [← hR.out, List.drop_of_length_le (by rw [len_toList]; exact Nat.le_refl _), cutT_nil]
      clear hR hal
      have ht := hid (There.ext ht1.out hb)
      have hEw := hid (hE1.out.trans hb)
      have p0 := ht.out.cell (o := 0) (by omega)
      have f0 := ht.out.free (o := 0) (by omega)
      have p1 := ht.out.cell (o := 1) (by omega)
      have f1 := ht.out.free (o := 1) (by omega)
      have p2 := ht.out.cell (o := 2) (by omega)
      have f2 := ht.out.free (o := 2) (by omega)
      have kk := hid (put3 ht.out (.int .i64 0) (.int .i64 0) (.string { data := #[] }))
      have Fin := hid (((hEw.out.set (p := ⟨w.heap.size, 0, none⟩) (Nat.le_refl _) (.int .i64 0)).set (p := ⟨w.heap.size, 1, none⟩) (Nat.le_refl _) (.int .i64 0)).set (p := ⟨w.heap.size, 2, none⟩) (Nat.le_refl _) (.string { data := #[] }))
      clear ht hEw
      go_wp2
      obtain ⟨k0, k1, k2⟩ := kk.out
      exact bodyPost_ret (v := .tuple #[.agg #[.int .i64 0, .int .i64 0, .string { data := #[] }], .int .i64 0]) (by simp [results, Tryd.results89, go_sem, k0, k1, k2]) rfl (GiveCT.none_ Fin.out)
end Go.Proofs.YtlfanhlkoepodaaDoor
