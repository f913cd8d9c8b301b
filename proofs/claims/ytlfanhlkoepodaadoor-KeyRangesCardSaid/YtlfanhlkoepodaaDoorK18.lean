/-
  The law that the value of a key is the value.
-/
import Derived.Test.YtlfanhlkoepodaaDoorK17
namespace Go.Proofs.YtlfanhlkoepodaaDoor
open Go.RowKit
set_option linter.unusedVariables false
set_option linter.unusedSimpArgs false
theorem wl_0 (l : List UInt8) (p : Int) : Pg.wl l p 0 = l := by
  unfold Pg.wl
  refine (List.map_congr_left (g := id) ?_).trans (List.map_id l)
  intro b _
  show Pg.bOf (Pg.weightS (b.toNat : Int) p 0) = b
  have : Pg.weightS (b.toNat : Int) p 0 = (b.toNat : Int) := by unfold Pg.weightS; simp
  rw [this, bOf_byo, byo_toNat]
theorem wt_0 {s : ByteArray} (h : s.size ≤ 48) (p : Int) : wt s p 0 = s.toList := by
  unfold wt
  rw [wl_0, List.take_of_length_le (by rw [len_toList]; exact h)]
/-- A value whose key is read again. -/
theorem dec_enc {k n : Int} {s : ByteArray} {p : Int} {d : Bool} (hv : valE k n s = 0) (hz : s.size ≤ 48) : ∃ t, decL (turnS d (turnS d (keyB k n s p 0))).toList = some (k, n, t) ∧ strB t = s := by
  refine ⟨if k = 4 then wt s p 0 else [], ?_, ?_⟩
  · rw [turnS_list, turnS_list, turnD_turnD]
    unfold keyB
    rw [strB_toList]
    have := cut_key (t := wt s p 0) hv (wt_len s p 0) []
    rw [List.append_nil] at this
    exact decL_s this rfl
  · split
    · rw [wt_0 hz, strB_id]
    · rename_i hk
      have hs : s.toList = [] := by
        have hi := val_is hv
        unfold isV at hi
        rw [if_neg hk] at hi
        rcases val_kinds hv with rfl | ⟨rfl, hn⟩ | ⟨rfl, hn⟩ | ⟨rfl, hn⟩ | rfl
        · simp at hi; rw [hi.1]; exact emp_list
        · simp at hi; rw [hi.1]; exact emp_list
        · simp at hi; rw [hi.1]; exact emp_list
        · simp at hi; rw [hi.1]; exact emp_list
        · exact absurd rfl hk
      apply str_ext
      rw [hs, strB_toList]
theorem ask_0 {k n : Int} {s : ByteArray} {p : Int} (h : Pg.Pg p) : askV k n s p 0 = valE k n s := by
  unfold askV
  split
  · rename_i e
    rw [e]
    unfold askP
    rcases h with rfl | rfl | rfl <;> decide
  · rfl
set_option maxRecDepth 100000 in
set_option maxHeartbeats 4000000 in
theorem back_law (k n : Int) (s : ByteArray) (x : Int) (d : Bool) (w : World) (_ : (Lit.int .i64 k).wf = true) (_ : (Lit.int .i64 n).wf = true) (hs : s.size ≤ maxLen) (hx : (Lit.int .i64 x).wf = true) (hm : ML w) : Calls Tryd.prog 10 #[vV k n s, .int .i64 x, .bool d] w (Give (.bool true) w) := by
  replace hm := hid hm
  clear hs
  have co := hid (fun g w H => over_any (fun _ => s) 1 g (by omega) w H)
  have pg := hid (fun w => page_any x (wf_in hx) w)
  clear hx
  have ce := hid (fun p w hm => Encode_any k n s p 0 d w hm)
  have cv := hid (fun w => rValidate_any k n s w)
  have cd := hid (fun h w => Decode_any (encS k n s h 0 d) d (by unfold encS; split; (rw [turnS_size]; have := keyB_size k n s h 0; omega); (show (0:Nat) ≤ _; omega)) w)
  have sv := hid (fun w => SameV_any k n s w)
  have hask := hid (fun p hp => ask_0 (k := k) (n := n) (s := s) (p := p) hp)
  have hyes := hid (fun p d (h : askV k n s p 0 = 0) => enc_yes (d := d) h)
  have hback := hid (fun p d (hv : valE k n s = 0) hz => dec_enc (p := p) (d := d) hv hz)
  unfold vV at *
  go_enter Tryd.func10, Tryd.ntmps10
  go_upto_region 1 with fail
  generalize hw_ : w.alloc (.cells #[.int .i64 k, .int .i64 n, .string s] 23) = w1
  have hx1 : Ext (w.alloc (.cells #[.int .i64 k, .int .i64 n, .string s] 23)) w1 := by rw [hw_]; exact Ext.refl _
  clear hw_
  have b0 : w1.cell? ⟨w.heap.size, 0, none⟩ = some (.int .i64 k) := hx1.cell (by go_simp)
  have b1 : w1.cell? ⟨w.heap.size, 1, none⟩ = some (.int .i64 n) := hx1.cell (by go_simp)
  have b2 : w1.cell? ⟨w.heap.size, 2, none⟩ = some (.string s) := hx1.cell (by go_simp)
  have hE := hid (Ext.trans ((Ext.refl w).alloc_right _) hx1)
  have lt : w.heap.size < w1.heap.size := World.block_lt_of_cell? w1 _ b0
  clear hx1
  go_wp2_with fail
  refine (co.out _ _ (fun j hj => by obtain rfl : j = 0 := (by omega); go_simp)).mono ?_
  rintro e w' ⟨⟨b, rfl⟩, rfl⟩
  generalize hw_ : w1.alloc (.cells #[.int .i64 k, .int .i64 n, .string s] 23) = w2
  have hx2 : Ext w1 w2 := by rw [← hw_]; exact (Ext.refl _).alloc_right _
  clear hw_
  replace b0 := hx2.cell b0
  replace b1 := hx2.cell b1
  replace b2 := hx2.cell b2
  replace hE := hid (hE.out.trans hx2)
  clear lt
  have lt : w.heap.size < w2.heap.size := World.block_lt_of_cell? w2 _ b0
  clear hx2
  cases b with
  | true =>
    go_wp2_with fail
    refine (known_any _ (hm.out.ext hE.out)).mono ?_
    rintro e w3 ⟨rfl, hx3⟩
    go_wp2
    go_ret
    exact ⟨rfl, (hE.out).trans hx3⟩
  | false =>
    go_wp2_with fail
    refine (pg.out _).mono ?_
    rintro e w' ⟨⟨p, c, hco, rfl⟩, rfl⟩
    replace hask := hid (hask.out p hco.1)
    clear hco pg co
    go_wp2_with fail
    refine (ce.out p _ (hm.out.ext hE.out)).mono ?_
    rintro e w3 ⟨rfl, hx3⟩
    replace b0 := hx3.cell b0
    replace b1 := hx3.cell b1
    replace b2 := hx3.cell b2
    replace hE := hid (hE.out.trans hx3)
    clear lt
    have lt : w.heap.size < w3.heap.size := World.block_lt_of_cell? w3 _ b0
    clear hx3
    by_cases he : askV k n s p 0 = 0
    rotate_left
    · have d1 : (askV k n s p 0 != 0) = true := by simpa using he
      have hae := hid hask.out
      rw [hask.out] at *
      clear he hask hyes hback
      generalize valE k n s = E at *
      generalize encS k n s p 0 d = S at *
      go_wp2_with fail
      refine (cv.out _).mono ?_
      rintro e w4 ⟨rfl, hx4⟩
      replace b0 := hx4.cell b0
      replace b1 := hx4.cell b1
      replace b2 := hx4.cell b2
      replace hE := hid (hE.out.trans hx4)
      clear lt
      have lt : w.heap.size < w4.heap.size := World.block_lt_of_cell? w4 _ b0
      clear hx4
      go_wp2_with fail
      refine (known_any _ (hm.out.ext hE.out)).mono ?_
      rintro e w5 ⟨rfl, hx5⟩
      go_wp2
      go_ret
      exact ⟨rfl, (hE.out).trans hx5⟩
    · have d1 : (askV k n s p 0 != 0) = false := by simpa using he
      by_cases hz : 48 < s.size
      · have d2 : decide ((48 : Int) < (s.size : Int)) = true := by simp; omega
        rw [hask.out] at he
        rw [he] at cv
        rw [hask.out, he]
        clear hask hyes hback hz he
        generalize encS k n s p 0 d = S at *
        go_wp2_with fail
        refine (cv.out _).mono ?_
        rintro e w4 ⟨rfl, hx4⟩
        replace b0 := hx4.cell b0
        replace b1 := hx4.cell b1
        replace b2 := hx4.cell b2
        replace hE := hid (hE.out.trans hx4)
        clear lt
        have lt : w.heap.size < w4.heap.size := World.block_lt_of_cell? w4 _ b0
        clear hx4
        go_wp2_with fail
        refine (known_any _ (hm.out.ext hE.out)).mono ?_
        rintro e w5 ⟨rfl, hx5⟩
        go_wp2
        go_ret
        exact ⟨rfl, (hE.out).trans hx5⟩
      · have d2 : decide ((48 : Int) < (s.size : Int)) = false := by simp; omega
        obtain ⟨t, ht1, ht2⟩ := hback.out p d (by rw [← hask.out]; exact he) (by omega)
        have cdp := hid (fun w => cd.out p w)
        have e1 := hyes.out p d he
        rw [e1] at cdp
        rw [ht1] at cdp
        rw [e1]
        generalize turnS d (keyB k n s p 0) = S at *
        replace ht2 := hid ht2
        clear ht1 e1 hyes hback hask cd
        rw [he]
        clear he hz
        go_wp2_with fail
        refine (cdp.out _).mono ?_
        rintro e w4 ⟨rfl, hx4⟩
        unfold vV
        rw [ht2.out]
        replace b0 := hx4.cell b0
        replace b1 := hx4.cell b1
        replace b2 := hx4.cell b2
        replace hE := hid (hE.out.trans hx4)
        clear lt
        have lt : w.heap.size < w4.heap.size := World.block_lt_of_cell? w4 _ b0
        clear hx4
        go_upto_region 8 with fail
        have x0 : (w4.alloc (.cells #[.int .i64 k, .int .i64 n, .string s] 23)).cell? ⟨w4.heap.size, 0, none⟩ = some (.int .i64 k) := by go_simp
        have x1 : (w4.alloc (.cells #[.int .i64 k, .int .i64 n, .string s] 23)).cell? ⟨w4.heap.size, 1, none⟩ = some (.int .i64 n) := by go_simp
        have x2 : (w4.alloc (.cells #[.int .i64 k, .int .i64 n, .string s] 23)).cell? ⟨w4.heap.size, 2, none⟩ = some (.string s) := by go_simp
        replace b0 := cell_alloc b0 (.cells #[.int .i64 k, .int .i64 n, .string s] 23)
        replace b1 := cell_alloc b1 (.cells #[.int .i64 k, .int .i64 n, .string s] 23)
        replace b2 := cell_alloc b2 (.cells #[.int .i64 k, .int .i64 n, .string s] 23)
        replace hE := hid (hE.out.alloc_right (.cells #[.int .i64 k, .int .i64 n, .string s] 23))
        clear lt
        generalize w4.alloc (.cells #[.int .i64 k, .int .i64 n, .string s] 23) = w5 at *
        have lt : w.heap.size < w5.heap.size := World.block_lt_of_cell? w5 _ b0
        have lt3 : w4.heap.size < w5.heap.size := World.block_lt_of_cell? w5 _ x0
        go_wp2_with fail
        refine (sv.out _).mono ?_
        rintro e w6 ⟨rfl, hx6⟩
        replace hE := hid (hE.out.trans hx6)
        clear hx6 b0 b1 b2 x0 x1 x2 lt lt3
        go_wp2_with fail
        refine (known_any _ (hm.out.ext hE.out)).mono ?_
        rintro e w7 ⟨rfl, hx7⟩
        go_wp2
        go_ret
        exact ⟨rfl, (hE.out).trans hx7⟩
end Go.Proofs.YtlfanhlkoepodaaDoor
