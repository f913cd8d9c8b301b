/-
  Is a value of a list wrong: the closure that is handed to slices.ContainsFunc, and the reference's look over all.
-/
import Derived.Test.YtlfanhlkoepodaaDoorK20
import Derived.Test.YtlfanhlkoepodaaDoorK4
import Derived.Deep.RegionHeld3
namespace Go.Proofs.YtlfanhlkoepodaaDoor
open Go.RowKit
set_option linter.unusedVariables false
set_option linter.unusedSimpArgs false
def valV (v : VL) : Int := valE v.1 v.2.1 v.2.2
def hasE (l : List VL) (x : Int) : Bool := l.any fun v => valV v == x
def allE (l : List VL) : Int := if hasE l 3 then 3 else if hasE l 1 then 1 else 0
theorem valV_is (v : VL) : valV v = if 2048 < v.2.2.size then 3 else if isV v.1 v.2.1 v.2.2 then 0 else 1 := rfl
theorem valV_3 (v : VL) : (valV v == 3) = decide (2048 < v.2.2.size) := by
  rw [valV_is]
  split
  · rename_i h; simp [h]
  · rename_i h
    rw [decide_eq_false h]
    split <;> rfl
theorem has_take (l : List VL) (x : Int) {k : Nat} (hk : k < l.length) : hasE (l.take (k + 1)) x = (hasE (l.take k) x || (valV (vth l k) == x)) := by
  unfold hasE
  rw [List.take_succ_eq_append_getElem hk, List.any_append]
  simp [vth, List.getD, hk]
theorem has_at {l : List VL} {x : Int} {k : Nat} (hk : k < l.length) (h : (valV (vth l k) == x) = true) : hasE l x = true := by
  unfold hasE
  rw [List.any_eq_true]
  exact ⟨vth l k, by simp [vth, List.getD, hk], h⟩
theorem has_no {l : List VL} {x : Int} (h : hasE l x = false) {k : Nat} (hk : k < l.length) : (valV (vth l k) == x) = false := by
  cases e : (valV (vth l k) == x) with
  | false => rfl
  | true => rw [has_at hk e] at h; cases h
theorem has_all (l : List VL) (x : Int) {n : Nat} (hn : l.length = n) : hasE (l.take n) x = hasE l x := by rw [List.take_of_length_le (by omega)]
theorem val_ok {l : List VL} (h3 : hasE l 3 = false) (h1 : hasE l 1 = false) {k : Nat} (hk : k < l.length) : valV (vth l k) = 0 := by
  have a := has_no h3 hk
  rw [valV_3] at a
  have a' : ¬ 2048 < (vth l k).2.2.size := of_decide_eq_false a
  have b := has_no h1 hk
  rw [valV_is, if_neg a'] at b ⊢
  by_cases c : isV (vth l k).1 (vth l k).2.1 (vth l k).2.2 = true
  · rw [if_pos c]
  · rw [if_neg c] at b
    exact absurd b (by decide)
set_option maxRecDepth 100000 in
set_option maxHeartbeats 4000000 in
theorem manyV_any (A : Option Addr) (n c : Nat) (l : List VL) (w : World) (hl : RdV w A n c l) (hz : Hid (∀ k, k < n → (vth l k).2.2.size ≤ 140737488351232)) : Calls Tryd.prog 45 #[.slice A n c] w fun e w' => (∃ b : Bool, e = .returned (.bool b)) ∧ w = w' := by
  have hmx := Rd.max hl
  replace hl := hid hl
  go_enter Tryd.func45, Tryd.ntmps45
  go_wp2_with fail
  go_loopw [3, 4] (fun v i wr => (∃ (k : Nat) (x : Int), k ≤ n ∧ v = .int .i64 x ∧ i = .int .i64 k) ∧ wr = w) (fun _ i _ => n - (intOf i).toNat)
  case atStart => exact ⟨⟨0, _, by omega, rfl, rfl⟩, rfl⟩
  case round =>
    obtain ⟨⟨k, x, hk, rfl, rfl⟩, rfl⟩ := hrel
    by_cases hlt : k < n
    · obtain ⟨ad, rfl, x0, x1, x2⟩ := hl.out.at_ hlt
      have hs := hz.out k hlt
      generalize (vth l k).2.2 = z2 at *
      go_wp2
      go_roundw
      case rel => exact ⟨⟨k + 1, _, by omega, rfl, by go_num⟩, by trivial⟩
      case measure => simp [intOf]; omega
    · obtain rfl : k = n := by omega
      go_wp2
      go_ret
      exact ⟨⟨_, rfl⟩, rfl⟩
set_option maxRecDepth 100000 in
set_option maxHeartbeats 4000000 in
theorem rowC_any (k n : Int) (s : ByteArray) (g : Nat) (x : Int) (w : World) (hc : w.cell? ⟨g, 0, none⟩ = some (.int .i64 x)) : Calls Tryd.prog 71 #[vV k n s, .pointer (some ⟨g, 0, none⟩)] w (Give (.bool (valE k n s == x)) w) := by
  have hV := hid (fun w => Validate_any k n s w)
  generalize valE k n s = E at *
  have hc := hid hc
  unfold vV at *
  go_enter Tryd.func71, Tryd.ntmps71
  go_upto_region 1 with fail
  generalize hw_ : w.alloc (.cells #[.int .i64 k, .int .i64 n, .string s] 23) = w1
  have hx1 : Ext (w.alloc (.cells #[.int .i64 k, .int .i64 n, .string s] 23)) w1 := by rw [hw_]; exact Ext.refl _
  clear hw_
  have b0 : w1.cell? ⟨w.heap.size, 0, none⟩ = some (.int .i64 k) := hx1.cell (by go_simp)
  have b1 : w1.cell? ⟨w.heap.size, 1, none⟩ = some (.int .i64 n) := hx1.cell (by go_simp)
  have b2 : w1.cell? ⟨w.heap.size, 2, none⟩ = some (.string s) := hx1.cell (by go_simp)
  have hE := hid (Ext.trans ((Ext.refl w).alloc_right _) hx1)
  have hcx := hE.out.cell hc.out
  clear hx1
  have HS : Hid (∀ w', Ext w1 w' → (w'.cell? ⟨w.heap.size, 0, none⟩ = some (.int .i64 k) ∧ w'.cell? ⟨w.heap.size, 1, none⟩ = some (.int .i64 n) ∧ w'.cell? ⟨w.heap.size, 2, none⟩ = some (.string s) ∧ w.heap.size < w'.heap.size ∧ w'.cell? ⟨g, 0, none⟩ = some (.int .i64 x) ∧ g < w'.heap.size ∧ Ext w1 w')) := fun w' hx => ⟨hx.cell b0, hx.cell b1, hx.cell b2, World.block_lt_of_cell? w' _ (hx.cell b0), hx.cell hcx, World.block_lt_of_cell? w' _ (hx.cell hcx), hx⟩
  go_wp2_with fail
  have I := hid (HS.out w1.drew (Ext.refl w1).drew_right)
  clear b0 b1 b2 hcx
  go_region_held3 (fun w' => w'.cell? ⟨w.heap.size, 0, none⟩ = some (.int .i64 k) ∧ w'.cell? ⟨w.heap.size, 1, none⟩ = some (.int .i64 n) ∧ w'.cell? ⟨w.heap.size, 2, none⟩ = some (.string s) ∧ w.heap.size < w'.heap.size ∧ w'.cell? ⟨g, 0, none⟩ = some (.int .i64 x) ∧ g < w'.heap.size ∧ Ext w1 w')
    ((first | exact I.out | (go_split_ands; exact HS.out _ (by assumption)) | (go_split_ands; exact HS.out _ (Ext.trans (by assumption) hx4))))
    ((go_at_call 72; go_split_ands; refine (hV.out _).mono ?_; rintro e w4 ⟨rfl, hx4⟩))
  all_goals go_wp2
  all_goals go_ret
  all_goals exact ⟨rfl, Ext.trans hE.out (by first | assumption | exact Ext.trans (by assumption) hx4)⟩
def GiveIx (b : Bool) (w : World) (e : Ending) (w' : World) : Prop := ∃ r : Int, e = .returned (.int .i64 r) ∧ decide (0 ≤ r) = b ∧ Ext w w'
set_option maxRecDepth 100000 in
set_option maxHeartbeats 4000000 in
theorem rowIx_any (A : Option Addr) (n c : Nat) (l : List VL) (g : Nat) (x : Int) (w : World) (hl : RdV w A n c l) (hc : w.cell? ⟨g, 0, none⟩ = some (.int .i64 x)) : Calls Tryd.prog 91 #[.slice A n c, .func (.func 71) #[] #[.pointer (some ⟨g, 0, none⟩)]] w (GiveIx (hasE l x) w) := by
  have hmx := Rd.max hl
  have hlen := hid hl.len
  have hC := hid (fun k n s w hc => rowC_any k n s g x w hc)
  unfold vV at hC
  have en : ∀ (a : Value) (w : World), (callFunc 71 #[a, .pointer (some ⟨g, 0, none⟩)]).run Tryd.prog w = .ok (.enter 71 #[a, .pointer (some ⟨g, 0, none⟩)]) w := fun a w => by kernel_rfl
  replace hl := hid hl
  replace hc := hid hc
  go_enter Tryd.func91, Tryd.ntmps91
  go_wp2_with fail
  go_loopw [8] (fun i wr => ∃ k : Nat, k ≤ n ∧ i = .int .i64 k ∧ Hid (Ext w wr) ∧ Hid (hasE (l.take k) x = false)) (fun i _ => n - (intOf i).toNat)
  case atStart => exact ⟨0, by omega, rfl, Ext.refl _, rfl⟩
  case round =>
    obtain ⟨k, hk, rfl, hx, hno⟩ := hrel
    by_cases hlt : k < n
    · obtain ⟨ad, rfl, x0, x1, x2⟩ := (hl.out.ext hx.out).at_ hlt
      have hkl : k < l.length := by rw [hlen.out]; exact hlt
      have hst := hid (has_take l x hkl)
      have hyes := hid (fun h => has_at (x := x) hkl h)
      have hcl := hid (fun w hc => hC.out (vth l k).1 (vth l k).2.1 (vth l k).2.2 w hc)
      have hvv : Hid (valE (vth l k).1 (vth l k).2.1 (vth l k).2.2 = valV (vth l k)) := rfl
      rw [hvv.out] at hcl
      clear hvv hkl
      generalize valV (vth l k) = E at *
      generalize (vth l k).1 = z0 at *
      generalize (vth l k).2.1 = z1 at *
      generalize (vth l k).2.2 = z2 at *
      rcases Bool.eq_false_or_eq_true (E == x) with q | q
      · rw [q] at hcl
        have hy := hid (hyes.out q)
        clear q hyes hst hno
        go_wp2_with fail
        refine (hcl.out _ (hx.out.cell hc.out)).mono ?_
        rintro e w3 ⟨rfl, hx3⟩
        replace hx := hid (hx.out.trans hx3)
        clear hx3
        go_wp2
        go_ret
        exact ⟨_, rfl, by rw [hy.out]; simp, hx.out⟩
      · rw [q] at hcl
        have hn2 : Hid (hasE (l.take (k + 1)) x = false) := by unfold Hid; rw [hst.out, hno.out, q]; rfl
        clear q hyes hst hno
        go_wp2_with fail
        refine (hcl.out _ (hx.out.cell hc.out)).mono ?_
        rintro e w3 ⟨rfl, hx3⟩
        replace hx := hid (hx.out.trans hx3)
        clear hx3
        go_wp2_with fail
        go_roundw
        case rel => exact ⟨k + 1, by omega, by go_num, hx, hn2⟩
        case measure => simp [intOf]; omega
    · obtain rfl : k = n := by omega
      have hf : Hid (hasE l x = false) := by unfold Hid; rw [← has_all l x hlen.out]; exact hno.out
      clear hno
      go_wp2
      go_ret
      exact ⟨_, rfl, by rw [hf.out]; rfl, hx.out⟩
set_option maxRecDepth 100000 in
set_option maxHeartbeats 4000000 in
theorem rowCf_any (A : Option Addr) (n c : Nat) (l : List VL) (g : Nat) (x : Int) (w : World) (hl : RdV w A n c l) (hc : w.cell? ⟨g, 0, none⟩ = some (.int .i64 x)) : Calls Tryd.prog 70 #[.slice A n c, .func (.func 71) #[] #[.pointer (some ⟨g, 0, none⟩)]] w (Give (.bool (hasE l x)) w) := by
  have hi := hid (rowIx_any A n c l g x w hl hc)
  clear hl hc
  generalize hasE l x = B at *
  go_enter Tryd.func70, Tryd.ntmps70
  go_wp2_with fail
  refine hi.out.mono ?_
  rintro e w2 ⟨r, rfl, hr, hx⟩
  replace hr := hid hr
  go_wp2
  go_ret
  exact ⟨by rw [← hr.out]; rfl, hx⟩
set_option maxRecDepth 100000 in
set_option maxHeartbeats 4000000 in
theorem rAll_any (A : Option Addr) (n c : Nat) (l : List VL) (w : World) (hl : RdV w A n c l) (hz : Hid (∀ k, k < n → (vth l k).2.2.size ≤ 140737488351232)) : Calls Tryd.prog 73 #[.slice A n c] w (Give (.int .i64 (allE l)) w) := by
  have hmx := Rd.max hl
  have hlen := hid hl.len
  have hV := hid (fun k n s w => rValidate_any k n s w)
  unfold vV at hV
  have q3 := hid (fun (h : hasE l 3 = true) => show allE l = 3 by unfold allE; rw [if_pos h])
  have q1 := hid (fun (h : hasE l 3 = false) (h' : hasE l 1 = true) => show allE l = 1 by unfold allE; rw [if_neg (by rw [h]; simp), if_pos h'])
  have q0 := hid (fun (h : hasE l 3 = false) (h' : hasE l 1 = false) => show allE l = 0 by unfold allE; rw [if_neg (by rw [h]; simp), if_neg (by rw [h']; simp)])
  generalize allE l = R at *
  replace hl := hid hl
  go_enter Tryd.func73, Tryd.ntmps73
  go_wp2_with fail
  go_loop [3] (fun i => ∃ k : Nat, k ≤ n ∧ i = .int .i64 k ∧ Hid (hasE (l.take k) 3 = false)) (fun i => n - (intOf i).toNat)
  case atStart => exact ⟨0, by omega, rfl, rfl⟩
  case round =>
    obtain ⟨k, hk, rfl, hno⟩ := hrel
    by_cases hlt : k < n
    · obtain ⟨ad, rfl, x0, x1, x2⟩ := hl.out.at_ hlt
      have hkl : k < l.length := by rw [hlen.out]; exact hlt
      have hst := hid (has_take l 3 hkl)
      have hyes := hid (fun h => has_at (x := 3) hkl h)
      have hv3 := hid (valV_3 (vth l k))
      have hs := hz.out k hlt
      clear hkl
      generalize valV (vth l k) = E at *
      generalize (vth l k).2.2 = z2 at *
      by_cases hg : 2048 < z2.size
      · have d1 : decide ((2048 : Int) < (z2.size : Int)) = true := by simp; omega
        have h3 := hyes.out (by rw [hv3.out]; simpa using hg)
        obtain rfl : R = 3 := q3.out h3
        clear h3 hg hst hyes hv3 hno q3 q1 q0
        go_wp2
        go_ret
        exact ⟨rfl, Ext.refl _⟩
      · have d1 : decide ((2048 : Int) < (z2.size : Int)) = false := by simp; omega
        have hn2 : Hid (hasE (l.take (k + 1)) 3 = false) := by unfold Hid; rw [hst.out, hno.out, hv3.out, decide_eq_false hg]; rfl
        clear hg hst hyes hv3 hno
        go_wp2_with fail
        go_round
        case rel => exact ⟨k + 1, by omega, by go_num, hn2⟩
        case measure => simp [intOf]; omega
    · obtain rfl : k = n := by omega
      have h3 : Hid (hasE l 3 = false) := by unfold Hid; rw [← has_all l 3 hlen.out]; exact hno.out
      clear hno
      go_wp2_with fail
      go_loopw [4] (fun i wr => ∃ q : Nat, q ≤ k ∧ i = .int .i64 q ∧ Hid (Ext w wr) ∧ Hid (hasE (l.take q) 1 = false)) (fun i _ => k - (intOf i).toNat)
      case atStart => exact ⟨0, by omega, rfl, Ext.refl _, rfl⟩
      case round =>
        obtain ⟨q, hq, rfl, hx, hno⟩ := hrel
        by_cases hlt2 : q < k
        · obtain ⟨ad, rfl, x0, x1, x2⟩ := (hl.out.ext hx.out).at_ hlt2
          have hkl : q < l.length := by rw [hlen.out]; exact hlt2
          have hst := hid (has_take l 1 hkl)
          have hyes := hid (fun h => has_at (x := 1) hkl h)
          have hn3 := hid (has_no h3.out hkl)
          have hcl := hid (fun w => hV.out (vth l q).1 (vth l q).2.1 (vth l q).2.2 w)
          have hvv : Hid (valE (vth l q).1 (vth l q).2.1 (vth l q).2.2 = valV (vth l q)) := rfl
          have h013 : Hid (valV (vth l q) = 0 ∨ valV (vth l q) = 1 ∨ valV (vth l q) = 3) := by unfold Hid; rw [valV_is]; split; (right; right; rfl); (split; (left; rfl); (right; left; rfl))
          rw [hvv.out] at hcl
          clear hvv hkl
          generalize valV (vth l q) = E at *
          generalize (vth l q).1 = z0 at *
          generalize (vth l q).2.1 = z1 at *
          generalize (vth l q).2.2 = z2 at *
          rcases h013.out with rfl | rfl | rfl
          · have hn2 : Hid (hasE (l.take (q + 1)) 1 = false) := by unfold Hid; rw [hst.out, hno.out]; rfl
            clear hst hyes hno h013
            go_wp2_with fail
            refine (hcl.out _).mono ?_
            rintro e w3 ⟨rfl, hx3⟩
            replace hx := hid (hx.out.trans hx3)
            clear hx3
            go_wp2_with fail
            go_roundw
            case rel => exact ⟨q + 1, by omega, by go_num, hx, hn2⟩
            case measure => simp [intOf]; omega
          · obtain rfl : R = 1 := q1.out h3.out (hyes.out rfl)
            clear hst hyes hno h013 q0 q1 q3
            go_wp2_with fail
            refine (hcl.out _).mono ?_
            rintro e w3 ⟨rfl, hx3⟩
            replace hx := hid (hx.out.trans hx3)
            clear hx3
            go_wp2
            go_ret
            exact ⟨rfl, hx.out⟩
          · exact absurd hn3.out (by decide)
        · obtain rfl : q = k := by omega
          have h1 : Hid (hasE l 1 = false) := by unfold Hid; rw [← has_all l 1 hlen.out]; exact hno.out
          obtain rfl : R = 0 := q0.out h3.out h1.out
          clear hno q0 q1 q3
          go_wp2
          go_ret
          exact ⟨rfl, hx.out⟩
end Go.Proofs.YtlfanhlkoepodaaDoor
