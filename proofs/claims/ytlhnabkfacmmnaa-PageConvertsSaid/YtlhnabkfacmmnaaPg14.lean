/-
  The capitals of beginnings: both texts of Proper.
-/
import Derived.Test.YtlhnabkfacmmnaaPg13
namespace Go.Proofs.Ytlhnabkfacmmnaa
open Go.RowKit
set_option linter.unusedVariables false
set_option linter.unusedSimpArgs false
attribute [local go_sem] conv_new
/-- The first k bytes are what g says. -/
def idTo (g : Nat → Int) (l : List UInt8) (k : Nat) : List UInt8 := (List.range k).map (fun j => bOf (g j)) ++ l.drop k
theorem idTo_at (g : Nat → Int) (l : List UInt8) (k : Nat) (hk : k < l.length) : bth (idTo g l k) k = bth l k := by
  simp [idTo, bth, List.getD, List.getElem?_append_right]
theorem idTo_succ (g : Nat → Int) (l : List UInt8) (k : Nat) (hk : k < l.length) : (idTo g l k).set k (bOf (g k)) = idTo g l (k + 1) := by
  unfold idTo
  rw [List.set_append_right _ _ (by simp), List.range_succ, List.map_append]
  simp only [List.length_map, List.length_range, Nat.sub_self]
  rw [List.drop_eq_getElem_cons hk, List.set_cons_zero, List.append_assoc]
  simp
theorem idTo_all (g : Nat → Int) (l : List UInt8) : idTo g l l.length = (List.range l.length).map fun j => bOf (g j) := by simp [idTo]
def wasS (l : List UInt8) (p : Int) : Nat → Bool
  | 0 => false
  | k + 1 => isLetS (bth l k) p
def prS (l : List UInt8) (p : Int) (k : Nat) : Int := if wasS l p k then lowS (bth l k) p else upS_ (bth l k) p
theorem prS_rng (l : List UInt8) (p : Int) (k : Nat) : 0 ≤ prS l p k ∧ prS l p k ≤ 255 := by
  have h := bth_in l k
  unfold prS
  split
  · exact lowS_rng h.1 h.2
  · exact upS_rng h.1 h.2
def propB (s : ByteArray) (p : Int) : ByteArray := strB ((List.range s.toList.length).map fun j => bOf (prS s.toList p j))
theorem Bk.far {w : World} {g n : Nat} {l : List UInt8} (h : Bk w g n l) {q : Addr} (hne : q.block ≠ g) (v : Value) : Bk (w.setCell q v) g n l :=
  ⟨h.1, fun j hj => ⟨cell_far (h.2 j hj).1 hne, by rw [World.frozen?_setCell]; exact (h.2 j hj).2⟩⟩
set_option maxRecDepth 100000 in
set_option maxHeartbeats 1000000 in
theorem prop1_any (x p : Int) (hp : Pg p) (b : Nat) (was : Bool) (w : World) (hc : w.cell? ⟨b, 0, none⟩ = some (.bool was)) (hf : w.frozen? ⟨b, 0, none⟩ = false) (h0 : 0 ≤ x) (h255 : x ≤ 255) :
    Calls Try.prog 44 #[.int .u8 x, .int .i64 p, .pointer (some ⟨b, 0, none⟩)] w fun e w' => e = .returned (.int .u8 (if was then lowS x p else upS_ x p)) ∧ w' = w.setCell ⟨b, 0, none⟩ (.bool (isLetS x p)) := by
  cases was
  · go_enter Try.func44, Try.ntmps44
    go_wp2_with fail
    refine (isLet_any _ _ hp _ h0 h255).mono ?_
    rintro e w' ⟨rfl, rfl⟩
    go_wp2_with fail
    refine (upper_any _ _ hp _ h0 h255).mono ?_
    rintro e w' ⟨rfl, rfl⟩
    go_wp2
    go_ret
    exact ⟨rfl, rfl⟩
  · go_enter Try.func44, Try.ntmps44
    go_wp2_with fail
    refine (isLet_any _ _ hp _ h0 h255).mono ?_
    rintro e w' ⟨rfl, rfl⟩
    go_wp2_with fail
    refine (lower_any _ _ hp _ h0 h255).mono ?_
    rintro e w' ⟨rfl, rfl⟩
    go_wp2
    go_ret
    exact ⟨rfl, rfl⟩
theorem enterProp (args : Array Value) (w : World) : (callFunc 44 args).run Try.prog w = .ok (.enter 44 args) w := by kernel_rfl
def GiveSNB (s : ByteArray) (x : Int) (B : Nat) (w : World) (e : Ending) (w' : World) : Prop := e = .returned (.tuple #[.string s, .int .i64 x]) ∧ Below B w w'
set_option maxRecDepth 100000 in
set_option maxHeartbeats 2000000 in
theorem mappedP_any (s : ByteArray) (p : Int) (w : World) (b : Nat) (hc0 : w.cell? ⟨b, 0, none⟩ = some (.bool false)) (hf0 : w.frozen? ⟨b, 0, none⟩ = false) :
    Calls Try.prog 42 #[.string s, .int .i64 p, .func (.func 44) #[] #[.pointer (some ⟨b, 0, none⟩)]] w (GiveSNB (okA p s (propB s p)) (askE p [s]) b w) := by
  have hbw : b < w.heap.size := World.block_lt_of_cell? w _ hc0
  by_cases h : askE p [s] = 0
  · have e1 : (askE p [s] != 0) = false := by simp [h]
    have Fin : Hid (okA p s (propB s p) = propB s p) := by unfold Hid okA; rw [if_pos h]
    have Fin2 := hid h
    have ho := ask_ok h
    have hp := hid ho.2
    have hsz : s.size ≤ 1000000 := by omega
    have hlen : Hid (s.toList.length = s.size) := by unfold Hid; rw [ByteArray.toList_eq]; rfl
    have hfin := hid (idTo_all (prS s.toList p) s.toList)
    clear ho h
    go_enter Try.func42, Try.ntmps42
    go_wp2_with fail
    refine (asked_any p _ _ _ [s] _ (RdS.new1 w s _)).mono ?_
    rintro e w1 ⟨rfl, rfl⟩
    have hx1 := hid ((Ext.refl w).alloc_right (.cells #[.string s] 9))
    have hs1 := hx1.out.size
    generalize hw1 : w.alloc (.cells #[.string s] 9) = w1 at *
    clear hw1
    have hcap := capB_in w1 s hsz
    have hB := hid (newB_bk w1 s)
    have hE := hid (newB_ext w1 s)
    have hg : w1.heap.size < (newB w1 s).heap.size := by simp [newB]
    have hcc := hid (hE.out.cell (hx1.out.cell hc0))
    have hff := hid ((hE.out.frozen (p := ⟨b, 0, none⟩) (by show b < _; omega)).trans ((hx1.out.frozen (p := ⟨b, 0, none⟩) hbw).trans hf0))
    have hbel : Hid (Below b w (newB w1 s)) := Below.mono (Ext.trans hx1.out hE.out) (by omega)
    clear hc0 hf0
    go_wp2_with fail
    go_loopw [23] (fun i wr => ∃ k : Nat, k ≤ s.size ∧ i = .int .i64 k ∧ Hid (Bk wr w1.heap.size s.size (idTo (prS s.toList p) s.toList k)) ∧ Hid (wr.cell? ⟨b, 0, none⟩ = some (.bool (wasS s.toList p k))) ∧ Hid (wr.frozen? ⟨b, 0, none⟩ = false) ∧ Hid (Below b w wr)) (fun i _ => s.size - (intOf i).toNat)
    case atStart => exact ⟨0, by omega, rfl, hB, hcc, hff, hbel⟩
    case round =>
      obtain ⟨k, hk, rfl, hb, hcr, hfr, hx⟩ := hrel
      by_cases hlt : k < s.size
      · have hlt' : k < s.toList.length := by rw [hlen.out]; exact hlt
        have hc := (hb.out.2 k hlt).1
        rw [idTo_at _ _ k hlt'] at hc
        have hr := bth_in s.toList k
        have hst := hid (idTo_succ (prS s.toList p) s.toList k hlt')
        have hv : Hid ((if wasS s.toList p k then lowS (bth s.toList k) p else upS_ (bth s.toList k) p) = prS s.toList p k) := rfl
        clear hlt'
        go_wp2_with fail
        refine (prop1_any _ _ hp.out b _ _ hcr.out hfr.out hr.1 hr.2).mono ?_
        rintro e w' ⟨rfl, rfl⟩
        rw [hv.out]
        have hcn : Hid ((wr.setCell ⟨b, 0, none⟩ (.bool (isLetS (bth s.toList k) p))).cell? ⟨b, 0, none⟩ = some (.bool (wasS s.toList p (k + 1)))) := World.cell?_setCell_same _ _ _ hcr.out
        have hfn : Hid ((wr.setCell ⟨b, 0, none⟩ (.bool (isLetS (bth s.toList k) p))).frozen? ⟨b, 0, none⟩ = false) := by unfold Hid; rw [World.frozen?_setCell]; exact hfr.out
        have hbn : Hid (Bk (wr.setCell ⟨b, 0, none⟩ (.bool (isLetS (bth s.toList k) p))) w1.heap.size s.size (idTo (prS s.toList p) s.toList k)) := hb.out.far (by show b ≠ _; omega) _
        have hxn : Hid (Below b w (wr.setCell ⟨b, 0, none⟩ (.bool (isLetS (bth s.toList k) p)))) := Below.setCell hx.out (Nat.le_refl _) _
        clear hc hb hcr hfr hx
        generalize wr.setCell ⟨b, 0, none⟩ (.bool (isLetS (bth s.toList k) p)) = w2 at *
        have hc := (hbn.out.2 k hlt).1
        have hfree := (hbn.out.2 k hlt).2
        have hw := prS_rng s.toList p k
        have hb2 := hid (hbn.out.set hlt (prS s.toList p k) hw.1 hw.2)
        have hx2 : Hid (Below b w (w2.setCell ⟨w1.heap.size, k, none⟩ (.int .u8 (prS s.toList p k)))) := Below.setCell hxn.out (by show b ≤ w1.heap.size; omega) _
        have hc2 : Hid ((w2.setCell ⟨w1.heap.size, k, none⟩ (.int .u8 (prS s.toList p k))).cell? ⟨b, 0, none⟩ = some (.bool (wasS s.toList p (k + 1)))) := cell_far hcn.out (by show w1.heap.size ≠ b; omega)
        have hf2 : Hid ((w2.setCell ⟨w1.heap.size, k, none⟩ (.int .u8 (prS s.toList p k))).frozen? ⟨b, 0, none⟩ = false) := by unfold Hid; rw [World.frozen?_setCell]; exact hfn.out
        clear hw
        go_wp2
        go_roundw
        case rel => exact ⟨k + 1, by omega, by go_num, by rw [← hst.out]; exact hb2, hc2, hf2, hx2⟩
        case measure => simp [intOf]; omega
      · obtain rfl : k = s.size := by omega
        have hrd := hb.out.rd hcap.1 hcap.2
        have hcv := conv_RdB hrd
        rw [← hlen.out, hfin.out] at hcv
        rw [hlen.out] at hcv
        have hmap : Hid (strB ((List.range s.size).map fun j => bOf (prS s.toList p j)) = propB s p) := by unfold Hid propB; rw [hlen.out]
        rw [hmap.out] at hcv
        clear hmap hrd
        go_wp2
        go_ret2
        exact ⟨by rw [Fin.out, Fin2.out]; rfl, hx.out⟩
  · have e1 : (askE p [s] != 0) = true := by simp [h]
    have Fin : Hid (okA p s (propB s p) = ByteArray.empty) := by unfold Hid okA; rw [if_neg h]
    clear h
    go_enter Try.func42, Try.ntmps42
    go_wp2_with fail
    refine (asked_any p _ _ _ [s] _ (RdS.new1 w s _)).mono ?_
    rintro e w1 ⟨rfl, rfl⟩
    go_wp2
    go_ret2
    exact ⟨by rw [Fin.out]; rfl, Below.mono ((Ext.refl w).alloc_right _) (by omega)⟩
set_option maxRecDepth 100000 in
set_option maxHeartbeats 1000000 in
theorem Proper_any (s : ByteArray) (p : Int) (w : World) : Calls Try.prog 20 #[.string s, .int .i64 p] w (GiveSN (okA p s (propB s p)) (askE p [s]) w) := by
  go_enter Try.func20, Try.ntmps20
  go_wp2_with fail
  refine (mappedP_any s p _ w.heap.size (by go_simp) (by go_simp)).mono ?_
  rintro e w1 ⟨rfl, hx⟩
  have hE : Hid (Ext w w1) := (Below.alloc (Below.refl _ _) (Nat.le_refl _) _).trans hx
  clear hx
  go_wp2
  go_ret2
  exact ⟨rfl, hE.out⟩
set_option maxRecDepth 100000 in
set_option maxHeartbeats 2000000 in
theorem rProper_any (s : ByteArray) (p : Int) (w : World) : Calls Try.prog 25 #[.string s, .int .i64 p] w (GiveSN (okA p s (propB s p)) (askE p [s]) w) := by
  by_cases h : askE p [s] = 0
  · have e1 : (askE p [s] != 0) = false := by simp [h]
    have Fin : Hid (okA p s (propB s p) = propB s p) := by unfold Hid okA; rw [if_pos h]
    have Fin2 := hid h
    have ho := ask_ok h
    have hp := hid ho.2
    have hsz : s.size ≤ 1000000 := by omega
    have hlen : Hid (s.toList.length = s.size) := by unfold Hid; rw [ByteArray.toList_eq]; rfl
    have hfin := hid (idTo_all (prS s.toList p) s.toList)
    clear ho h
    go_enter Try.func25, Try.ntmps25
    go_wp2_with fail
    refine (rasked_any 2048 _ _ _ [s] 0 _ _ _ [p] _ ((RdS.new1 w s 9).alloc (.cells #[.int .i64 p] 3)) (RdI.new1b w (.cells #[.string s] 9) p 3)).mono ?_
    rintro e w1 ⟨rfl, rfl⟩
    have hx1 := hid (((Ext.refl w).alloc_right (.cells #[.string s] 9)).alloc_right (.cells #[.int .i64 p] 3))
    rw [askR_E]
    generalize hw1 : (w.alloc (.cells #[.string s] 9)).alloc (.cells #[.int .i64 p] 3) = w1 at *
    clear hw1
    have hcap := capB_in w1 s hsz
    have hB := hid (newB_bk w1 s)
    have hE := hid (newB_ext w1 s)
    have hg : w1.heap.size < (newB w1 s).heap.size := by simp [newB]
    go_wp2_with fail
    go_loopw [8] (fun i wr => ∃ k : Nat, k ≤ s.size ∧ i = .int .i64 k ∧ Hid (Bk wr w1.heap.size s.size (idTo (prS s.toList p) s.toList k)) ∧ Hid (Ext w1 wr)) (fun i _ => s.size - (intOf i).toNat)
    case atStart => exact ⟨0, by omega, rfl, hB, hE⟩
    case round =>
      obtain ⟨k, hk, rfl, hb, hx⟩ := hrel
      by_cases hlt : k < s.size
      · have hlt' : k < s.toList.length := by rw [hlen.out]; exact hlt
        have hc := (hb.out.2 k hlt).1
        have hfree := (hb.out.2 k hlt).2
        have hxe := byte_at s hlt
        have hr := bth_in s.toList k
        have hst := hid (idTo_succ (prS s.toList p) s.toList k hlt')
        have hw := prS_rng s.toList p k
        have hb2 := hid (hb.out.set hlt (prS s.toList p k) hw.1 hw.2)
        have hx2 := hid (hx.out.set (p := ⟨w1.heap.size, k, none⟩) (Nat.le_refl _) (.int .u8 (prS s.toList p k)))
        have hv : Hid (prS s.toList p k = if wasS s.toList p k then lowS (s[k].toNat : Int) p else upS_ (s[k].toNat : Int) p) := by unfold Hid prS; rw [hxe]
        rw [← hxe] at hr
        clear hlt' hxe hw
        rcases Nat.eq_zero_or_pos k with rfl | hk0
        · have hv2 : Hid (upS_ (s[0].toNat : Int) p = prS s.toList p 0) := by rw [hv.out]; rfl
          go_wp2_with fail
          refine (rupper_any _ _ hp.out _ hr.1 hr.2).mono ?_
          rintro e w' ⟨rfl, rfl⟩
          rw [hv2.out]
          go_wp2
          go_roundw
          case rel => exact ⟨0 + 1, by omega, by go_num, by rw [← hst.out]; exact hb2, hx2⟩
          case measure => simp [intOf]; omega
        · obtain ⟨j, rfl⟩ : ∃ j, k = j + 1 := ⟨k - 1, by omega⟩
          have hje := byte_at s (k := j) (by omega)
          have hjr := bth_in s.toList j
          rw [← hje] at hjr
          have hwas : Hid (wasS s.toList p (j + 1) = isLetS (s[j].toNat : Int) p) := by unfold Hid wasS; rw [hje]
          have t0 : decide ((0 : Int) < ((j + 1 : Nat) : Int)) = true := by simp
          have ej : ((j + 1 : Nat) : Int) - 1 = (j : Int) := by omega
          have ew : IntKind.i64.wrap (((j + 1 : Nat) : Int) - 1) = (j : Int) := by rw [ej]; exact IntWalk.i64_in _ (by omega)
          clear hje
          rcases Bool.eq_false_or_eq_true (isLetS (s[j].toNat : Int) p) with hl | hl
          · have hv2 : Hid (lowS (s[j + 1].toNat : Int) p = prS s.toList p (j + 1)) := by rw [hv.out, hwas.out, hl]; rfl
            go_wp2_with fail
            refine (rIsLetter_any _ _ hp.out _ hjr.1 hjr.2).mono ?_
            rintro e w' ⟨rfl, rfl⟩
            go_wp2_with fail
            refine (rlower_any _ _ hp.out _ hr.1 hr.2).mono ?_
            rintro e w' ⟨rfl, rfl⟩
            rw [hv2.out]
            go_wp2
            go_roundw
            case rel => exact ⟨j + 1 + 1, by omega, by go_num, by rw [← hst.out]; exact hb2, hx2⟩
            case measure => simp [intOf]; omega
          · have hv2 : Hid (upS_ (s[j + 1].toNat : Int) p = prS s.toList p (j + 1)) := by rw [hv.out, hwas.out, hl]; rfl
            go_wp2_with fail
            refine (rIsLetter_any _ _ hp.out _ hjr.1 hjr.2).mono ?_
            rintro e w' ⟨rfl, rfl⟩
            go_wp2_with fail
            refine (rupper_any _ _ hp.out _ hr.1 hr.2).mono ?_
            rintro e w' ⟨rfl, rfl⟩
            rw [hv2.out]
            go_wp2
            go_roundw
            case rel => exact ⟨j + 1 + 1, by omega, by go_num, by rw [← hst.out]; exact hb2, hx2⟩
            case measure => simp [intOf]; omega
      · obtain rfl : k = s.size := by omega
        have hrd := hb.out.rd hcap.1 hcap.2
        have hcv := conv_RdB hrd
        rw [← hlen.out, hfin.out] at hcv
        rw [hlen.out] at hcv
        have hmap : Hid (strB ((List.range s.size).map fun j => bOf (prS s.toList p j)) = propB s p) := by unfold Hid propB; rw [hlen.out]
        rw [hmap.out] at hcv
        clear hmap hrd
        go_wp2
        go_ret2
        exact ⟨by rw [Fin.out, Fin2.out]; rfl, hx1.out.trans hx.out⟩
  · have e1 : (askE p [s] != 0) = true := by simp [h]
    have Fin : Hid (okA p s (propB s p) = ByteArray.empty) := by unfold Hid okA; rw [if_neg h]
    clear h
    go_enter Try.func25, Try.ntmps25
    go_wp2_with fail
    refine (rasked_any 2048 _ _ _ [s] 0 _ _ _ [p] _ ((RdS.new1 w s 9).alloc (.cells #[.int .i64 p] 3)) (RdI.new1b w (.cells #[.string s] 9) p 3)).mono ?_
    rintro e w1 ⟨rfl, rfl⟩
    rw [askR_E]
    go_wp2
    go_ret2
    exact ⟨by rw [Fin.out]; rfl, ((Ext.refl w).alloc_right _).alloc_right _⟩
end Go.Proofs.Ytlhnabkfacmmnaa
