/-
  The bytes of one page on another one: the reference.
-/
import Derived.Test.YtlhnabkfacmmnaaPc4
import Derived.Test.YtlhnabkfacmmnaaPg6
import Derived.Test.YtlhnabkfacmmnaaPg6
namespace Go.Proofs.Ytlhnabkfacmmnaa
open Go.RowKit
set_option linter.unusedVariables false
set_option linter.unusedSimpArgs false
def cvT (f t : Nat) (by_ : Int) (l : List UInt8) (k : Nat) : List UInt8 := (l.take k).map fun c => bOf (cvB f t by_ (c.toNat : Int))
theorem cvT_succ (f t : Nat) (by_ : Int) (l : List UInt8) (k : Nat) (hk : k < l.length) : cvT f t by_ l (k + 1) = cvT f t by_ l k ++ [bOf (cvB f t by_ (bth l k))] := by
  unfold cvT
  rw [List.take_succ_eq_append_getElem hk, List.map_append]
  simp [bth, List.getD, hk]
theorem cvT_all (f t : Nat) (by_ : Int) (l : List UInt8) : cvT f t by_ l l.length = l.map fun c => bOf (cvB f t by_ (c.toNat : Int)) := by unfold cvT; rw [List.take_length]
theorem RdI.new2b (w : World) (o : Obj) (x y : Int) (t : TypeId) : RdI ((w.alloc o).alloc (.cells #[.int .i64 x, .int .i64 y] t)) (some ⟨w.heap.size + 1, 0, none⟩) 2 2 [x, y] := by
  have := Rd.new_ (w.alloc o) [.int .i64 x, .int .i64 y] t 2 rfl (by decide)
  rw [show (w.alloc o).heap.size = w.heap.size + 1 by simp] at this
  exact this
set_option maxRecDepth 100000 in
set_option maxHeartbeats 4000000 in
theorem rConvert_any (s : ByteArray) (f t by_ : Int) (w : World) (hb0 : 0 ≤ by_) (hb1 : by_ ≤ 255) : Calls Try.prog 29 #[.string s, .int .i64 f, .int .i64 t, .int .u8 by_] w (GiveSNN (cvS s f t by_) (cvN s f t) (askV s f t) w) := by
  by_cases h : askV s f t = 0
  rotate_left
  · have Fin : Hid (cvS s f t by_ = ByteArray.empty) := if_neg h
    have Fin2 : Hid (cvN s f t = 0) := if_neg h
    have e1 : (askV s f t != 0) = true := by simp [h]
    clear h
    have hv : Hid (askR 2048 [s] 0 [f, t] = askV s f t) := rfl
    go_enter Try.func29, Try.ntmps29
    go_wp2_with fail
    refine (rasked_any 2048 _ _ _ [s] 0 _ _ _ [f, t] _ ((RdS.new1 w s 9).alloc (.cells #[.int .i64 f, .int .i64 t] 3)) (RdI.new2b w (.cells #[.string s] 9) f t 3)).mono ?_
    rintro e w1 ⟨rfl, rfl⟩
    rw [hv.out]
    go_wp2
    go_ret3
    exact ⟨by rw [Fin.out, Fin2.out]; rfl, ((Ext.refl w).alloc_right _).alloc_right _⟩
  · obtain ⟨hs, q1, q2, a, b, rfl, rfl, ha, hb⟩ := askV_ok h
    clear q1 q2
    have Fin : Hid (cvS s a b by_ = mapS (cvB a b by_) s) := if_pos h
    have Fin2 : Hid (cvN s a b = cvC a b s.toList s.size) := if_pos h
    have e1 : (askV s a b != 0) = false := by simp [h]
    have Fin3 := hid h
    clear h
    have hv : Hid (askR 2048 [s] 0 [(a : Int), (b : Int)] = askV s a b) := rfl
    have hlen : Hid (s.toList.length = s.size) := by unfold Hid; rw [ByteArray.toList_eq]; rfl
    have hfin := hid (cvT_all a b by_ s.toList)
    have info5 : (Try.prog.info? 5).map (fun i => (i.zero, i.size, i.bytes)) = some (some (.int .u8 0), 1, 1) := by kernel_rfl
    obtain ⟨i0, hi, hz0, hz1, hz2⟩ := info_parts info5
    clear info5
    go_enter Try.func29, Try.ntmps29
    go_wp2_with fail
    refine (rasked_any 2048 _ _ _ [s] 0 _ _ _ [(a : Int), (b : Int)] _ ((RdS.new1 w s 9).alloc (.cells #[.int .i64 (a : Int), .int .i64 (b : Int)] 3)) (RdI.new2b w (.cells #[.string s] 9) (a : Int) (b : Int) 3)).mono ?_
    rintro e w1 ⟨rfl, rfl⟩
    rw [hv.out]
    have hx1 := hid (((Ext.refl w).alloc_right (.cells #[.string s] 9)).alloc_right (.cells #[.int .i64 (a : Int), .int .i64 (b : Int)] 3))
    generalize hw1 : (w.alloc (.cells #[.string s] 9)).alloc (.cells #[.int .i64 (a : Int), .int .i64 (b : Int)] 3) = w1 at *
    clear hw1
    go_wp2_with fail
    go_loopw [12, 13, 14] (fun v vn i wr => ∃ k : Nat, k ≤ s.size ∧ i = .int .i64 k ∧ vn = .int .i64 (cvC a b s.toList k) ∧ wr.ownsRow w1.heap.size 5 1 v k (bytesC (cvT a b by_ s.toList k)) ∧ Below w1.heap.size w1 wr) (fun _ _ i _ => s.size - (intOf i).toNat)
    case atStart => exact ⟨0, by omega, rfl, rfl, World.ownsRow_nil _ _ _ _, Below.refl _ _⟩
    case round =>
      obtain ⟨k, hk, rfl, rfl, hown, hbel⟩ := hrel
      have hbs := hbel.size
      have hcl := cvC_le a b s.toList k
      by_cases hlt : k < s.size
      · have hst := hid (cvT_succ a b by_ s.toList k (by rw [hlen.out]; exact hlt))
        have hcc : Hid (cvC a b s.toList (k + 1) = cvC a b s.toList k + (if (isC a b (bth s.toList k)).isSome then 0 else 1)) := rfl
        have hwr := hid (cvB_rng (f := a) (t := b) (x := bth s.toList k) hb0 hb1)
        have hxe : (s[k].toNat : Int) = bth s.toList k := by
          have hk' : k < s.data.size := hlt
          simp only [bth, List.getD, ByteArray.toList_eq, Array.getElem?_toList]
          rw [show s.data[k]? = some s.data[k] by simp [hk']]
          rfl
        have hx256 : s[k].toNat < 256 := s[k].toNat_lt
        rw [← hxe] at hst hcc hwr
        have hy : Hid (isC a b (s[k].toNat : Int) = fB (chS b) (chS a s[k].toNat)) := rfl
        have hb1 := hid (bytesC_snoc (cvT a b by_ s.toList k) (cvB a b by_ (s[k].toNat : Int)) hwr.out.1 hwr.out.2)
        obtain ⟨A0, c0, rfl, -⟩ := own_form hown
        clear hxe
        by_cases h0 : 0 ≤ chS a s[k].toNat
        · have d0 : decide (0 ≤ chS a s[k].toNat) = true := by simpa using h0
          have hch : Hid (chC a s[k].toNat = chS a s[k].toNat) := if_pos h0
          cases hic : isC a b (s[k].toNat : Int) with
          | some y =>
            have d1 : (fB (chS b) (chS a s[k].toNat)).isSome = true := by rw [← hy.out, hic]; rfl
            have hval : Hid (bv (fB (chS b) (chS a s[k].toNat)) = cvB a b by_ (s[k].toNat : Int)) := by unfold Hid; rw [cvB_some hic, hy.out]
            have hcn : Hid (cvC a b s.toList (k + 1) = cvC a b s.toList k) := by unfold Hid; rw [hcc.out, hic]; rfl
            clear hcc hy hic h0
            go_wp2_with fail
            refine (char_any s[k].toNat a hx256 ha _).mono ?_
            rintro e w' ⟨rfl, rfl⟩
            go_wp2_with fail
            rw [hch.out]
            refine (rbyteOf_any (chS a s[k].toNat) b hb _).mono ?_
            rintro e w' ⟨rfl, rfl⟩
            go_wp2_with (at_builtin; refine wpList_push _ rfl _ _ 44 rfl w1.heap.size 5 i0 _ 1 1 Try.underlying44 hi hz0 hz1 hz2 rfl (by decide) _ _ _ rfl hown [.int .u8 (bv (fB (chS b) (chS a s[k].toNat)))] rfl rfl (by simp [Value.oneCell']) (by unfold maxLen; omega) (by omega) hbs ?_)
            intro g cap wp ownp grp _
            rw [hval.out, ← hb1.out, ← hst.out] at ownp
            have bel := below_push hbel hown grp hbs
            clear grp hown hbel
            go_wp2_with fail
            go_roundw
            case rel => exact ⟨k + 1, by omega, by go_num, by rw [hcn.out], ownp, bel⟩
            case measure => simp [intOf] <;> omega
          | none =>
            have d1 : (fB (chS b) (chS a s[k].toNat)).isSome = false := by rw [← hy.out, hic]; rfl
            have hval : Hid (by_ = cvB a b by_ (s[k].toNat : Int)) := by unfold Hid; rw [cvB_none hic]
            have hcn : Hid (cvC a b s.toList (k + 1) = cvC a b s.toList k + 1) := by unfold Hid; rw [hcc.out, hic]; rfl
            clear hcc hy hic h0
            replace hb1 := hb1.out
            replace hst := hst.out
            rw [← hval.out] at hb1 hst
            replace hb1 := hid hb1
            replace hst := hid hst
            go_wp2_with fail
            refine (char_any s[k].toNat a hx256 ha _).mono ?_
            rintro e w' ⟨rfl, rfl⟩
            go_wp2_with fail
            rw [hch.out]
            refine (rbyteOf_any (chS a s[k].toNat) b hb _).mono ?_
            rintro e w' ⟨rfl, rfl⟩
            go_wp2_with (at_builtin; refine wpList_push _ rfl _ _ 44 rfl w1.heap.size 5 i0 _ 1 1 Try.underlying44 hi hz0 hz1 hz2 rfl (by decide) _ _ _ rfl hown [.int .u8 (by_)] rfl rfl (by simp [Value.oneCell']) (by unfold maxLen; omega) (by omega) hbs ?_)
            intro g cap wp ownp grp _
            rw [← hb1.out, ← hst.out] at ownp
            have bel := below_push hbel hown grp hbs
            clear grp hown hbel
            go_wp2_with fail
            go_roundw
            case rel => exact ⟨k + 1, by omega, by go_num, by rw [hcn.out]; go_num, ownp, bel⟩
            case measure => simp [intOf] <;> omega
        · have d0 : decide (0 ≤ chS a s[k].toNat) = false := by simpa using h0
          have hic : isC a b (s[k].toNat : Int) = none := by rw [hy.out]; exact fB_neg (by omega)
          have hval : Hid (by_ = cvB a b by_ (s[k].toNat : Int)) := by unfold Hid; rw [cvB_none hic]
          have hcn : Hid (cvC a b s.toList (k + 1) = cvC a b s.toList k + 1) := by unfold Hid; rw [hcc.out, hic]; rfl
          clear hcc hy hic h0
          replace hb1 := hb1.out
          replace hst := hst.out
          rw [← hval.out] at hb1 hst
          replace hb1 := hid hb1
          replace hst := hid hst
          go_wp2_with fail
          refine (char_any s[k].toNat a hx256 ha _).mono ?_
          rintro e w' ⟨rfl, rfl⟩
          go_wp2_with (at_builtin; refine wpList_push _ rfl _ _ 44 rfl w1.heap.size 5 i0 _ 1 1 Try.underlying44 hi hz0 hz1 hz2 rfl (by decide) _ _ _ rfl hown [.int .u8 (by_)] rfl rfl (by simp [Value.oneCell']) (by unfold maxLen; omega) (by omega) hbs ?_)
          intro g cap wp ownp grp _
          rw [← hb1.out, ← hst.out] at ownp
          have bel := below_push hbel hown grp hbs
          clear grp hown hbel
          go_wp2_with fail
          go_roundw
          case rel => exact ⟨k + 1, by omega, by go_num, by rw [hcn.out]; go_num, ownp, bel⟩
          case measure => simp [intOf] <;> omega
      · obtain rfl : k = s.size := by omega
        obtain ⟨A0, c0, rfl, -⟩ := own_form hown
        have hown : wr.ownsRow w1.heap.size 5 1 (.slice A0 s.size c0) s.size (bytesC (cvT a b by_ s.toList s.size)) := hown
        have hrd : RdB wr A0 s.size c0 (cvT a b by_ s.toList s.size) := Rd.of_own hown
        have hcv := conv_RdB hrd
        rw [← hlen.out, hfin.out] at hcv
        rw [hlen.out] at hcv
        have hmap : strB (s.toList.map fun c => bOf (cvB a b by_ (c.toNat : Int))) = mapS (cvB a b by_) s := rfl
        rw [hmap] at hcv
        clear hmap hrd hown
        go_wp2
        go_ret3
        exact ⟨by rw [Fin.out, Fin2.out, Fin3.out]; rfl, hx1.out.trans hbel⟩
end Go.Proofs.Ytlhnabkfacmmnaa
