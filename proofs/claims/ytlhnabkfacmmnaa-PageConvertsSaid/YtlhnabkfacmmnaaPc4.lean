/-
  The bytes of one page on another one: the program.
-/
import Derived.Test.YtlhnabkfacmmnaaPc3
import Derived.Test.YtlhnabkfacmmnaaPg12
import Derived.OwnWalk
import Derived.Deep.RegionHeld3
import Derived.Deep.Cut
namespace Go.Proofs.Ytlhnabkfacmmnaa
open Go.RowKit
set_option linter.unusedVariables false
set_option linter.unusedSimpArgs false
attribute [local go_sem] conv_new
def isC (f t : Nat) (x : Int) : Option Nat := fB (chS t) (chS f x.toNat)
/-- The byte on the other page; by_ where there is none. -/
def cvB (f t : Nat) (by_ x : Int) : Int := match isC f t x with | some b => b | none => by_
def cvC (f t : Nat) (l : List UInt8) : Nat → Nat
  | 0 => 0
  | k + 1 => cvC f t l k + (if (isC f t (bth l k)).isSome then 0 else 1)
theorem cvC_le (f t : Nat) (l : List UInt8) : ∀ k, cvC f t l k ≤ k
  | 0 => Nat.le_refl _
  | k + 1 => by have := cvC_le f t l k; unfold cvC; split <;> omega
theorem cvB_rng {f t : Nat} {by_ x : Int} (h0 : 0 ≤ by_) (h1 : by_ ≤ 255) : 0 ≤ cvB f t by_ x ∧ cvB f t by_ x ≤ 255 := by
  unfold cvB
  cases h : isC f t x with
  | none => exact ⟨h0, h1⟩
  | some b => have := (fB_rng h).1; exact ⟨by show (0 : Int) ≤ (b : Int); omega, by show (b : Int) ≤ 255; omega⟩
theorem cvB_some {f t : Nat} {by_ x : Int} {b : Nat} (h : isC f t x = some b) : cvB f t by_ x = bv (isC f t x) := by unfold cvB; rw [h]; rfl
theorem cvB_none {f t : Nat} {by_ x : Int} (h : isC f t x = none) : cvB f t by_ x = by_ := by unfold cvB; rw [h]
theorem i32s_congr {f g : Nat → Int} {n : Nat} (h : ∀ i, i < n → f i = g i) : i32s f n = i32s g n := by
  unfold i32s
  exact List.map_congr_left fun i hi => by rw [h i (List.mem_range.1 hi)]
theorem pg_part {p : Nat} : i32s (fun i => pgAll (p * 256 + i)) 256 = i32s (chS p) 256 := i32s_congr fun i hi => by
  unfold pgAll
  rw [show (p * 256 + i) / 256 = p by omega, show (p * 256 + i) % 256 = i by omega]
theorem pg_at {p x : Nat} (hx : x < 256) : pgAll (p * 256 + x) = chS p x := by
  unfold pgAll
  rw [show (p * 256 + x) / 256 = p by omega, show (p * 256 + x) % 256 = x by omega]
/-- The error of a conversion. -/
def askV (s : ByteArray) (f t : Int) : Int := askR 2048 [s] 0 [f, t]
theorem askV_eq (s : ByteArray) (f t : Int) : askV s f t = if askE f [s] = 0 then askE t [] else askE f [s] := by
  unfold askV askR askE
  rw [big_long]
  by_cases h : 2048 < s.size <;> cases h1 : pgB f <;> cases h2 : pgB t <;> simp [pgTo, longTo, h, h1, h2]
theorem askV_ok {s : ByteArray} {f t : Int} (h : askV s f t = 0) : s.size ≤ 2048 ∧ askE f [s] = 0 ∧ askE t [] = 0 ∧ ∃ a b : Nat, f = a ∧ t = b ∧ a ≤ 2 ∧ b ≤ 2 := by
  rw [askV_eq] at h
  split at h
  · rename_i h1
    have h2 := ask_ok h1
    refine ⟨h2.1, h1, h, f.toNat, t.toNat, ?_⟩
    have h3 : Pg f := h2.2
    have h4 : pgB t = false := by
      unfold askE at h
      cases h5 : pgB t with
      | false => rfl
      | true => rw [h5] at h; simp [longTo] at h
    unfold Pg at h3
    simp [pgB] at h4
    omega
  · rename_i h1; exact absurd h h1
def GiveSNN (s : ByteArray) (x y : Int) (w : World) (e : Ending) (w' : World) : Prop := e = .returned (.tuple #[.string s, .int .i64 x, .int .i64 y]) ∧ Ext w w'
def cvS (s : ByteArray) (f t by_ : Int) : ByteArray := if askV s f t = 0 then mapS (cvB f.toNat t.toNat by_) s else ByteArray.empty
def cvN (s : ByteArray) (f t : Int) : Int := if askV s f t = 0 then cvC f.toNat t.toNat s.toList s.size else 0
theorem Convert_err (s : ByteArray) (f t by_ : Int) (w : World) (h : askV s f t ≠ 0) : Calls Try.prog 28 #[.string s, .int .i64 f, .int .i64 t, .int .u8 by_] w (GiveSNN (cvS s f t by_) (cvN s f t) (askV s f t) w) := by
  have Fin : Hid (cvS s f t by_ = ByteArray.empty) := if_neg h
  have Fin2 : Hid (cvN s f t = 0) := if_neg h
  by_cases h1 : askE f [s] = 0
  · have hv : Hid (askV s f t = askE t []) := by unfold Hid; rw [askV_eq, if_pos h1]
    have h2 : askE t [] ≠ 0 := by rw [← hv.out]; exact h
    have e1 : (askE f [s] != 0) = false := by simp [h1]
    have e2 : (askE t [] != 0) = true := by simp [h2]
    clear h h1 h2
    go_enter Try.func28, Try.ntmps28
    go_wp2_with fail
    refine (asked_any f _ _ _ [s] _ (RdS.new1 w s _)).mono ?_
    rintro e w1 ⟨rfl, rfl⟩
    go_wp2_with fail
    refine (asked_any t _ _ _ [] _ (Rd.none_ _ 1)).mono ?_
    rintro e w1 ⟨rfl, rfl⟩
    go_wp2
    go_ret3
    exact ⟨by rw [Fin.out, Fin2.out, hv.out]; rfl, (Ext.refl w).alloc_right _⟩
  · have hv : Hid (askV s f t = askE f [s]) := by unfold Hid; rw [askV_eq, if_neg h1]
    have e1 : (askE f [s] != 0) = true := by simp [h1]
    clear h h1
    go_enter Try.func28, Try.ntmps28
    go_wp2_with fail
    refine (asked_any f _ _ _ [s] _ (RdS.new1 w s _)).mono ?_
    rintro e w1 ⟨rfl, rfl⟩
    go_wp2
    go_ret3
    exact ⟨by rw [Fin.out, Fin2.out, hv.out]; rfl, (Ext.refl w).alloc_right _⟩
set_option maxRecDepth 100000 in
set_option maxHeartbeats 4000000 in
theorem Convert_ok (s : ByteArray) (a b : Nat) (by_ : Int) (w : World) (hb0 : 0 ≤ by_) (hb1 : by_ ≤ 255) (ha : a ≤ 2) (hb : b ≤ 2) (hs : s.size ≤ 2048) (q1 : askE a [s] = 0) (q2 : askE b [] = 0) : Calls Try.prog 28 #[.string s, .int .i64 (a : Int), .int .i64 (b : Int), .int .u8 by_] w (GiveSNN (mapS (cvB a b by_) s) (cvC a b s.toList s.size) 0 w) := by
  have e1 : (askE a [s] != 0) = false := by simp [q1]
  have e2 : (askE b [] != 0) = false := by simp [q2]
  have hlen : Hid (s.toList.length = s.size) := by unfold Hid; rw [ByteArray.toList_eq]; rfl
  have hfin := hid (mpTo_all (cvB a b by_) s.toList)
  clear q1 q2
  go_enter Try.func28, Try.ntmps28
  go_wp2_with fail
  refine (asked_any a _ _ _ [s] _ (RdS.new1 w s _)).mono ?_
  rintro e w1 ⟨rfl, rfl⟩
  have hx1 := hid ((Ext.refl w).alloc_right (.cells #[.string s] 9))
  generalize hw1 : w.alloc (.cells #[.string s] 9) = w1 at *
  clear hw1
  go_wp2_with fail
  refine (asked_any b _ _ _ [] _ (Rd.none_ _ 1)).mono ?_
  rintro e w' ⟨rfl, rfl⟩
  go_wp2_with fail
  refine (pages_any _).mono ?_
  rintro e w2 ⟨rfl, hx2⟩
  have hx2 := hid (hx1.out.trans hx2)
  clear hx1
  have hth : (w2.alloc (.cells (zer 768) 59)).there w2.heap.size 0 (i32s pgAll 768).toArray.size := by
    rw [show (i32s pgAll 768).toArray.size = 768 by simp [i32s_len]]
    exact (Bi.new w2 _ 768 _).there
  have hin2 : (Try.prog.info? 59).map (·.size) = some (i32s pgAll 768).toArray.size := by rw [show (i32s pgAll 768).toArray.size = 768 by simp [i32s_len]]; exact info59
  have h1c := hid (all_oneCell_toArray (i32s_one pgAll 768))
  have hB3 : Hid (Bi ((w2.alloc (.cells (zer 768) 59)).setCells w2.heap.size 0 (i32s pgAll 768).toArray.toList) w2.heap.size 768 pgAll) := by
    refine fun k hk => ⟨?_, ?_⟩
    · have := World.rangeAt_setCells_same (w2.alloc (.cells (zer 768) 59)) w2.heap.size 0 (i32s pgAll 768).toArray.toList (by simpa using hth) k (.int .i32 (pgAll k)) (by simpa using i32s_at pgAll hk)
      rwa [Nat.zero_add] at this
    · rw [World.frozen?_setCells]
      exact ((Bi.new w2 (fun _ => 0) 768 59) k hk).2
  have hx3 := hid (Ext.sets w2.heap.size (Nat.le_refl _) (i32s pgAll 768).toArray.toList 0 _ ((Ext.refl w2).alloc_right (.cells (zer 768) 59)))
  have hx3 := hid (hx2.out.trans hx3.out)
  have hth := hid hth
  have hin2 := hid hin2
  go_upto_region 8 with (first | (with_reducible refine wpList_alloc rfl rfl zero59 ?_) | (refine wpList_store_mid rfl 59 (.tmp 13) (.tmp 32) rfl w2.heap.size 0 (i32s pgAll 768).toArray rfl rfl hth.out hin2.out h1c.out ?_))
  clear hx2 hth hin2 h1c
  generalize (w2.alloc (.cells (zer 768) 59)).setCells w2.heap.size 0 (i32s pgAll 768).toArray.toList = w3 at *
  generalize w2.heap.size = g at *
  have hcap := capB_in w3 s (by omega)
  have hB := hid (newB_bk w3 s)
  have hE := hid (newB_ext w3 s)
  have hg : w3.heap.size < (newB w3 s).heap.size := by simp [newB]
  have hu := Try.underlying58
  have hin : (Try.prog.info? 58).map (·.size) = some (i32s (chS b) 256).length := by rw [i32s_len]; exact info58
  go_wp2
  go_loopw [15, 37] (fun vn i wr => ∃ k : Nat, k ≤ s.size ∧ i = .int .i64 k ∧ vn = .int .i64 (cvC a b s.toList k) ∧ Hid (Bk wr w3.heap.size s.size (mpTo (cvB a b by_) s.toList k)) ∧ Hid (Ext w3 wr)) (fun _ i _ => s.size - (intOf i).toNat)
  case atStart => exact ⟨0, by omega, rfl, rfl, hB, hE⟩
  case round =>
    obtain ⟨k, hk, rfl, rfl, hbk, hx⟩ := hrel
    have hcl := cvC_le a b s.toList k
    by_cases hlt : k < s.size
    · have hlt' : k < s.toList.length := by rw [hlen.out]; exact hlt
      have hc := (hbk.out.2 k hlt).1
      rw [mpTo_at _ _ k hlt'] at hc
      have hst := hid (mpTo_succ (cvB a b by_) s.toList k hlt')
      have hcc : Hid (cvC a b s.toList (k + 1) = cvC a b s.toList k + (if (isC a b (bth s.toList k)).isSome then 0 else 1)) := rfl
      have hwr := hid (cvB_rng (f := a) (t := b) (x := bth s.toList k) hb0 hb1)
      obtain ⟨x, hxe, hx256⟩ : ∃ x : Nat, bth s.toList k = (x : Int) ∧ x < 256 := by
        have := bth_in s.toList k
        exact ⟨(bth s.toList k).toNat, by omega, by omega⟩
      rw [hxe] at hc hst hcc hwr
      have hy : Hid (isC a b (x : Int) = fB (chS b) (chS a x)) := rfl
      clear hlt' hxe
      have HS : Hid (∀ w', Ext wr w' → (w'.rangeAt g (b * 256) (i32s (chS b) 256) ∧ w'.cell? ⟨g, a * 256 + x, none⟩ = some (.int .i32 (chS a x)) ∧ Ext wr w')) := by
        intro w' hxw
        have hB4 := hB3.out.ext (hx.out.trans hxw)
        refine ⟨?_, ?_, hxw⟩
        · have := hB4.part (o := b * 256) (m := 256) (by omega)
          rwa [pg_part] at this
        · rw [(hB4 (a * 256 + x) (by omega)).1, pg_at hx256]
      have I := hid (HS.out wr.drew (Ext.refl wr).drew_right)
      have la : (a : Int) < 3 := by omega
      have lb : (b : Int) < 3 := by omega
      have lx : (x : Int) < 256 := by omega
      cases hic : isC a b (x : Int) with
      | some y =>
        have d1 : (fB (chS b) (chS a x)).isSome = true := by rw [← hy.out, hic]; rfl
        have hval : Hid (bv (fB (chS b) (chS a x)) = cvB a b by_ (x : Int)) := by unfold Hid; rw [cvB_some hic, hy.out]
        have hcn : Hid (cvC a b s.toList (k + 1) = cvC a b s.toList k) := by unfold Hid; rw [hcc.out, hic]; rfl
        clear hcc hy hic
        go_wp2_with fail
        go_region_held3 (fun w' => w'.rangeAt g (b * 256) (i32s (chS b) 256) ∧ w'.cell? ⟨g, a * 256 + x, none⟩ = some (.int .i32 (chS a x)) ∧ Ext wr w')
          ((first | exact I.out | (go_split_ands; exact HS.out _ (Ext.trans (by assumption) hx4))))
          ((first | (go_at_call 49; go_split_ands; refine (byteOf_any (chS b) (chS a x) _).mono ?_; rintro e w4 ⟨rfl, hx4⟩)))
        have hb4 := hbk.out.ext (Ext.trans (by assumption) hx4)
        have hx5 := hid (hx.out.trans (Ext.trans (by assumption) hx4))
        have hc4 := (hb4.2 k hlt).1
        have hf4 := (hb4.2 k hlt).2
        rw [hval.out]
        have hb5 := hid (hb4.set hlt (cvB a b by_ (x : Int)) hwr.out.1 hwr.out.2)
        have hx6 := hid (hx5.out.set (p := ⟨w3.heap.size, k, none⟩) (Nat.le_refl _) (.int .u8 (cvB a b by_ (x : Int))))
        clear hb4 hx5 hc HS I hx4
        go_wp2
        go_roundw
        case rel => exact ⟨k + 1, by omega, by go_num, by rw [hcn.out], by rw [← hst.out]; exact hb5, hx6⟩
        case measure => simp [intOf] <;> omega
      | none =>
        have d1 : (fB (chS b) (chS a x)).isSome = false := by rw [← hy.out, hic]; rfl
        have hval : Hid (by_ = cvB a b by_ (x : Int)) := by unfold Hid; rw [cvB_none hic]
        have hcn : Hid (cvC a b s.toList (k + 1) = cvC a b s.toList k + 1) := by unfold Hid; rw [hcc.out, hic]; rfl
        clear hcc hy hic
        go_wp2_with fail
        go_region_held3 (fun w' => w'.rangeAt g (b * 256) (i32s (chS b) 256) ∧ w'.cell? ⟨g, a * 256 + x, none⟩ = some (.int .i32 (chS a x)) ∧ Ext wr w')
          ((first | exact I.out | (go_split_ands; exact HS.out _ (Ext.trans (by assumption) hx4))))
          ((first | (go_at_call 49; go_split_ands; refine (byteOf_any (chS b) (chS a x) _).mono ?_; rintro e w4 ⟨rfl, hx4⟩)))
        have hb4 := hbk.out.ext (Ext.trans (by assumption) hx4)
        have hx5 := hid (hx.out.trans (Ext.trans (by assumption) hx4))
        have hc4 := (hb4.2 k hlt).1
        have hf4 := (hb4.2 k hlt).2
        have hb5 := hid (hb4.set hlt (cvB a b by_ (x : Int)) hwr.out.1 hwr.out.2)
        have hx6 := hid (hx5.out.set (p := ⟨w3.heap.size, k, none⟩) (Nat.le_refl _) (.int .u8 (cvB a b by_ (x : Int))))
        rw [← hval.out] at hb5 hx6
        clear hb4 hx5 hc HS I hx4
        go_wp2
        go_roundw
        case rel => exact ⟨k + 1, by omega, by go_num, by rw [hcn.out]; go_num, by rw [← hst.out, ← hval.out]; exact hb5, hx6⟩
        case measure => simp [intOf] <;> omega
    · obtain rfl : k = s.size := by omega
      have hrd := hbk.out.rd hcap.1 hcap.2
      have hcv := conv_RdB hrd
      rw [← hlen.out, hfin.out] at hcv
      rw [hlen.out] at hcv
      have hmap : strB (s.toList.map fun c => bOf (cvB a b by_ (c.toNat : Int))) = mapS (cvB a b by_) s := rfl
      rw [hmap] at hcv
      clear hmap hrd
      go_wp2
      go_ret3
      exact ⟨rfl, hx3.out.trans hx.out⟩
theorem Convert_any (s : ByteArray) (f t by_ : Int) (w : World) (hb0 : 0 ≤ by_) (hb1 : by_ ≤ 255) : Calls Try.prog 28 #[.string s, .int .i64 f, .int .i64 t, .int .u8 by_] w (GiveSNN (cvS s f t by_) (cvN s f t) (askV s f t) w) := by
  by_cases h : askV s f t = 0
  · obtain ⟨h1, h2, h3, a, b, rfl, rfl, h4, h5⟩ := askV_ok h
    have := Convert_ok s a b by_ w hb0 hb1 h4 h5 h1 h2 h3
    unfold cvS cvN
    rw [if_pos h, if_pos h, h]
    exact this
  · exact Convert_err s f t by_ w h
end Go.Proofs.Ytlhnabkfacmmnaa
