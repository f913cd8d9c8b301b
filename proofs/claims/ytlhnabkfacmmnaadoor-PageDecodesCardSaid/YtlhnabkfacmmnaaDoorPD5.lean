/-
  The characters of bytes, in UTF-8: the program and the reference.
-/
import Derived.Test.YtlhnabkfacmmnaaDoorPD4
import Derived.Laws.Concat
namespace Go.Proofs.YtlhnabkfacmmnaaDoor
open Go.RowKit
set_option linter.unusedVariables false
set_option linter.unusedSimpArgs false
attribute [local go_sem] conv_new
def dcS (p : Nat) (l : List UInt8) : List UInt8 := l.flatMap fun b => Lib.encodeRune (chS p b.toNat)
theorem dcS_succ {p : Nat} {l : List UInt8} {k : Nat} (hk : k < l.length) : dcS p (l.take (k + 1)) = dcS p (l.take k) ++ Lib.encodeRune (chS p (l[k]).toNat) := by
  unfold dcS
  rw [List.take_succ_eq_append_getElem hk, List.flatMap_append]
  simp
theorem enc_le (r : Int) : (Lib.encodeRune r).length ≤ 4 := by
  have := Lib.runeCells_le r
  rw [Lib.runeCells_length] at this
  exact this.2
theorem dcS_le (p : Nat) : ∀ l : List UInt8, (dcS p l).length ≤ 4 * l.length
  | [] => Nat.le_refl _
  | b :: t => by
    have h1 := dcS_le p t
    have h2 := enc_le (chS p b.toNat)
    have : dcS p (b :: t) = Lib.encodeRune (chS p b.toNat) ++ dcS p t := rfl
    rw [this, List.length_append, List.length_cons]
    omega
theorem chS_rng {p b : Nat} (hb : b < 256) : -1 ≤ chS p b ∧ chS p b ≤ 1103 := by
  unfold chS
  repeat' split
  all_goals omega
theorem enc_all : ∀ r : Fin 1104, Utf8.encode (r.val : Int) = strB (Lib.encodeRune (r.val : Int)) := by decide +kernel
theorem enc_eq {r : Int} (h0 : 0 ≤ r) (h1 : r ≤ 1103) : Utf8.encode r = strB (Lib.encodeRune r) := by
  have := enc_all ⟨r.toNat, by omega⟩
  simp only at this
  rwa [show ((r.toNat : Nat) : Int) = r by omega] at this
/-- The error of Decode, and what it gives. -/
def decE (p : Int) (s : ByteArray) : Int := if askE p [s] = 0 then (if vl p.toNat s.toList = true then 0 else 2) else askE p [s]
def decB (p : Int) (s : ByteArray) : ByteArray := if decE p s = 0 then strB (dcS p.toNat s.toList) else ByteArray.empty
theorem dec_no {p : Int} {s : ByteArray} (h : askE p [s] ≠ 0) : decE p s = askE p [s] ∧ decB p s = ByteArray.empty := by
  have h1 : decE p s = askE p [s] := if_neg h
  exact ⟨h1, if_neg (by rw [h1]; exact h)⟩
theorem dec_bad {p : Int} {s : ByteArray} (h : askE p [s] = 0) (h2 : vl p.toNat s.toList = false) : decE p s = 2 ∧ decB p s = ByteArray.empty := by
  have h1 : decE p s = 2 := by unfold decE; rw [if_pos h, h2]; rfl
  exact ⟨h1, if_neg (by rw [h1]; decide)⟩
theorem dec_ok {p : Int} {s : ByteArray} (h : askE p [s] = 0) (h2 : vl p.toNat s.toList = true) : decE p s = 0 ∧ decB p s = strB (dcS p.toNat s.toList) := by
  have h1 : decE p s = 0 := by unfold decE; rw [if_pos h, if_pos h2]
  exact ⟨h1, if_pos h1⟩
theorem Bt.cell {b B : Nat} {w w' : World} (h : Bt b B w w') {p : Addr} {v : Value} (hc : w.cell? p = some v) (hp : p.block < B) (hb : p.block ≠ b) : w'.cell? p = some v :=
  (World.cell?_of_block (h.2.2.2.2 p.block hp hb)).trans hc
theorem Bt.ext {b B : Nat} {u w w' : World} (h : Bt b B w w') (hu : Ext u w) (hb : u.heap.size ≤ b) (hB : u.heap.size ≤ B) : Ext u w' :=
  ⟨h.1.symm.trans hu.os, h.2.1.symm.trans hu.tape, h.2.2.1.symm.trans hu.output, Nat.le_trans hu.size h.2.2.2.1, fun k hk => (h.2.2.2.2 k (by omega) (by omega)).trans (hu.block hk)⟩
theorem Ext.of_below_le {u w w' : World} {b : Nat} (h : Below b w w') (hb : u.heap.size ≤ b) : Below u.heap.size w w' := h.mono hb
theorem BR.new (w : World) : BR (w.alloc (.cells #[.pointer none, .slice none 0 0] 46)) w.heap.size (w.heap.size + 1) [] :=
  Or.inl ⟨by omega, _, heap_alloc_new w _, World.ownsRowF_nil _ _ _ _⟩
theorem BR.new2 {w w' : World} {b B : Nat} (hb : w.heap[b]? = some (.cells #[.pointer none, .slice none 0 0] 46 (0, 0))) (hlt : b < w.heap.size) (hx : Ext w w') (hB : b < B) : BR w' b B [] :=
  Or.inl ⟨hB, _, (hx.block hlt).trans hb, World.ownsRowF_nil _ _ _ _⟩
set_option maxRecDepth 100000 in
set_option maxHeartbeats 4000000 in
theorem Decode_any (s : ByteArray) (p : Int) (w : World) : Calls Tryd.prog 9 #[.string s, .int .i64 p] w (GiveSN (decB p s) (decE p s) w) := by
  by_cases h : askE p [s] = 0
  rotate_left
  · have e1 : (askE p [s] != 0) = true := by simp [h]
    have Fin := hid (dec_no h)
    clear h
    go_enter Tryd.func9, Tryd.ntmps9
    go_wp2_with fail
    refine (asked_any p _ _ _ [s] _ (RdS.new1 w s _)).mono ?_
    rintro e w1 ⟨rfl, rfl⟩
    go_wp2
    go_ret2
    exact ⟨by rw [Fin.out.1, Fin.out.2]; rfl, (Ext.refl w).alloc_right _⟩
  · have e1 : (askE p [s] != 0) = false := by simp [h]
    have ho := ask_ok h
    obtain ⟨q, rfl, hq⟩ := pg_nat ho.2
    have hsz := ho.1
    have Fin1 := hid (fun h2 => dec_bad h h2)
    have Fin2 := hid (fun h2 => dec_ok h h2)
    rw [Int.toNat_natCast] at Fin1 Fin2
    have hlen : Hid (s.toList.length = s.size) := by unfold Hid; rw [ByteArray.toList_eq]; rfl
    clear ho h
    go_enter Tryd.func9, Tryd.ntmps9
    go_wp2_with fail
    refine (asked_any q _ _ _ [s] _ (RdS.new1 w s _)).mono ?_
    rintro e w1 ⟨rfl, rfl⟩
    have hx1 := hid ((Ext.refl w).alloc_right (.cells #[.string s] 9))
    generalize w.alloc (.cells #[.string s] 9) = w1 at *
    go_wp2_with fail
    refine (pages_any _).mono ?_
    rintro e w2 ⟨rfl, hx2⟩
    have hx2 := hid (hx1.out.trans hx2)
    clear hx1
    have hidx := idx_page hq w2
    have hth := hid (putP_there w2 q)
    have hin := hid (putP_info q)
    have h1c := hid (putP_one q)
    go_upto_region 5 with (first | (with_reducible refine wpList_alloc rfl rfl zero33 ?_) | (refine wpList_store_mid rfl 33 (.tmp 7) (.tmp 20) rfl w2.heap.size 0 (i32s (chS q) 256).toArray rfl rfl hth.out hin.out h1c.out ?_))
    have hB3 := hid (putP_bi w2 q)
    have hx3 := hid (hx2.out.trans (putP_ext w2 q))
    have hg3 := hid (show w2.heap.size < (putP w2 q).heap.size from World.block_lt_of_cell? _ _ (putP_bi w2 q 0 (by omega)).1)
    unfold putP at hB3 hx3 hg3
    clear hx2 hth hin h1c hidx
    generalize (w2.alloc (.cells (zer 256) 33)).setCells w2.heap.size 0 (i32s (chS q) 256).toArray.toList = w3 at *
    generalize w2.heap.size = g at *
    have hb4 : Hid ((w3.alloc (.cells #[.pointer none, .slice none 0 0] 46)).heap[w3.heap.size]? = some (.cells #[.pointer none, .slice none 0 0] 46 (0, 0))) := heap_alloc_new w3 _
    have hs4 : (w3.alloc (.cells #[.pointer none, .slice none 0 0] 46)).heap.size = w3.heap.size + 1 := by simp
    have hx4 := hid ((Ext.refl w3).alloc_right (.cells #[.pointer none, .slice none 0 0] 46))
    go_upto_region 6 with (fail)
    generalize w3.alloc (.cells #[.pointer none, .slice none 0 0] 46) = w4 at *
    have hcap := capB_in w4 s (by omega)
    have hB := hid (newB_bk w4 s)
    have hE := hid (newB_ext w4 s)
    have hg : w4.heap.size < (newB w4 s).heap.size := by simp [newB]
    rw [hs4] at hB hg
    have hP5 := hid (hB3.out.ext (hx4.out.trans hE.out))
    have hx5 := hid (hx3.out.trans (hx4.out.trans hE.out))
    have hR5 := hid (BR.new2 (B := (newB w4 s).heap.size) hb4.out (by omega) hE.out (by omega))
    have hxs := hid hx3.out.size
    have hcv := conv_new w4 s
    rw [hs4] at hcv
    clear hx4 hE hB3 hb4
    have hs4 := hid hs4
    generalize newB w4 s = w5 at *
    go_wp2
    go_loopw [24] (fun i wr => ∃ k : Nat, k ≤ s.size ∧ i = .int .i64 k ∧ Hid (vl q (s.toList.take k) = true) ∧ Hid (BR wr w3.heap.size w5.heap.size (dcS q (s.toList.take k))) ∧ Hid (Bt w3.heap.size w5.heap.size w5 wr)) (fun i _ => s.size - (intOf i).toNat)
    case atStart => exact ⟨0, by omega, rfl, rfl, hR5, Bt.refl _ _ _⟩
    case round =>
      obtain ⟨k, hk, rfl, hv, hR, hT⟩ := hrel
      by_cases hlt : k < s.size
      · have hlt' : k < s.toList.length := by rw [hlen.out]; exact hlt
        have hc := hT.out.cell (hB.out.2 k hlt).1 (by show w3.heap.size + 1 < _; omega) (by show w3.heap.size + 1 ≠ _; omega)
        have hbn := bth_nat hlt'
        have hx256 : (s.toList[k]).toNat < 256 := (s.toList[k]).toNat_lt
        have hno := hid (fun h => vl_no (p := q) hlt' h)
        have hsu := hid (fun h => vl_succ (p := q) hlt' hv.out h)
        have hdc := hid (dcS_succ (p := q) hlt')
        have hle := hid (dcS_le q (s.toList.take k))
        have hlk : (s.toList.take k).length ≤ k := List.length_take_le _ _
        rw [hbn] at hc
        clear hbn
        generalize (s.toList[k]).toNat = x at *
        have hcx := hT.out.cell (hP5.out x hx256).1 (by show g < _; have := hg3.out; omega) (by show g ≠ _; have := hg3.out; omega)
        have lx : (x : Int) < 256 := by omega
        have hr := chS_rng (p := q) hx256
        have lb1 : w3.heap.size + 1 < wr.heap.size := World.block_lt_of_cell? wr _ hc
        have lb2 : g < wr.heap.size := World.block_lt_of_cell? wr _ hcx
        clear hlt'
        by_cases h0 : chS q x < 0
        · have d1 : decide (chS q x < 0) = true := by simpa using h0
          have hf := hid (Fin1.out (hno.out h0))
          have hfe := hid (hT.out.ext hx5.out hxs.out (by have := hxs.out; omega))
          clear h0 Fin1 Fin2
          go_wp2
          go_ret2
          exact ⟨by rw [hf.out.1, hf.out.2]; rfl, hfe.out⟩
        · have d1 : decide (chS q x < 0) = false := by simpa using h0
          have hv2 := hid (hsu.out (by omega))
          clear h0
          go_wp2_with fail
          refine (wr_any (chS q x) (by omega) (by omega) hR.out (by have := hle.out; omega) hT.out.2.2.2.1).mono ?_
          rintro e w6 ⟨⟨n6, rfl⟩, hR6, hT6⟩
          rw [← hdc.out] at hR6
          have hR6 := hid hR6
          have hT6 := hid (hT.out.trans hT6)
          go_wp2
          go_roundw
          case rel => exact ⟨k + 1, by omega, by go_num, hv2, hR6, hT6⟩
          case measure => simp [intOf] <;> omega
      · obtain rfl : k = s.size := by omega
        have hf : Hid (vl q s.toList = true) := by
          have := hv.out
          rw [← hlen.out, List.take_length] at this
          exact this
        have hR' : Hid (BR wr w3.heap.size w5.heap.size (dcS q s.toList)) := by
          have := hR.out
          rw [← hlen.out, List.take_length] at this
          exact this
        have hF := hid (Fin2.out hf.out)
        have hfe := hid (hT.out.ext hx5.out hxs.out (by have := hxs.out; omega))
        have hsz5 := hT.out.2.2.2.1
        clear hR Fin1 Fin2
        go_wp2_with fail
        refine (Tryd.Builder_String_any_k w3.heap.size w3.heap.size _ _ hR'.out.at_ (by omega)).mono ?_
        rintro e w6 ⟨rfl, _, hb6, _⟩
        have hx6 : Hid (Ext w w6) := Below.trans hfe.out (Ext.of_below_le hb6 hxs.out)
        go_wp2
        go_ret2
        exact ⟨by rw [hF.out.1, hF.out.2]; rfl, hx6.out⟩
theorem conv_rune (r : Int) (w : World) : (convert 21 9 (.int .i32 r)).run Tryd.prog w = .ok (.string (Utf8.encode r)) w := by
  simp [convert, go_sem, Conv.intToString]
theorem strB_add (a b : List UInt8) : strB a ++ strB b = strB (a ++ b) := by
  apply ByteArray.ext
  simp [strB]
theorem strB_size (l : List UInt8) : (strB l).size = l.length := by simp [strB, ByteArray.size]
set_option maxRecDepth 100000 in
set_option maxHeartbeats 4000000 in
theorem rDecode_any (s : ByteArray) (p : Int) (w : World) : Calls Tryd.prog 10 #[.string s, .int .i64 p] w (GiveSN (decB p s) (decE p s) w) := by
  by_cases h : askE p [s] = 0
  rotate_left
  · have e1 : (askE p [s] != 0) = true := by simp [h]
    have Fin := hid (dec_no h)
    clear h
    go_enter Tryd.func10, Tryd.ntmps10
    go_wp2_with fail
    refine (rasked_any 2048 _ _ _ [s] 0 _ _ _ [p] _ ((RdS.new1 w s 9).alloc (.cells #[.int .i64 p] 3)) (RdI.new1b w (.cells #[.string s] 9) p 3)).mono ?_
    rintro e w1 ⟨rfl, rfl⟩
    rw [askR_E]
    go_wp2
    go_ret2
    exact ⟨by rw [Fin.out.1, Fin.out.2]; rfl, ((Ext.refl w).alloc_right _).alloc_right _⟩
  · have e1 : (askE p [s] != 0) = false := by simp [h]
    have ho := ask_ok h
    obtain ⟨q, rfl, hq⟩ := pg_nat ho.2
    have hsz := ho.1
    have Fin1 := hid (fun h2 => dec_bad h h2)
    have Fin2 := hid (fun h2 => dec_ok h h2)
    rw [Int.toNat_natCast] at Fin1 Fin2
    have hlen : Hid (s.toList.length = s.size) := by unfold Hid; rw [ByteArray.toList_eq]; rfl
    clear ho h
    go_enter Tryd.func10, Tryd.ntmps10
    go_wp2_with fail
    refine (rasked_any 2048 _ _ _ [s] 0 _ _ _ [(q : Int)] _ ((RdS.new1 w s 9).alloc (.cells #[.int .i64 (q : Int)] 3)) (RdI.new1b w (.cells #[.string s] 9) (q : Int) 3)).mono ?_
    rintro e w1 ⟨rfl, rfl⟩
    rw [askR_E]
    have hx1 := hid (((Ext.refl w).alloc_right (.cells #[.string s] 9)).alloc_right (.cells #[.int .i64 (q : Int)] 3))
    generalize (w.alloc (.cells #[.string s] 9)).alloc (.cells #[.int .i64 (q : Int)] 3) = w1 at *
    go_wp2_with fail
    go_loop [7, 8] (fun v i => ∃ k : Nat, k ≤ s.size ∧ i = .int .i64 k ∧ v = .string (strB (dcS q (s.toList.take k))) ∧ Hid (vl q (s.toList.take k) = true)) (fun _ i => s.size - (intOf i).toNat)
    case atStart => exact ⟨0, by omega, rfl, rfl, rfl⟩
    case round =>
      obtain ⟨k, hk, rfl, rfl, hv⟩ := hrel
      by_cases hlt : k < s.size
      · have hlt' : k < s.toList.length := by rw [hlen.out]; exact hlt
        have hx256 : (s[k]).toNat < 256 := (s[k]).toNat_lt
        have hno := hid (fun h => vl_no (p := q) hlt' h)
        have hsu := hid (fun h => vl_succ (p := q) hlt' hv.out h)
        have hdc := hid (dcS_succ (p := q) hlt')
        have hle := dcS_le q (s.toList.take k)
        have hlk : (s.toList.take k).length ≤ k := List.length_take_le _ _
        rw [byte_nat s hlt hlt'] at hno hsu hdc
        clear hlt'
        by_cases h0 : 0 ≤ chS q (s[k]).toNat
        · have d1 : decide (0 ≤ chS q (s[k]).toNat) = true := by simpa using h0
          have hch : Hid (chC q (s[k]).toNat = chS q (s[k]).toNat) := if_pos h0
          have hr := chS_rng (p := q) hx256
          have hv2 := hid (hsu.out h0)
          have hcv := conv_rune (chS q (s[k]).toNat) w1
          rw [enc_eq h0 hr.2] at hcv
          have h32 : IntKind.i32.wrap (chS q (s[k]).toNat) = chS q (s[k]).toNat := i32_in _ (by omega) (by omega)
          have hel := enc_le (chS q (s[k]).toNat)
          have hadd := strB_add (dcS q (s.toList.take k)) (Lib.encodeRune (chS q (s[k]).toNat))
          rw [← hdc.out] at hadd
          have hsum : ¬ ((strB (dcS q (s.toList.take k))).size + (strB (Lib.encodeRune (chS q (s[k]).toNat))).size > 9223372036854775807) := by rw [strB_size, strB_size]; omega
          clear h0
          go_wp2_with fail
          refine (char_any (s[k]).toNat q hx256 hq _).mono ?_
          rintro e w' ⟨rfl, rfl⟩
          rw [hch.out]
          go_wp2
          go_round
          case rel => exact ⟨k + 1, by omega, by go_num, rfl, hv2⟩
          case measure => simp [intOf] <;> omega
        · have d1 : decide (0 ≤ chS q (s[k]).toNat) = false := by simpa using h0
          have hf := hid (Fin1.out (hno.out (by omega)))
          clear h0 Fin1 Fin2
          go_wp2_with fail
          refine (char_any (s[k]).toNat q hx256 hq _).mono ?_
          rintro e w' ⟨rfl, rfl⟩
          go_wp2
          go_ret2
          exact ⟨by rw [hf.out.1, hf.out.2]; rfl, hx1.out⟩
      · obtain rfl : k = s.size := by omega
        have hf : Hid (vl q s.toList = true) := by
          have := hv.out
          rw [← hlen.out, List.take_length] at this
          exact this
        have hF := hid (Fin2.out hf.out)
        have htk : Hid (s.toList.take s.size = s.toList) := by unfold Hid; rw [← hlen.out, List.take_length]
        rw [htk.out]
        clear Fin1 Fin2
        go_wp2
        go_ret2
        exact ⟨by rw [hF.out.1, hF.out.2]; rfl, hx1.out⟩
end Go.Proofs.YtlhnabkfacmmnaaDoor
