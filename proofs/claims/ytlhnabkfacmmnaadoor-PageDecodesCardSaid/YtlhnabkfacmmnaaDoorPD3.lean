/-
  One page of characters, copied out of all; which bytes are characters: the program and the reference.
-/
import Derived.Test.YtlhnabkfacmmnaaDoorPD2
import Derived.Deep.Cut
namespace Go.Proofs.YtlhnabkfacmmnaaDoor
open Go.RowKit
set_option linter.unusedVariables false
set_option linter.unusedSimpArgs false
attribute [local go_sem] conv_new
theorem i32s_congr {f g : Nat → Int} {n : Nat} (h : ∀ i, i < n → f i = g i) : i32s f n = i32s g n := by
  unfold i32s
  exact List.map_congr_left fun i hi => by rw [h i (List.mem_range.1 hi)]
theorem i32s_part (f : Nat → Int) (o m n : Nat) (h : o + m ≤ n) : (i32s f n).toArray.extract o (o + m) = (i32s (fun i => f (o + i)) m).toArray := by
  apply Array.ext'
  apply List.ext_getElem?
  intro i
  have e1 : ((i32s f n).toArray.extract o (o + m)).toList = ((i32s f n).drop o).take m := by simp
  rw [e1, List.getElem?_take]
  by_cases hi : i < m
  · rw [if_pos hi, List.getElem?_drop, i32s_at f (by omega)]
    exact (i32s_at (fun i => f (o + i)) hi).symm
  · rw [if_neg hi]
    symm
    apply List.getElem?_eq_none
    show (i32s _ m).length ≤ i
    rw [i32s_len]
    omega
theorem pg_row (p : Nat) : i32s (fun i => pgAll (p * 256 + i)) 256 = i32s (chS p) 256 := i32s_congr fun i hi => by
  unfold pgAll
  rw [show (p * 256 + i) / 256 = p by omega, show (p * 256 + i) % 256 = i by omega]
theorem idx_page {p : Nat} (hp : p ≤ 2) (w : World) : (Instr.index 34 (.agg (i32s pgAll 768).toArray) (.int .i64 (p : Int))).run Tryd.prog w = .ok (.agg (i32s (chS p) 256).toArray) w := by
  have hk' : (p : Int) < 3 := by omega
  have hu := Tryd.underlying34
  have he := i32s_part pgAll (p * 256) 256 768 (by omega)
  rw [pg_row] at he
  rw [← he]
  have hk2 : p < 3 := by omega
  simp [Instr.index, part, go_sem, hu, hk', hk2]
theorem zero33 (w : World) : (zeroValue 33).run Tryd.prog w = .ok (.agg (zer 256)) w := by
  have h : (Tryd.prog.info? 33).map (·.zero) = some (some (.agg (zer 256))) := by kernel_rfl
  cases hq : Tryd.prog.info? 33 with
  | none => rw [hq] at h; cases h
  | some i =>
    rw [hq] at h
    simp at h
    simp [zeroValue, typeInfo, hq, h]
/-- The page p lies in a block of its own. -/
def putP (w : World) (p : Nat) : World := (w.alloc (.cells (zer 256) 33)).setCells w.heap.size 0 (i32s (chS p) 256).toArray.toList
theorem putP_there (w : World) (p : Nat) : (w.alloc (.cells (zer 256) 33)).there w.heap.size 0 (i32s (chS p) 256).toArray.size := by
  rw [show (i32s (chS p) 256).toArray.size = 256 by simp [i32s_len]]
  exact (Bi.new w _ 256 _).there
theorem putP_info (p : Nat) : (Tryd.prog.info? 33).map (·.size) = some (i32s (chS p) 256).toArray.size := by rw [show (i32s (chS p) 256).toArray.size = 256 by simp [i32s_len]]; exact info58
theorem putP_one (p : Nat) : (i32s (chS p) 256).toArray.all (·.oneCell') = true := all_oneCell_toArray (i32s_one _ 256)
theorem putP_bi (w : World) (p : Nat) : Bi (putP w p) w.heap.size 256 (chS p) := by
  refine fun k hk => ⟨?_, ?_⟩
  · have := World.rangeAt_setCells_same (w.alloc (.cells (zer 256) 33)) w.heap.size 0 (i32s (chS p) 256).toArray.toList (by simpa using putP_there w p) k (.int .i32 (chS p k)) (by simpa using i32s_at (chS p) hk)
    rwa [Nat.zero_add] at this
  · unfold putP
    rw [World.frozen?_setCells]
    exact ((Bi.new w (fun _ => 0) 256 33) k hk).2
theorem putP_ext (w : World) (p : Nat) : Ext w (putP w p) := Ext.sets w.heap.size (Nat.le_refl _) _ 0 _ ((Ext.refl w).alloc_right _)
/-! ### Which bytes are characters -/
def okS (p : Nat) (b : UInt8) : Bool := decide (0 ≤ chS p b.toNat)
def vl (p : Nat) (l : List UInt8) : Bool := l.all (okS p)
theorem vl_no {p : Nat} {l : List UInt8} {k : Nat} (hk : k < l.length) (h : chS p (l[k]).toNat < 0) : vl p l = false := by
  unfold vl
  rw [List.all_eq_false]
  exact ⟨l[k], List.getElem_mem hk, by simp [okS]; omega⟩
theorem vl_succ {p : Nat} {l : List UInt8} {k : Nat} (hk : k < l.length) (h : vl p (l.take k) = true) (h2 : 0 ≤ chS p (l[k]).toNat) : vl p (l.take (k + 1)) = true := by
  unfold vl at *
  rw [List.take_succ_eq_append_getElem hk, List.all_append, h]
  simpa [okS] using h2
theorem bth_nat {l : List UInt8} {k : Nat} (hk : k < l.length) : bth l k = ((l[k]).toNat : Int) := by simp [bth, List.getD, hk]
def okB (p : Int) (s : ByteArray) (b : Bool) : Bool := if askE p [s] = 0 then b else false
def GiveBE (b : Bool) (y : Int) (w : World) (e : Ending) (w' : World) : Prop := e = .returned (.tuple #[.bool b, .int .i64 y]) ∧ Ext w w'
theorem pg_nat {p : Int} (h : Pg p) : ∃ q : Nat, p = q ∧ q ≤ 2 := by
  unfold Pg at h
  exact ⟨p.toNat, by omega, by omega⟩
set_option maxRecDepth 100000 in
set_option maxHeartbeats 4000000 in
theorem Valid_any (s : ByteArray) (p : Int) (w : World) : Calls Tryd.prog 11 #[.string s, .int .i64 p] w (GiveBE (okB p s (vl p.toNat s.toList)) (askE p [s]) w) := by
  by_cases h : askE p [s] = 0
  rotate_left
  · have e1 : (askE p [s] != 0) = true := by simp [h]
    have Fin : Hid (okB p s (vl p.toNat s.toList) = false) := if_neg h
    clear h
    go_enter Tryd.func11, Tryd.ntmps11
    go_wp2_with fail
    refine (asked_any p _ _ _ [s] _ (RdS.new1 w s _)).mono ?_
    rintro e w1 ⟨rfl, rfl⟩
    go_wp2
    go_ret2
    exact ⟨by rw [Fin.out]; rfl, (Ext.refl w).alloc_right _⟩
  · have e1 : (askE p [s] != 0) = false := by simp [h]
    have Fin : Hid (okB p s (vl p.toNat s.toList) = vl p.toNat s.toList) := if_pos h
    have Fin2 := hid h
    have ho := ask_ok h
    obtain ⟨q, rfl, hq⟩ := pg_nat ho.2
    have hsz := ho.1
    rw [Int.toNat_natCast] at Fin ⊢
    have hlen : Hid (s.toList.length = s.size) := by unfold Hid; rw [ByteArray.toList_eq]; rfl
    clear ho h
    go_enter Tryd.func11, Tryd.ntmps11
    go_wp2_with fail
    refine (asked_any q _ _ _ [s] _ (RdS.new1 w s _)).mono ?_
    rintro e w1 ⟨rfl, rfl⟩
    have hx1 := hid ((Ext.refl w).alloc_right (.cells #[.string s] 9))
    generalize w.alloc (.cells #[.string s] 9) = w1 at *
    go_wp2_with fail
    refine (pages_any _).mono ?_
    rintro e w2 ⟨rfl, hx2⟩
    have hx2 := hid (hx1.out.trans hx2)
    clear hx1
    have hidx := idx_page hq w2
    have hth := hid (putP_there w2 q)
    have hin := hid (putP_info q)
    have h1c := hid (putP_one q)
    go_upto_region 5 with (first | (with_reducible refine wpList_alloc rfl rfl zero33 ?_) | (refine wpList_store_mid rfl 33 (.tmp 7) (.tmp 19) rfl w2.heap.size 0 (i32s (chS q) 256).toArray rfl rfl hth.out hin.out h1c.out ?_))
    have hB3 := hid (putP_bi w2 q)
    have hx3 := hid (hx2.out.trans (putP_ext w2 q))
    unfold putP at hB3 hx3
    clear hx2 hth hin h1c hidx
    generalize (w2.alloc (.cells (zer 256) 33)).setCells w2.heap.size 0 (i32s (chS q) 256).toArray.toList = w3 at *
    generalize w2.heap.size = g at *
    have hcap := capB_in w3 s (by omega)
    have hB := hid (newB_bk w3 s)
    have hE := hid (newB_ext w3 s)
    have hg : w3.heap.size < (newB w3 s).heap.size := by simp [newB]
    go_wp2
    go_loopw [23] (fun i wr => (∃ k : Nat, k ≤ s.size ∧ i = .int .i64 k ∧ Hid (vl q (s.toList.take k) = true)) ∧ wr = newB w3 s) (fun i _ => s.size - (intOf i).toNat)
    case atStart => exact ⟨⟨0, by omega, rfl, rfl⟩, rfl⟩
    case round =>
      obtain ⟨⟨k, hk, rfl, hv⟩, rfl⟩ := hrel
      by_cases hlt : k < s.size
      · have hlt' : k < s.toList.length := by rw [hlen.out]; exact hlt
        have hc := (hB.out.2 k hlt).1
        have hbn := bth_nat hlt'
        have hx256 : (s.toList[k]).toNat < 256 := (s.toList[k]).toNat_lt
        have hno := hid (fun h => vl_no (p := q) hlt' h)
        have hsu := hid (fun h => vl_succ (p := q) hlt' hv.out h)
        rw [hbn] at hc
        clear hbn
        generalize (s.toList[k]).toNat = x at *
        have hcx := (hB3.out.ext hE.out x hx256).1
        have lx : (x : Int) < 256 := by omega
        clear hlt'
        by_cases h0 : chS q x < 0
        · have d1 : decide (chS q x < 0) = true := by simpa using h0
          have hf := hid (hno.out h0)
          clear h0
          go_wp2
          go_ret2
          exact ⟨by rw [Fin.out, hf.out, Fin2.out]; rfl, hx3.out.trans hE.out⟩
        · have d1 : decide (chS q x < 0) = false := by simpa using h0
          have hv2 := hid (hsu.out (by omega))
          clear h0
          go_wp2
          go_roundw
          case rel => exact ⟨⟨k + 1, by omega, by go_num, hv2⟩, by trivial⟩
          case measure => simp [intOf] <;> omega
      · obtain rfl : k = s.size := by omega
        have hf : Hid (vl q s.toList = true) := by
          have := hv.out
          rw [← hlen.out, List.take_length] at this
          exact this
        go_wp2
        go_ret2
        exact ⟨by rw [Fin.out, hf.out, Fin2.out]; rfl, hx3.out.trans hE.out⟩
theorem byte_nat (s : ByteArray) {k : Nat} (hlt : k < s.size) (hlt' : k < s.toList.length) : (s.toList[k]'hlt') = s[k]'hlt := by
  have e : s.toList = s.data.toList := ByteArray.toList_eq s
  have h : s.toList[k]? = s.data.toList[k]? := by rw [e]
  rw [List.getElem?_eq_getElem hlt', Array.getElem?_toList, Array.getElem?_eq_getElem (show k < s.data.size from hlt)] at h
  exact Option.some.inj h
set_option maxRecDepth 100000 in
set_option maxHeartbeats 4000000 in
theorem rValid_any (s : ByteArray) (p : Int) (w : World) : Calls Tryd.prog 12 #[.string s, .int .i64 p] w (GiveBE (okB p s (vl p.toNat s.toList)) (askE p [s]) w) := by
  by_cases h : askE p [s] = 0
  rotate_left
  · have e1 : (askE p [s] != 0) = true := by simp [h]
    have Fin : Hid (okB p s (vl p.toNat s.toList) = false) := if_neg h
    clear h
    go_enter Tryd.func12, Tryd.ntmps12
    go_wp2_with fail
    refine (rasked_any 2048 _ _ _ [s] 0 _ _ _ [p] _ ((RdS.new1 w s 9).alloc (.cells #[.int .i64 p] 3)) (RdI.new1b w (.cells #[.string s] 9) p 3)).mono ?_
    rintro e w1 ⟨rfl, rfl⟩
    rw [askR_E]
    go_wp2
    go_ret2
    exact ⟨by rw [Fin.out]; rfl, ((Ext.refl w).alloc_right _).alloc_right _⟩
  · have e1 : (askE p [s] != 0) = false := by simp [h]
    have Fin : Hid (okB p s (vl p.toNat s.toList) = vl p.toNat s.toList) := if_pos h
    have Fin2 := hid h
    have ho := ask_ok h
    obtain ⟨q, rfl, hq⟩ := pg_nat ho.2
    have hsz := ho.1
    rw [Int.toNat_natCast] at Fin ⊢
    have hlen : Hid (s.toList.length = s.size) := by unfold Hid; rw [ByteArray.toList_eq]; rfl
    clear ho h
    go_enter Tryd.func12, Tryd.ntmps12
    go_wp2_with fail
    refine (rasked_any 2048 _ _ _ [s] 0 _ _ _ [(q : Int)] _ ((RdS.new1 w s 9).alloc (.cells #[.int .i64 (q : Int)] 3)) (RdI.new1b w (.cells #[.string s] 9) (q : Int) 3)).mono ?_
    rintro e w1 ⟨rfl, rfl⟩
    rw [askR_E]
    have hx1 := hid (((Ext.refl w).alloc_right (.cells #[.string s] 9)).alloc_right (.cells #[.int .i64 (q : Int)] 3))
    generalize (w.alloc (.cells #[.string s] 9)).alloc (.cells #[.int .i64 (q : Int)] 3) = w1 at *
    go_wp2_with fail
    go_loop [7] (fun i => ∃ k : Nat, k ≤ s.size ∧ i = .int .i64 k ∧ Hid (vl q (s.toList.take k) = true)) (fun i => s.size - (intOf i).toNat)
    case atStart => exact ⟨0, by omega, rfl, rfl⟩
    case round =>
      obtain ⟨k, hk, rfl, hv⟩ := hrel
      by_cases hlt : k < s.size
      · have hlt' : k < s.toList.length := by rw [hlen.out]; exact hlt
        have hx256 : (s[k]).toNat < 256 := (s[k]).toNat_lt
        have hno := hid (fun h => vl_no (p := q) hlt' h)
        have hsu := hid (fun h => vl_succ (p := q) hlt' hv.out h)
        rw [byte_nat s hlt hlt'] at hno hsu
        clear hlt'
        by_cases h0 : 0 ≤ chS q (s[k]).toNat
        · have d1 : decide (0 ≤ chS q (s[k]).toNat) = true := by simpa using h0
          have hv2 := hid (hsu.out h0)
          clear h0
          go_wp2_with fail
          refine (char_any (s[k]).toNat q hx256 hq _).mono ?_
          rintro e w' ⟨rfl, rfl⟩
          go_wp2
          go_round
          case rel => exact ⟨k + 1, by omega, by go_num, hv2⟩
          case measure => simp [intOf] <;> omega
        · have d1 : decide (0 ≤ chS q (s[k]).toNat) = false := by simpa using h0
          have hf := hid (hno.out (by omega))
          clear h0
          go_wp2_with fail
          refine (char_any (s[k]).toNat q hx256 hq _).mono ?_
          rintro e w' ⟨rfl, rfl⟩
          go_wp2
          go_ret2
          exact ⟨by rw [Fin.out, hf.out, Fin2.out]; rfl, hx1.out⟩
      · obtain rfl : k = s.size := by omega
        have hf : Hid (vl q s.toList = true) := by
          have := hv.out
          rw [← hlen.out, List.take_length] at this
          exact this
        go_wp2
        go_ret2
        exact ⟨by rw [Fin.out, hf.out, Fin2.out]; rfl, hx1.out⟩
end Go.Proofs.YtlhnabkfacmmnaaDoor
