/-
  Strings as bytes: '[]byte(s)', a byte stored, 'string(b)'; the weights of a text.
-/
import Derived.Test.YtlhnabkfacmmnaaPg2
import Derived.Laws.IdiomStrings
namespace Go.Proofs.Ytlhnabkfacmmnaa
open Go.RowKit
set_option linter.unusedVariables false
set_option linter.unusedSimpArgs false

def byt (b : UInt8) : Value := .int .u8 (b.toNat : Int)
def bytesC (l : List UInt8) : List Value := l.map byt
def RdB (w : World) (A : Option Addr) (n c : Nat) (l : List UInt8) : Prop := Rd w 1 A n c (bytesC l)
theorem RdB.len {w : World} {A : Option Addr} {n c : Nat} {l : List UInt8} (h : RdB w A n c l) : l.length = n := by have := h.1; simpa [bytesC] using this
theorem RdB.ext {w w' : World} {A : Option Addr} {n c : Nat} {l : List UInt8} (h : RdB w A n c l) (hb : Ext w w') : RdB w' A n c l := Rd.ext h hb
def bOf (x : Int) : UInt8 := UInt8.ofNat x.toNat
theorem bOf_val (x : Int) (h0 : 0 ≤ x) (h1 : x ≤ 255) : ((bOf x).toNat : Int) = x := by
  unfold bOf
  rw [UInt8.toNat_ofNat']
  omega
def bth (l : List UInt8) (k : Nat) : Int := ((l.getD k 0).toNat : Int)
theorem bth_in (l : List UInt8) (k : Nat) : 0 ≤ bth l k ∧ bth l k ≤ 255 := by unfold bth; have := (l.getD k 0).toNat_lt; omega
/-- Bytes as a string (closed to simp). -/
def strB (l : List UInt8) : ByteArray := ⟨l.toArray⟩
theorem strB_toList (l : List UInt8) : (strB l).toList = l := by rw [ByteArray.toList_eq]; rfl
/-- Block g holds the bytes l, and they may be written. -/
def Bk (w : World) (g n : Nat) (l : List UInt8) : Prop := l.length = n ∧ ∀ j, j < n → w.cell? ⟨g, j, none⟩ = some (.int .u8 (bth l j)) ∧ w.frozen? ⟨g, j, none⟩ = false
theorem Bk.ext {w w' : World} {g n : Nat} {l : List UInt8} (h : Bk w g n l) (hb : Ext w w') : Bk w' g n l := ⟨h.1, fun j hj => ⟨hb.cell (h.2 j hj).1, by rw [hb.frozen (World.block_lt_of_cell? w _ (h.2 j hj).1)]; exact (h.2 j hj).2⟩⟩
theorem Bk.set {w : World} {g n : Nat} {l : List UInt8} (h : Bk w g n l) {k : Nat} (hk : k < n) (x : Int) (h0 : 0 ≤ x) (h1 : x ≤ 255) : Bk (w.setCell ⟨g, k, none⟩ (.int .u8 x)) g n (l.set k (bOf x)) := by
  refine ⟨by rw [List.length_set]; exact h.1, fun j hj => ⟨?_, by rw [World.frozen?_setCell]; exact (h.2 j hj).2⟩⟩
  have hl := h.1
  by_cases e : j = k
  · subst e
    rw [World.cell?_setCell_same _ _ _ (h.2 j hj).1]
    simp [bth, List.getD, hl, hj, bOf_val x h0 h1]
  · rw [World.cell?_setCell_other _ _ _ _ (by intro e'; injection e' with _ e' _; exact e e'.symm), (h.2 j hj).1]
    simp [bth, List.getD, List.getElem?_set, Ne.symm e]
theorem Bk.rd {w : World} {g n c : Nat} {l : List UInt8} (h : Bk w g n l) (hc : n ≤ c) (hm : c ≤ maxLen) : RdB w (some ⟨g, 0, none⟩) n c l := by
  refine ⟨by simp [bytesC]; exact h.1, hc, hm, fun _ => ⟨_, rfl, fun j u hu => ?_⟩⟩
  have hj : j < n := by have := (List.getElem?_eq_some_iff.1 hu).1; simp [bytesC] at this; have := h.1; omega
  have hadd : (⟨g, 0, none⟩ : Addr).add j = ⟨g, j, none⟩ := by unfold Addr.add; split <;> simp_all
  have hl := h.1
  rw [hadd, (h.2 j hj).1, ← hu]
  simp [bytesC, byt, bth, List.getD, hl, hj]
def capB (w : World) (s : ByteArray) : Nat := grownCap w s.size 0 5
def newB (w : World) (s : ByteArray) : World := w.drew.alloc (.cells (bytesRow s (capB w s)) 5 ((bytesRow s (capB w s)).size, (bytesRow s (capB w s)).size + 1))
theorem conv_new (w : World) (s : ByteArray) : (convert 9 44 (.string s)).run Try.prog w = .ok (.slice (some ⟨w.heap.size, 0, none⟩) s.size (capB w s)) (newB w s) :=
  run_bytes_of_string w 9 44 5 s Try.underlying9 Try.underlying44 Try.underlying5
theorem newB_ext (w : World) (s : ByteArray) : Ext w (newB w s) := Ext.alloc_right ((Ext.refl w).drew_right) _
theorem capB_in (w : World) (s : ByteArray) (h : s.size ≤ 1000000) : s.size ≤ capB w s ∧ capB w s ≤ maxLen := ⟨grownCap_ge _ _ _ _, grownCap_le_maxLen _ _ _ _ (by unfold maxLen; omega)⟩
theorem newB_bk (w : World) (s : ByteArray) : Bk (newB w s) w.heap.size s.size s.toList := by
  have hb : (newB w s).heap[w.heap.size]? = some (.cells (bytesRow s (capB w s)) 5 ((bytesRow s (capB w s)).size, (bytesRow s (capB w s)).size + 1)) := heap_alloc_new w.drew _
  have hc := grownCap_ge w s.size 0 5
  have hsz : s.toList.length = s.size := by rw [ByteArray.toList_eq]; rfl
  have hrow : s.size ≤ (bytesRow s (capB w s)).size := by unfold bytesRow; rw [Array.size_append, Array.size_map]; exact Nat.le_add_right _ _
  refine ⟨hsz, fun j hj => ⟨?_, ?_⟩⟩
  · rw [cell_of_row _ w.heap.size j _ 5 _ hb]
    have hj' : j < s.data.size := hj
    unfold bytesRow
    rw [Array.getElem?_append_left (by rw [Array.size_map]; exact hj'), Array.getElem?_map]
    simp [bth, List.getD, ByteArray.toList_eq]
    have hd : s.data[j]? = some s.data[j] := by simp [hj']
    exact ⟨s.data[j], hd, by rw [hd]; rfl⟩
  · unfold World.frozen?
    rw [hb]
    simp
    intro h
    omega
attribute [local go_sem] conv_new
theorem conv_RdB {w : World} {A : Option Addr} {n c : Nat} {l : List UInt8} (h : RdB w A n c l) : (convert 44 9 (.slice A n c)).run Try.prog w = .ok (.string (strB l)) w := by
  have hl := h.len
  rcases A with _ | ad
  · have h0 : n = 0 := by
      rcases Nat.eq_zero_or_pos n with h0 | h0
      · exact h0
      · obtain ⟨ad, e, _⟩ := h.2.2.2 h0
        cases e
    subst h0
    have : l = [] := List.eq_nil_of_length_eq_zero hl
    subst this
    exact run_convert_bytes_nil w 44 5 Try.underlying44 Try.underlying5 0 c 9 Try.underlying9
  · subst hl
    exact run_convert_bytes_back w 44 9 5 ad c l Try.underlying44 Try.underlying5 Try.underlying9 (fun j hj => by
      obtain ⟨ad', e, hc⟩ := h.2.2.2 (by omega)
      injection e with e
      subst e
      refine hc j _ ?_
      simp [bytesC, byt, hj])
/-- The first k bytes turned by f. -/
def mpTo (f : Int → Int) (l : List UInt8) (k : Nat) : List UInt8 := (l.take k).map (fun b => bOf (f (b.toNat : Int))) ++ l.drop k
theorem mpTo_at (f : Int → Int) (l : List UInt8) (k : Nat) (hk : k < l.length) : bth (mpTo f l k) k = bth l k := by
  simp [mpTo, bth, List.getD, List.getElem?_append_right, Nat.min_eq_left (Nat.le_of_lt hk)]
theorem mpTo_succ (f : Int → Int) (l : List UInt8) (k : Nat) (hk : k < l.length) : (mpTo f l k).set k (bOf (f (bth l k))) = mpTo f l (k + 1) := by
  unfold mpTo
  rw [List.set_append_right _ _ (by simp; omega), List.take_succ_eq_append_getElem hk, List.map_append]
  simp only [List.length_map, List.length_take, Nat.min_eq_left (Nat.le_of_lt hk), Nat.sub_self]
  rw [List.drop_eq_getElem_cons hk, List.set_cons_zero, List.append_assoc]
  simp [bth, List.getD, hk]
def mapS (f : Int → Int) (s : ByteArray) : ByteArray := strB (s.toList.map fun b => bOf (f (b.toNat : Int)))
theorem mpTo_all (f : Int → Int) (l : List UInt8) : mpTo f l l.length = l.map fun b => bOf (f (b.toNat : Int)) := by simp [mpTo]

theorem plain_rng {x : Int} (h0 : 0 ≤ x) (h255 : x ≤ 255) : 0 ≤ plainS x ∧ plainS x ≤ 255 := by
  unfold plainS
  repeat' split
  all_goals omega
theorem weight_rng {x p c : Int} (hp : Pg p) (h0 : 0 ≤ x) (h255 : x ≤ 255) : 0 ≤ weightS x p c ∧ weightS x p c ≤ 255 := by
  have hu := upS_rng (p := p) h0 h255
  have hq := plain_rng hu.1 hu.2
  unfold weightS
  repeat' split
  all_goals omega

set_option maxRecDepth 100000 in
set_option maxHeartbeats 1000000 in
theorem weights_any (s : ByteArray) (p c : Int) (hp : Pg p) (hsz : s.size ≤ 1000000) (w : World) :
    Calls Try.prog 38 #[.string s, .int .i64 p, .int .i64 c] w fun e w' => e = .returned (.string (mapS (fun x => weightS x p c) s)) ∧ Ext w w' := by
  have hcap := capB_in w s hsz
  have hB := hid (newB_bk w s)
  have hE := hid (newB_ext w s)
  have hlen : Hid (s.toList.length = s.size) := hB.out.1
  have hg : w.heap.size < (newB w s).heap.size := by simp [newB]
  have hfin := hid (mpTo_all (fun x => weightS x p c) s.toList)
  go_enter Try.func38, Try.ntmps38
  go_wp2_with fail
  go_loopw [14] (fun i wr => ∃ k : Nat, k ≤ s.size ∧ i = .int .i64 k ∧ Hid (Bk wr w.heap.size s.size (mpTo (fun x => weightS x p c) s.toList k)) ∧ Hid (Ext w wr)) (fun i _ => s.size - (intOf i).toNat)
  case atStart => exact ⟨0, by omega, rfl, hB, hE⟩
  case round =>
    obtain ⟨k, hk, rfl, hb, hx⟩ := hrel
    by_cases hlt : k < s.size
    · have hlt' : k < s.toList.length := by rw [hlen.out]; exact hlt
      have hc := (hb.out.2 k hlt).1
      have hfree := (hb.out.2 k hlt).2
      rw [mpTo_at _ _ k hlt'] at hc
      have hr := bth_in s.toList k
      have hst := hid (mpTo_succ (fun x => weightS x p c) s.toList k hlt')
      clear hlt'
      go_wp2_with fail
      refine (weight_any _ _ _ hp _ hr.1 hr.2).mono ?_
      rintro e w' ⟨rfl, rfl⟩
      have hw := weight_rng (c := c) hp hr.1 hr.2
      have hb2 := hid (hb.out.set hlt (weightS (bth s.toList k) p c) hw.1 hw.2)
      have hx2 := hid (hx.out.set (p := ⟨w.heap.size, k, none⟩) (Nat.le_refl _) (.int .u8 (weightS (bth s.toList k) p c)))
      go_wp2
      go_roundw
      case rel => exact ⟨k + 1, by omega, by go_num, by rw [← hst.out]; exact hb2, hx2⟩
      case measure => simp [intOf]; omega
    · obtain rfl : k = s.size := by omega
      have hrd := hb.out.rd hcap.1 hcap.2
      have hcv := conv_RdB hrd
      rw [← hlen.out, hfin.out] at hcv
      rw [hlen.out] at hcv
      have hmap : strB (s.toList.map fun b => bOf (weightS (b.toNat : Int) p c)) = mapS (fun x => weightS x p c) s := rfl
      rw [hmap] at hcv
      clear hmap hrd
      go_wp2
      go_ret
      exact ⟨rfl, hx.out⟩
end Go.Proofs.Ytlhnabkfacmmnaa
