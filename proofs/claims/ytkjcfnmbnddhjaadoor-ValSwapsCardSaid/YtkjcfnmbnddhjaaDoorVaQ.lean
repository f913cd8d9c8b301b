/-
  Texts as lists of bytes; what is left of them without blanks. No program in sight.
-/
import Derived.Test.YtkjcfnmbnddhjaaDoorVaP
import Derived.Lib.Strings
namespace Go.Proofs.YtkjcfnmbnddhjaaDoor
set_option linter.unusedVariables false
set_option linter.unusedSimpArgs false
def bOf (x : Int) : UInt8 := UInt8.ofNat x.toNat
theorem bOf_val (x : Int) (h0 : 0 ≤ x) (h1 : x ≤ 255) : ((bOf x).toNat : Int) = x := by
  unfold bOf
  rw [UInt8.toNat_ofNat']
  omega
def bth (l : List UInt8) (k : Nat) : Int := ((l.getD k 0).toNat : Int)
theorem bth_in (l : List UInt8) (k : Nat) : 0 ≤ bth l k ∧ bth l k ≤ 255 := by unfold bth; have := (l.getD k 0).toNat_lt; omega
/-- Bytes as a string (closed to simp). -/
def strB (l : List UInt8) : ByteArray := ⟨l.toArray⟩
theorem strB_toList (l : List UInt8) : (strB l).toList = l := by rw [ByteArray.toList_eq]; rfl
theorem strB_id (s : ByteArray) : strB s.toList = s := by rw [ByteArray.toList_eq]; rfl
theorem strB_size (l : List UInt8) : (strB l).size = l.length := by simp [strB, ByteArray.size]
theorem strB_add (a b : List UInt8) : strB a ++ strB b = strB (a ++ b) := by
  apply ByteArray.ext
  simp [strB]
theorem len_toList (s : ByteArray) : s.toList.length = s.size := by rw [ByteArray.toList_eq]; rfl
theorem byte_at (s : ByteArray) {k : Nat} (hlt : k < s.size) : ((s[k]'hlt).toNat : Int) = bth s.toList k := by
  have hk' : k < s.data.size := hlt
  simp only [bth, List.getD, ByteArray.toList_eq, Array.getElem?_toList]
  rw [show s.data[k]? = some s.data[k] by simp [hk']]
  rfl
theorem ext_str (s : ByteArray) (a b : Nat) : s.extract a b = strB ((s.toList.drop a).take (b - a)) := by
  rw [Lib.extract_eq, ByteArray.toList_eq]
  rfl
theorem ext_list (s : ByteArray) (a b : Nat) : (s.extract a b).toList = (s.toList.drop a).take (b - a) := by rw [ext_str, strB_toList]
theorem str_ext {s t : ByteArray} (h : s.toList = t.toList) : s = t := by rw [← strB_id s, h, strB_id]
theorem add_list (s t : ByteArray) : (s ++ t).toList = s.toList ++ t.toList := by
  rw [← strB_id s, ← strB_id t, strB_add, strB_toList, strB_toList, strB_toList]
theorem empty_list : ByteArray.empty.toList = [] := by rw [ByteArray.toList_eq]; rfl
theorem str_nil {s : ByteArray} (h : s.size = 0) : s = { data := #[] } := by
  apply str_ext
  have : s.toList = [] := List.eq_nil_of_length_eq_zero (by rw [len_toList]; exact h)
  rw [this]
  exact empty_list.symm
/-- Without the bytes c at the end, at the begin. -/
def trR (l : List UInt8) (c : Int) : List UInt8 := (l.reverse.dropWhile fun b => decide ((b.toNat : Int) = c)).reverse
def trL (l : List UInt8) (c : Int) : List UInt8 := l.dropWhile fun b => decide ((b.toNat : Int) = c)
def trimR (s : ByteArray) (c : Int) : ByteArray := strB (trR s.toList c)
def trimL (s : ByteArray) (c : Int) : ByteArray := strB (trL s.toList c)
theorem trR_snoc (l : List UInt8) (b : UInt8) (c : Int) : trR (l ++ [b]) c = if (b.toNat : Int) = c then trR l c else l ++ [b] := by
  unfold trR
  rw [List.reverse_append]
  by_cases h : (b.toNat : Int) = c
  · simp [List.dropWhile, h]
  · simp [List.dropWhile, h]
theorem take_snoc {l : List UInt8} {k : Nat} (hk : k < l.length) : l.take (k + 1) = l.take k ++ [l.getD k 0] := by
  rw [List.take_succ_eq_append_getElem hk]
  simp [List.getD, hk]
theorem trim_take (s : ByteArray) (c : Int) {k : Nat} (hk : k < s.size) : trimR (s.extract 0 (k + 1)) c = if bth s.toList k = c then trimR (s.extract 0 k) c else s.extract 0 (k + 1) := by
  have hk' : k < s.toList.length := by rw [len_toList]; exact hk
  unfold trimR
  rw [ext_list, ext_list, List.drop_zero, Nat.sub_zero, Nat.sub_zero, take_snoc hk', trR_snoc]
  by_cases h : bth s.toList k = c
  · rw [if_pos h, if_pos (show ((s.toList.getD k 0).toNat : Int) = c from h)]
  · rw [if_neg h, if_neg (show ¬ ((s.toList.getD k 0).toNat : Int) = c from h), ext_str, List.drop_zero, Nat.sub_zero, take_snoc hk']
theorem trim_nil (s : ByteArray) (c : Int) : trimR (s.extract 0 0) c = s.extract 0 0 := by
  unfold trimR
  rw [ext_list, ext_str]
  simp [trR]
theorem ext_all (s : ByteArray) : s.extract 0 s.size = s := by
  apply str_ext
  rw [ext_list, List.drop_zero, Nat.sub_zero, ← len_toList, List.take_length]
theorem trim_last (t : ByteArray) (c : Int) {j : Nat} (hj : t.size = j + 1) : (bth t.toList j = c → trimR (t.extract 0 j) c = trimR t c) ∧ (bth t.toList j ≠ c → trimR t c = t) := by
  have h := trim_take t c (k := j) (by omega)
  rw [← hj, ext_all] at h
  refine ⟨fun e => ?_, fun e => ?_⟩
  · rw [h, if_pos e]
  · rw [h, if_neg e]
theorem trim_none (t : ByteArray) (c : Int) (h : t.size = 0) : trimR t c = t := by
  have : t.toList = [] := List.eq_nil_of_length_eq_zero (by rw [len_toList]; exact h)
  unfold trimR
  rw [this]
  apply str_ext
  rw [strB_toList, this]
  rfl
theorem triml_first (t : ByteArray) (c : Int) (h : 0 < t.size) : (bth t.toList 0 = c → trimL (t.extract 1 t.size) c = trimL t c) ∧ (bth t.toList 0 ≠ c → trimL t c = t) := by
  have hl : t.toList ≠ [] := by intro e; have := len_toList t; rw [e] at this; simp at this; omega
  obtain ⟨b, l, hbl⟩ := List.exists_cons_of_ne_nil hl
  have hz : l.length + 1 = t.size := by rw [← len_toList, hbl]; rfl
  have hb : bth t.toList 0 = (b.toNat : Int) := by rw [hbl]; rfl
  rw [hb]
  unfold trimL
  rw [ext_list, hbl]
  refine ⟨fun e => ?_, fun e => ?_⟩
  · have : List.take (t.size - 1) (List.drop 1 (b :: l)) = l := by rw [List.drop_succ_cons, List.drop_zero]; exact List.take_of_length_le (by omega)
    rw [this]
    simp [trL, List.dropWhile, e]
  · apply str_ext
    rw [strB_toList, hbl]
    simp [trL, List.dropWhile, e]
theorem triml_none (t : ByteArray) (c : Int) (h : t.size = 0) : trimL t c = t := by
  have : t.toList = [] := List.eq_nil_of_length_eq_zero (by rw [len_toList]; exact h)
  unfold trimL
  rw [this]
  apply str_ext
  rw [strB_toList, this]
  rfl
end Go.Proofs.YtkjcfnmbnddhjaaDoor
