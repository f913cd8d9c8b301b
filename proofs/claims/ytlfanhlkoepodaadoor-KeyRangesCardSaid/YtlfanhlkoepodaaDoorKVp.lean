/-
  Contracts that were proved for another law's share, for this one.
-/
import Derived.Test.YtlfanhlkoepodaaDoorBase
import Derived.Lib.Strings
import Derived.Lib.ReplaceLaws
namespace Go.Proofs.YtlfanhlkoepodaaDoor

set_option linter.unusedVariables false
set_option linter.unusedSimpArgs false
def leapB (y : Int) : Bool := (y % 4 == 0) && ((y % 100 != 0) || (y % 400 == 0))
def leapN (y : Int) : Int := if leapB y then 1 else 0
def mdS (y m : Int) : Int := if m = 2 then 28 + leapN y else if m = 4 ∨ m = 6 ∨ m = 9 ∨ m = 11 then 30 else 31
def ydS (y : Int) : Int := 365 * (y - 1) + (y - 1) / 4 - (y - 1) / 100 + (y - 1) / 400
def cumS (y : Int) : Nat → Int
  | 0 => 0
  | k + 1 => cumS y k + mdS y ((k : Int) + 1)
def dayS (y m d : Int) : Int := ydS y + cumS y (m - 1).toNat + d
def okD (y m d : Int) : Prop := 1 ≤ y ∧ y ≤ 9999 ∧ 1 ≤ m ∧ m ≤ 12 ∧ 1 ≤ d ∧ d ≤ mdS y m
theorem leapN_in (y : Int) : 0 ≤ leapN y ∧ leapN y ≤ 1 := by unfold leapN; split <;> omega
theorem md_in (y m : Int) : 28 ≤ mdS y m ∧ mdS y m ≤ 31 := by
  have := leapN_in y
  unfold mdS
  repeat' split
  all_goals omega
theorem leap_succ (y : Int) (h : 1 ≤ y) : ydS (y + 1) = ydS y + 365 + leapN y := by
  unfold ydS leapN leapB
  by_cases h4 : y % 4 = 0
  · by_cases h100 : y % 100 = 0
    · by_cases h400 : y % 400 = 0
      · simp [h4, h100, h400]; omega
      · simp [h4, h100, h400]; omega
    · simp [h4, h100]; omega
  · simp [h4]; omega
theorem cum_12 (y : Int) : cumS y 12 = 365 + leapN y := by
  simp [cumS, mdS]
  omega
theorem cum_mono (y : Int) {a b : Nat} (h : a ≤ b) : cumS y a ≤ cumS y b := by
  induction b with
  | zero => have : a = 0 := by omega
            subst this; exact Int.le_refl _
  | succ b ih =>
    by_cases e : a = b + 1
    · subst e; exact Int.le_refl _
    · have := ih (by omega)
      have := md_in y ((b : Int) + 1)
      have e : cumS y (b + 1) = cumS y b + mdS y ((b : Int) + 1) := rfl
      rw [e]
      omega
theorem yd_mono {a b : Int} (h : a ≤ b) : ydS a ≤ ydS b := by unfold ydS; omega
theorem day_year {y m d : Int} (h : okD y m d) : ydS y < dayS y m d ∧ dayS y m d ≤ ydS (y + 1) := by
  obtain ⟨h1, h2, h3, h4, h5, h6⟩ := h
  have e := leap_succ y h1
  have c0 := cum_mono y (Nat.zero_le (m - 1).toNat)
  have c12 := cum_mono y (show (m - 1).toNat + 1 ≤ 12 by omega)
  rw [cum_12] at c12
  have e2 : cumS y ((m - 1).toNat + 1) = cumS y (m - 1).toNat + mdS y (((m - 1).toNat : Int) + 1) := rfl
  rw [show (((m - 1).toNat : Int) + 1) = m by omega] at e2
  have z : cumS y 0 = 0 := rfl
  unfold dayS
  omega
theorem day_inj {y m d y' m' d' : Int} (h : okD y m d) (h' : okD y' m' d') (e : dayS y m d = dayS y' m' d') : y = y' ∧ m = m' ∧ d = d' := by
  have a := day_year h
  have b := day_year h'
  have hy : y = y' := by
    rcases Int.lt_trichotomy y y' with q | q | q
    · have := yd_mono (show y + 1 ≤ y' by omega); omega
    · exact q
    · have := yd_mono (show y' + 1 ≤ y by omega); omega
  subst hy
  obtain ⟨h1, h2, h3, h4, h5, h6⟩ := h
  obtain ⟨_, _, k3, k4, k5, k6⟩ := h'
  have step : ∀ m : Int, 1 ≤ m → cumS y ((m - 1).toNat + 1) = cumS y (m - 1).toNat + mdS y m := by
    intro m hm
    have e2 : cumS y ((m - 1).toNat + 1) = cumS y (m - 1).toNat + mdS y (((m - 1).toNat : Int) + 1) := rfl
    rw [show (((m - 1).toNat : Int) + 1) = m by omega] at e2
    exact e2
  unfold dayS at e
  have hm : m = m' := by
    rcases Int.lt_trichotomy m m' with q | q | q
    · have c := cum_mono y (show (m - 1).toNat + 1 ≤ (m' - 1).toNat by omega)
      rw [step m h3] at c
      omega
    · exact q
    · have c := cum_mono y (show (m' - 1).toNat + 1 ≤ (m - 1).toNat by omega)
      rw [step m' k3] at c
      omega
  subst hm
  exact ⟨rfl, rfl, by omega⟩
theorem yd_1 : ydS 1 = 0 := by decide
theorem yd_10000 : ydS 10000 = 3652059 := by decide
theorem day_in {y m d : Int} (h : okD y m d) : 1 ≤ dayS y m d ∧ dayS y m d ≤ 3652059 := by
  have a := day_year h
  have b := yd_mono h.1
  have c := yd_mono (show y + 1 ≤ 10000 by have := h.2.1; omega)
  rw [yd_1] at b
  rw [yd_10000] at c
  omega
/-- The date of a day. -/
noncomputable def dateS (n : Int) : Int × Int × Int := by
  classical
  exact if h : ∃ t : Int × Int × Int, okD t.1 t.2.1 t.2.2 ∧ dayS t.1 t.2.1 t.2.2 = n then Classical.choose h else (0, 0, 0)
theorem date_eq {y m d n : Int} (h : okD y m d) (e : dayS y m d = n) : dateS n = (y, m, d) := by
  classical
  have hx : ∃ t : Int × Int × Int, okD t.1 t.2.1 t.2.2 ∧ dayS t.1 t.2.1 t.2.2 = n := ⟨(y, m, d), h, e⟩
  have hs := Classical.choose_spec hx
  have hd : dateS n = Classical.choose hx := by unfold dateS; rw [dif_pos hx]
  rw [hd]
  have := day_inj hs.1 h (by rw [hs.2, e])
  exact Prod.ext this.1 (Prod.ext this.2.1 this.2.2)
theorem guess_lt {n : Int} (h : 1 ≤ n) : ydS (n / 366 + 1) < n := by unfold ydS; omega
/-- The year of a day. -/
def YearOf (y n : Int) : Prop := 1 ≤ y ∧ y ≤ 9999 ∧ ydS y < n ∧ n ≤ ydS (y + 1)
def bOf (x : Int) : UInt8 := UInt8.ofNat x.toNat
theorem bOf_val (x : Int) (h0 : 0 ≤ x) (h1 : x ≤ 255) : ((bOf x).toNat : Int) = x := by
  unfold bOf
  rw [UInt8.toNat_ofNat']
  omega
def bth (l : List UInt8) (k : Nat) : Int := ((l.getD k 0).toNat : Int)
theorem bth_in (l : List UInt8) (k : Nat) : 0 ≤ bth l k ∧ bth l k ≤ 255 := by unfold bth; have := (l.getD k 0).toNat_lt; omega
/-- Bytes as a string (closed to simp). -/
def strB (l : List UInt8) : ByteArray := ⟨l.toArray⟩
theorem strB_toList (l : List UInt8) : (strB l).toList = l := by rw [ByteArray.toList_eq]; rfl
theorem strB_id (s : ByteArray) : strB s.toList = s := by rw [ByteArray.toList_eq]; rfl
theorem strB_size (l : List UInt8) : (strB l).size = l.length := by simp [strB, ByteArray.size]
theorem strB_add (a b : List UInt8) : strB a ++ strB b = strB (a ++ b) := by
  apply ByteArray.ext
  simp [strB]
theorem len_toList (s : ByteArray) : s.toList.length = s.size := by rw [ByteArray.toList_eq]; rfl
theorem byte_at (s : ByteArray) {k : Nat} (hlt : k < s.size) : ((s[k]'hlt).toNat : Int) = bth s.toList k := by
  have hk' : k < s.data.size := hlt
  simp only [bth, List.getD, ByteArray.toList_eq, Array.getElem?_toList]
  rw [show s.data[k]? = some s.data[k] by simp [hk']]
  rfl
theorem ext_str (s : ByteArray) (a b : Nat) : s.extract a b = strB ((s.toList.drop a).take (b - a)) := by
  rw [Lib.extract_eq, ByteArray.toList_eq]
  rfl
theorem ext_list (s : ByteArray) (a b : Nat) : (s.extract a b).toList = (s.toList.drop a).take (b - a) := by rw [ext_str, strB_toList]
theorem str_ext {s t : ByteArray} (h : s.toList = t.toList) : s = t := by rw [← strB_id s, h, strB_id]
theorem add_list (s t : ByteArray) : (s ++ t).toList = s.toList ++ t.toList := by
  rw [← strB_id s, ← strB_id t, strB_add, strB_toList, strB_toList, strB_toList]
theorem empty_list : ByteArray.empty.toList = [] := by rw [ByteArray.toList_eq]; rfl
theorem str_nil {s : ByteArray} (h : s.size = 0) : s = { data := #[] } := by
  apply str_ext
  have : s.toList = [] := List.eq_nil_of_length_eq_zero (by rw [len_toList]; exact h)
  rw [this]
  exact empty_list.symm
/-- Without the bytes c at the end, at the begin. -/
def trR (l : List UInt8) (c : Int) : List UInt8 := (l.reverse.dropWhile fun b => decide ((b.toNat : Int) = c)).reverse
def trL (l : List UInt8) (c : Int) : List UInt8 := l.dropWhile fun b => decide ((b.toNat : Int) = c)
def trimR (s : ByteArray) (c : Int) : ByteArray := strB (trR s.toList c)
def trimL (s : ByteArray) (c : Int) : ByteArray := strB (trL s.toList c)
theorem trR_snoc (l : List UInt8) (b : UInt8) (c : Int) : trR (l ++ [b]) c = if (b.toNat : Int) = c then trR l c else l ++ [b] := by
  unfold trR
  rw [List.reverse_append]
  by_cases h : (b.toNat : Int) = c
  · simp [List.dropWhile, h]
  · simp [List.dropWhile, h]
theorem take_snoc {l : List UInt8} {k : Nat} (hk : k < l.length) : l.take (k + 1) = l.take k ++ [l.getD k 0] := by
  rw [List.take_succ_eq_append_getElem hk]
  simp [List.getD, hk]
theorem trim_take (s : ByteArray) (c : Int) {k : Nat} (hk : k < s.size) : trimR (s.extract 0 (k + 1)) c = if bth s.toList k = c then trimR (s.extract 0 k) c else s.extract 0 (k + 1) := by
  have hk' : k < s.toList.length := by rw [len_toList]; exact hk
  unfold trimR
  rw [ext_list, ext_list, List.drop_zero, Nat.sub_zero, Nat.sub_zero, take_snoc hk', trR_snoc]
  by_cases h : bth s.toList k = c
  · rw [if_pos h, if_pos (show ((s.toList.getD k 0).toNat : Int) = c from h)]
  · rw [if_neg h, if_neg (show ¬ ((s.toList.getD k 0).toNat : Int) = c from h), ext_str, List.drop_zero, Nat.sub_zero, take_snoc hk']
theorem trim_nil (s : ByteArray) (c : Int) : trimR (s.extract 0 0) c = s.extract 0 0 := by
  unfold trimR
  rw [ext_list, ext_str]
  simp [trR]
theorem ext_all (s : ByteArray) : s.extract 0 s.size = s := by
  apply str_ext
  rw [ext_list, List.drop_zero, Nat.sub_zero, ← len_toList, List.take_length]
theorem trim_last (t : ByteArray) (c : Int) {j : Nat} (hj : t.size = j + 1) : (bth t.toList j = c → trimR (t.extract 0 j) c = trimR t c) ∧ (bth t.toList j ≠ c → trimR t c = t) := by
  have h := trim_take t c (k := j) (by omega)
  rw [← hj, ext_all] at h
  refine ⟨fun e => ?_, fun e => ?_⟩
  · rw [h, if_pos e]
  · rw [h, if_neg e]
theorem trim_none (t : ByteArray) (c : Int) (h : t.size = 0) : trimR t c = t := by
  have : t.toList = [] := List.eq_nil_of_length_eq_zero (by rw [len_toList]; exact h)
  unfold trimR
  rw [this]
  apply str_ext
  rw [strB_toList, this]
  rfl
theorem triml_first (t : ByteArray) (c : Int) (h : 0 < t.size) : (bth t.toList 0 = c → trimL (t.extract 1 t.size) c = trimL t c) ∧ (bth t.toList 0 ≠ c → trimL t c = t) := by
  have hl : t.toList ≠ [] := by intro e; have := len_toList t; rw [e] at this; simp at this; omega
  obtain ⟨b, l, hbl⟩ := List.exists_cons_of_ne_nil hl
  have hz : l.length + 1 = t.size := by rw [← len_toList, hbl]; rfl
  have hb : bth t.toList 0 = (b.toNat : Int) := by rw [hbl]; rfl
  rw [hb]
  unfold trimL
  rw [ext_list, hbl]
  refine ⟨fun e => ?_, fun e => ?_⟩
  · have : List.take (t.size - 1) (List.drop 1 (b :: l)) = l := by rw [List.drop_succ_cons, List.drop_zero]; exact List.take_of_length_le (by omega)
    rw [this]
    simp [trL, List.dropWhile, e]
  · apply str_ext
    rw [strB_toList, hbl]
    simp [trL, List.dropWhile, e]
theorem triml_none (t : ByteArray) (c : Int) (h : t.size = 0) : trimL t c = t := by
  have : t.toList = [] := List.eq_nil_of_length_eq_zero (by rw [len_toList]; exact h)
  unfold trimL
  rw [this]
  apply str_ext
  rw [strB_toList, this]
  rfl
def swL (a b : List UInt8) : List UInt8 → List UInt8
  | [] => []
  | x :: l => if h : a ≠ [] ∧ a.isPrefixOf (x :: l) = true then b ++ swL a b ((x :: l).drop a.length) else x :: swL a b l
termination_by l => l.length
decreasing_by
  · have := List.length_pos_iff.2 h.1
    rw [List.length_drop]
    simp
    omega
  · simp
variable {a b : List UInt8}
theorem swL_nil : swL a b [] = [] := by rw [swL]
theorem swL_hit {l : List UInt8} (ha : a ≠ []) (hl : l ≠ []) (h : a.isPrefixOf l = true) : swL a b l = b ++ swL a b (l.drop a.length) := by
  obtain ⟨x, t, rfl⟩ := List.exists_cons_of_ne_nil hl
  rw [swL, dif_pos ⟨ha, h⟩]
theorem swL_miss {x : UInt8} {l : List UInt8} (h : a.isPrefixOf (x :: l) = false) : swL a b (x :: l) = x :: swL a b l := by
  rw [swL, dif_neg (fun q => by rw [h] at q; cases q.2)]
theorem occ_zero (l : List UInt8) : Lib.occAt l a 0 = a.isPrefixOf l := by unfold Lib.occAt; rw [List.drop_zero]
theorem swL_skip : ∀ (i : Nat) (l : List UInt8), i ≤ l.length → Lib.NoOcc l a i → swL a b l = l.take i ++ swL a b (l.drop i)
  | 0, l, _, _ => by simp
  | i + 1, [], h, _ => by simp at h
  | i + 1, x :: l, h, hn => by
    have h0 := hn 0 (by omega)
    rw [occ_zero] at h0
    rw [swL_miss h0, swL_skip i l (by simpa using h) (fun j hj => by have := hn (j + 1) (by omega); simpa [Lib.occAt] using this)]
    simp
theorem swL_same : ∀ (n : Nat) (l : List UInt8), l.length ≤ n → swL a a l = l
  | 0, l, h => by
    have : l = [] := List.eq_nil_of_length_eq_zero (by omega)
    rw [this, swL_nil]
  | n + 1, [], _ => swL_nil
  | n + 1, x :: l, h => by
    by_cases hp : a ≠ [] ∧ a.isPrefixOf (x :: l) = true
    · rw [swL, dif_pos hp]
      have hl := List.length_pos_iff.2 hp.1
      rw [swL_same n _ (by rw [List.length_drop]; simp at h ⊢; omega)]
      have := List.prefix_iff_eq_append.1 (List.isPrefixOf_iff_prefix.1 hp.2)
      exact this
    · rw [swL, dif_neg hp, swL_same n l (by simpa using h)]
theorem rep_swL (ha : a ≠ []) : ∀ (n : Nat) (l : List UInt8), l.length ≤ n → Lib.replaceK a b (Lib.count l a) l = swL a b l
  | n, l, hn => by
    rcases Lib.index_spec l a with ⟨hi, hno⟩ | ⟨i, hi, hle, hoc, hno⟩
    · rw [Lib.count_miss hi]
      show l = _
      rw [swL_skip l.length l (Nat.le_refl _) (fun j hj => hno j (by omega)), List.take_length, List.drop_length, swL_nil, List.append_nil]
    · have hr := Lib.index_room l a (by omega)
      have hpos := List.length_pos_iff.2 ha
      rw [Lib.count_hit ha hi, Nat.add_comm 1, Lib.replaceK_hit a b _ l i hi, swL_skip i l hle hno]
      have hd : l.drop i ≠ [] := by
        intro e
        have := congrArg List.length e
        rw [List.length_drop] at this
        simp at this
        omega
      rw [swL_hit ha hd (by unfold Lib.occAt at hoc; exact hoc), List.drop_drop, List.append_assoc]
      cases n with
      | zero => omega
      | succ n => rw [rep_swL ha n (l.drop (i + a.length)) (by rw [List.length_drop]; omega)]
theorem all_swL (ha : a ≠ []) (l : List UInt8) : Lib.replaceAll l a b = swL a b l := by
  unfold Lib.replaceAll Lib.replace
  by_cases e : a = b
  · subst e
    rw [if_pos (by simp), swL_same l.length l (Nat.le_refl _)]
  · rw [if_neg (by simpa using e)]
    have : Lib.replaceNum l a (-1) = Lib.count l a := by unfold Lib.replaceNum; rw [if_pos (Or.inl (by decide))]
    rw [this, rep_swL ha l.length l (Nat.le_refl _)]
end Go.Proofs.YtlfanhlkoepodaaDoor
