/-
  What Decode gives is read back by Encode. No program in sight.
-/
import Derived.Test.YtlhnabkfacmmnaaDoorPD8
namespace Go.Proofs.YtlhnabkfacmmnaaDoor
open Go.RowKit
set_option linter.unusedVariables false
set_option linter.unusedSimpArgs false
theorem get_strB (l : List UInt8) (k : Nat) : (strB l).get! k = l.getD k 0 := by
  show (l.toArray)[k]! = _
  simp [List.getD_eq_getElem?_getD, getElem!_def]
  cases l[k]? <;> rfl
/-- A character of a page, at a place of a text. -/
theorem decode_at (A B : List UInt8) {c : Int} (h0 : 0 ≤ c) (h1 : c ≤ 1103) : Utf8.decode (strB (A ++ (Lib.encodeRune c ++ B))) A.length = (c.toNat, (Lib.encodeRune c).length) := by
  obtain ⟨n, rfl⟩ : ∃ n : Nat, c = n := ⟨c.toNat, by omega⟩
  by_cases h : n < 128
  · have e : Lib.encodeRune (n : Int) = [UInt8.ofNat n] := by
      unfold Lib.encodeRune
      rw [Lib.encodeRuneZ_one (by omega) (by omega)]
      rfl
    have b0 : ((strB (A ++ (Lib.encodeRune (n : Int) ++ B))).get! (A.length + 0)).toNat = n := by
      rw [get_strB, e]
      simp [List.getD_eq_getElem?_getD] <;> omega
    unfold Utf8.decode
    simp only [b0]
    rw [if_pos h, e]
    simp
  · have e : Lib.encodeRune (n : Int) = [UInt8.ofNat (192 + n / 64), UInt8.ofNat (128 + n % 64)] := by
      unfold Lib.encodeRune
      rw [Lib.encodeRuneZ_two (by omega) (by omega)]
      simp only [List.map_cons, List.map_nil]
      rw [show ((192 : Int) + (n : Int) / 64).toNat = 192 + n / 64 by omega, show ((128 : Int) + (n : Int) % 64).toNat = 128 + n % 64 by omega]
    have b0 : ((strB (A ++ (Lib.encodeRune (n : Int) ++ B))).get! (A.length + 0)).toNat = 192 + n / 64 := by
      rw [get_strB, e]
      simp [List.getD_eq_getElem?_getD] <;> omega
    have b1 : ((strB (A ++ (Lib.encodeRune (n : Int) ++ B))).get! (A.length + 1)).toNat = 128 + n % 64 := by
      rw [get_strB, e]
      simp [List.getD_eq_getElem?_getD, List.getElem?_append_right] <;> omega
    have hs : A.length + 1 < (strB (A ++ (Lib.encodeRune (n : Int) ++ B))).size := by rw [strB_size, e]; simp <;> omega
    unfold Utf8.decode
    simp only [b0, b1]
    rw [if_neg (by omega), if_pos (by simp [hs]; omega), if_pos (by omega), e]
    simp
    omega
theorem dcS_cons (p : Nat) (b : UInt8) (t : List UInt8) : dcS p (b :: t) = Lib.encodeRune (chS p b.toNat) ++ dcS p t := rfl
theorem enc_pos (r : Int) : 1 ≤ (Lib.encodeRune r).length := by
  have := Lib.runeCells_le r
  rw [Lib.runeCells_length] at this
  exact this.1
theorem rest_dc {p : Nat} : ∀ (l A : List UInt8) (f : Nat), vl p l = true → (dcS p l).length ≤ f → rest (strB (A ++ dcS p l)) f A.length = l.map fun b => chS p b.toNat
  | [], A, f, _, _ => by
    cases f with
    | zero => rfl
    | succ f => unfold rest; rw [if_neg (by rw [strB_size]; simp [dcS])]; rfl
  | b :: t, A, f, hv, hf => by
    have h0 : 0 ≤ chS p b.toNat ∧ vl p t = true := by simpa [vl, okS] using hv
    have hr := chS_rng (p := p) b.toNat_lt
    have hp := enc_pos (chS p b.toNat)
    rw [dcS_cons] at hf ⊢
    rw [List.length_append] at hf
    obtain ⟨f', rfl⟩ : ∃ f', f = f' + 1 := ⟨f - 1, by omega⟩
    have hd := decode_at A (dcS p t) h0.1 hr.2
    have ih := rest_dc t (A ++ Lib.encodeRune (chS p b.toNat)) f' h0.2 (by omega)
    unfold rest
    rw [if_pos (by rw [strB_size]; simp; omega), hd]
    simp only [List.map_cons]
    rw [show ((chS p b.toNat).toNat : Int) = chS p b.toNat by omega]
    rw [List.append_assoc, List.length_append] at ih
    rw [ih]
theorem runes_dc {p : Nat} {l : List UInt8} (h : vl p l = true) : runes (strB (dcS p l)) = l.map fun b => chS p b.toNat := by
  have := rest_dc l [] (strB (dcS p l)).size h (by rw [strB_size]; exact Nat.le_refl _)
  unfold runes
  simpa using this
theorem valid_dc {p : Nat} : ∀ (l : List UInt8) (f : Nat), vl p l = true → (dcS p l).length ≤ f → Lib.validGoD f (dcS p l) = true
  | [], f, _, _ => by cases f <;> simp [Lib.validGoD, dcS]
  | b :: t, f, hv, hf => by
    have h0 : 0 ≤ chS p b.toNat ∧ vl p t = true := by simpa [vl, okS] using hv
    have hr := chS_rng (p := p) b.toNat_lt
    have hp := enc_pos (chS p b.toNat)
    rw [dcS_cons] at hf ⊢
    rw [List.length_append] at hf
    obtain ⟨f', rfl⟩ : ∃ f', f = f' + 1 := ⟨f - 1, by omega⟩
    have hd : Lib.decodeL (Lib.encodeRune (chS p b.toNat) ++ dcS p t) = ((chS p b.toNat).toNat, (Lib.encodeRune (chS p b.toNat)).length) := decode_at [] (dcS p t) h0.1 hr.2
    unfold Lib.validGoD
    rw [if_neg (by intro e; have := congrArg List.length e; rw [List.length_append, List.length_nil] at this; omega), hd]
    rw [if_neg (by simp only; omega), List.drop_left]
    exact valid_dc t f' h0.2 (by omega)
/-- The first byte with a byte's character is that byte. -/
theorem chS_inj {p a b : Nat} (hp : p ≤ 2) (ha : a < 256) (hb : b < 256) (h0 : 0 ≤ chS p a) (h : chS p a = chS p b) : a = b := by
  unfold chS at h h0
  repeat' split at h
  all_goals (first | omega | (repeat' split at h0) <;> omega)
theorem fB_of {p x : Nat} (hp : p ≤ 2) (hx : x < 256) (h0 : 0 ≤ chS p x) : fB (chS p) (chS p x) = some x :=
  fB_hit h0 hx (fun j hj e => by have := chS_inj hp (a := j) (b := x) (by omega) hx (by rw [e]; exact h0) e; omega) rfl
theorem enc_dec {p : Nat} (hp : p ≤ 2) : ∀ l : List UInt8, vl p l = true → allS p (l.map fun b => chS p b.toNat) = true ∧ encL p (l.map fun b => chS p b.toNat) = l
  | [], _ => ⟨rfl, rfl⟩
  | b :: t, hv => by
    have h0 : 0 ≤ chS p b.toNat ∧ vl p t = true := by simpa [vl, okS] using hv
    have ih := enc_dec hp t h0.2
    have hb := fB_of hp b.toNat_lt h0.1
    constructor
    · unfold allS at *
      rw [List.map_cons, List.all_cons, hb, ih.1]
      rfl
    · unfold encL at *
      rw [List.map_cons, List.map_cons, hb, ih.2]
      congr 1
      show bOf ((b.toNat : Nat) : Int) = b
      unfold bOf
      rw [Int.toNat_natCast]
      exact UInt8.ofNat_toNat
theorem dc_len2 (p : Nat) : ∀ l : List UInt8, vl p l = true → (dcS p l).length ≤ 2 * l.length
  | [], _ => Nat.le_refl _
  | b :: t, hv => by
    have h0 : 0 ≤ chS p b.toNat ∧ vl p t = true := by simpa [vl, okS] using hv
    have ih := dc_len2 p t h0.2
    have hr := chS_rng (p := p) b.toNat_lt
    have h2 : (Lib.encodeRune (chS p b.toNat)).length ≤ 2 := by
      unfold Lib.encodeRune
      rw [List.length_map]
      by_cases h : chS p b.toNat ≤ 127
      · rw [Lib.encodeRuneZ_one h0.1 h]; simp
      · rw [Lib.encodeRuneZ_two (by omega) (by omega)]; simp
    rw [dcS_cons, List.length_append, List.length_cons]
    omega
theorem strB_of (s : ByteArray) : strB s.toList = s := by
  rw [ByteArray.toList_eq]
  rfl
/-- Encode of what Decode gave. -/
theorem back_eq {p : Int} {s : ByteArray} (h : decE p s = 0) : encE p (decB p s) = 0 ∧ encB p (decB p s) = s := by
  have ha : askE p [s] = 0 ∧ vl p.toNat s.toList = true := by
    unfold decE at h
    by_cases h1 : askE p [s] = 0
    · rw [if_pos h1] at h
      cases h2 : vl p.toNat s.toList with
      | true => exact ⟨h1, rfl⟩
      | false => rw [h2] at h; simp at h
    · rw [if_neg h1] at h; exact absurd h h1
  have ho := ask_ok ha.1
  obtain ⟨q, rfl, hq⟩ := pg_nat ho.2
  have hv := ha.2
  rw [Int.toNat_natCast] at hv
  have hd : decB q s = strB (dcS q s.toList) := by unfold decB; rw [if_pos h, Int.toNat_natCast]
  have hl : s.toList.length = s.size := by rw [ByteArray.toList_eq]; rfl
  have h2 := dc_len2 q _ hv
  have hr := runes_dc hv
  have hen := enc_dec hq _ hv
  have hval : Lib.validD (strB (dcS q s.toList)).data.toList = true := by
    have : (strB (dcS q s.toList)).data.toList = dcS q s.toList := by simp [strB]
    rw [this]
    exact valid_dc _ _ hv (Nat.le_refl _)
  rw [hd]
  have := enc_6 (q := q) (s := strB (dcS q s.toList)) (by rw [strB_size]; omega) hq hval (by rw [hr]; exact hen.1) (by rw [hr, List.length_map]; omega)
  refine ⟨this.1, this.2.trans ?_⟩
  rw [hr, hen.2, strB_of]
end Go.Proofs.YtlhnabkfacmmnaaDoor
