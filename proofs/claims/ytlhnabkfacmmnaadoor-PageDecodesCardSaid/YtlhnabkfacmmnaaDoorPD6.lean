/-
  The bytes of characters in UTF-8: which characters a text has, step by step.
-/
import Derived.Test.YtlhnabkfacmmnaaDoorPD5
import Derived.WalkSmall
import Derived.Laws.RangeAny
namespace Go.Proofs.YtlhnabkfacmmnaaDoor
open Go.RowKit
set_option linter.unusedVariables false
set_option linter.unusedSimpArgs false
/-- The characters from a place on. -/
def rest (s : ByteArray) : Nat → Nat → List Int
  | 0, _ => []
  | f + 1, p => if p < s.size then ((Utf8.decode s p).1 : Int) :: rest s f (p + (Utf8.decode s p).2) else []
def runes (s : ByteArray) : List Int := rest s s.size 0
theorem width_pos (s : ByteArray) (pos : Nat) (h : pos < s.size) : 1 ≤ (Utf8.decode s pos).2 := by
  by_cases ha : (s[pos]'h).toNat < 128
  · rw [decode_ascii s pos h ha]
    exact Nat.le_refl _
  · exact (decode_high s pos h (by omega)).2
theorem rest_len (s : ByteArray) : ∀ f p, (rest s f p).length ≤ f
  | 0, _ => Nat.le_refl _
  | f + 1, p => by
    have := rest_len s f (p + (Utf8.decode s p).2)
    unfold rest
    split
    · rw [List.length_cons]; omega
    · exact Nat.zero_le _
theorem runes_len (s : ByteArray) : (runes s).length ≤ s.size := rest_len s _ _
theorem runesFrom_eq (s : ByteArray) : ∀ f p (acc : Array Value), (Conv.runesFrom s f p acc).toList = acc.toList ++ (rest s f p).map (Value.int .i32)
  | 0, _, acc => by simp [Conv.runesFrom, rest]
  | f + 1, p, acc => by
    unfold Conv.runesFrom rest
    split
    · have := runesFrom_eq s f (p + (Utf8.decode s p).2) (acc.push (.int .i32 (Int.ofNat (Utf8.decode s p).1)))
      simp only [this]
      simp
    · simp
/-- Behind k characters the text stands at pos. -/
def St (s : ByteArray) (k pos f : Nat) : Prop := k ≤ (runes s).length ∧ rest s f pos = (runes s).drop k ∧ s.size ≤ pos + f
theorem St.start (s : ByteArray) : St s 0 0 s.size := ⟨Nat.zero_le _, rfl, by omega⟩
def rn (s : ByteArray) (k : Nat) : Int := (runes s).getD k 0
theorem St.step {s : ByteArray} {k pos f : Nat} (h : St s k pos f) (hp : pos < s.size) : k < (runes s).length ∧ rn s k = ((Utf8.decode s pos).1 : Int) ∧ St s (k + 1) (pos + (Utf8.decode s pos).2) (f - 1) := by
  obtain ⟨h1, h2, h3⟩ := h
  obtain ⟨f', rfl⟩ : ∃ f', f = f' + 1 := ⟨f - 1, by omega⟩
  unfold rest at h2
  rw [if_pos hp] at h2
  have hk : k < (runes s).length := by
    rcases Nat.lt_or_ge k (runes s).length with h | h
    · exact h
    · rw [List.drop_of_length_le h] at h2; cases h2
  rw [List.drop_eq_getElem_cons hk] at h2
  injection h2 with h4 h5
  have hw := width_pos s pos hp
  exact ⟨hk, by unfold rn; rw [List.getD_eq_getElem?_getD, List.getElem?_eq_getElem hk]; exact h4.symm, by omega, h5, by omega⟩
theorem St.done {s : ByteArray} {k pos f : Nat} (h : St s k pos f) (hp : ¬ pos < s.size) : k = (runes s).length := by
  obtain ⟨h1, h2, h3⟩ := h
  have : rest s f pos = [] := by
    cases f with
    | zero => rfl
    | succ f => unfold rest; rw [if_neg hp]
  rw [this] at h2
  have := (List.drop_eq_nil_iff).1 h2.symm
  omega
theorem dec_bd (s : ByteArray) (p : Nat) : (Utf8.decode s p).1 < 2147483648 := by
  have hb := (s.get! (p + 0)).toNat_lt
  have hb1 := (s.get! (p + 1)).toNat_lt
  have hb2 := (s.get! (p + 2)).toNat_lt
  have hb3 := (s.get! (p + 3)).toNat_lt
  unfold Utf8.decode
  simp only [Utf8.runeError]
  repeat' split
  all_goals (simp only; try omega)
/-! ### What Encode gives -/
def allS (q : Nat) (l : List Int) : Bool := l.all fun c => (fB (chS q) c).isSome
def encL (q : Nat) (l : List Int) : List UInt8 := l.map fun c => bOf (bv (fB (chS q) c))
def encE (p : Int) (s : ByteArray) : Int :=
  if 6144 < s.size then 3 else if pgB p = true then 1 else if Lib.validD s.data.toList = false then 2 else if allS p.toNat (runes s) = false then 10 else if 2048 < (runes s).length then 3 else 0
def encB (p : Int) (s : ByteArray) : ByteArray := if encE p s = 0 then strB (encL p.toNat (runes s)) else ByteArray.empty
def EncIs (p : Int) (s : ByteArray) (e : Int) (t : ByteArray) : Prop := encE p s = e ∧ encB p s = t
section
variable {p : Int} {s : ByteArray} {q : Nat}
theorem enc_err {e : Int} (h : encE p s = e) (he : e ≠ 0) : EncIs p s e ByteArray.empty := ⟨h, if_neg (by rw [h]; exact he)⟩
theorem enc_1 (h : 6144 < s.size) : EncIs p s 3 ByteArray.empty := enc_err (if_pos h) (by decide)
theorem enc_2 (h : ¬ 6144 < s.size) (h2 : pgB p = true) : EncIs p s 1 ByteArray.empty := enc_err (by unfold encE; rw [if_neg h, if_pos h2]) (by decide)
theorem pgB_ok (hq : q ≤ 2) : pgB (q : Int) = false := by simp [pgB]; omega
theorem enc_3 (h : ¬ 6144 < s.size) (hq : q ≤ 2) (h3 : Lib.validD s.data.toList = false) : EncIs q s 2 ByteArray.empty := enc_err (by unfold encE; rw [if_neg h, if_neg (by rw [pgB_ok hq]; decide), if_pos h3]) (by decide)
theorem enc_4 (h : ¬ 6144 < s.size) (hq : q ≤ 2) (h3 : Lib.validD s.data.toList = true) (h4 : allS q (runes s) = false) : EncIs q s 10 ByteArray.empty :=
  enc_err (by unfold encE; rw [if_neg h, if_neg (by rw [pgB_ok hq]; decide), if_neg (by rw [h3]; decide), Int.toNat_natCast, if_pos h4]) (by decide)
theorem enc_5 (h : ¬ 6144 < s.size) (hq : q ≤ 2) (h3 : Lib.validD s.data.toList = true) (h4 : allS q (runes s) = true) (h5 : 2048 < (runes s).length) : EncIs q s 3 ByteArray.empty :=
  enc_err (by unfold encE; rw [if_neg h, if_neg (by rw [pgB_ok hq]; decide), if_neg (by rw [h3]; decide), Int.toNat_natCast, if_neg (by rw [h4]; decide), if_pos h5]) (by decide)
theorem enc_6 (h : ¬ 6144 < s.size) (hq : q ≤ 2) (h3 : Lib.validD s.data.toList = true) (h4 : allS q (runes s) = true) (h5 : ¬ 2048 < (runes s).length) : EncIs q s 0 (strB (encL q (runes s))) := by
  have h0 : encE q s = 0 := by unfold encE; rw [if_neg h, if_neg (by rw [pgB_ok hq]; decide), if_neg (by rw [h3]; decide), Int.toNat_natCast, if_neg (by rw [h4]; decide), if_neg h5]
  exact ⟨h0, by unfold encB; rw [if_pos h0, Int.toNat_natCast]⟩
theorem allS_no {l : List Int} {k : Nat} (hk : k < l.length) (h : (fB (chS q) (l.getD k 0)).isSome = false) : allS q l = false := by
  unfold allS
  rw [List.all_eq_false]
  refine ⟨l[k], List.getElem_mem hk, ?_⟩
  rw [List.getD_eq_getElem?_getD, List.getElem?_eq_getElem hk] at h
  simpa using h
theorem allS_succ {l : List Int} {k : Nat} (hk : k < l.length) (h : allS q (l.take k) = true) (h2 : (fB (chS q) (l.getD k 0)).isSome = true) : allS q (l.take (k + 1)) = true := by
  unfold allS at *
  rw [List.getD_eq_getElem?_getD, List.getElem?_eq_getElem hk] at h2
  rw [List.take_succ_eq_append_getElem hk, List.all_append, h]
  simpa using h2
theorem encL_succ {l : List Int} {k : Nat} (hk : k < l.length) : encL q (l.take (k + 1)) = encL q (l.take k) ++ [bOf (bv (fB (chS q) (l.getD k 0)))] := by
  unfold encL
  rw [List.getD_eq_getElem?_getD, List.getElem?_eq_getElem hk, List.take_succ_eq_append_getElem hk, List.map_append]
  rfl
end
/-! ### Worlds with an iterator -/
theorem Bt.iter {b B : Nat} {u w : World} (h : Bt b B u w) (s : ByteArray) (pos : Nat) : Bt b B u (w.iterAt b s pos) :=
  ⟨h.1, h.2.1, h.2.2.1, by rw [Lib.iterAt_size]; exact h.2.2.2.1, fun k hk hb => (Lib.iterAt_other w b k s pos hb).trans (h.2.2.2.2 k hk hb)⟩
theorem Bt.right {b B : Nat} {u v w : World} (h : Bt b B u v) (hx : Ext v w) (hB : B ≤ v.heap.size) : Bt b B u w :=
  ⟨h.1.trans hx.os.symm, h.2.1.trans hx.tape.symm, h.2.2.1.trans hx.output.symm, Nat.le_trans h.2.2.2.1 hx.size, fun k hk hb => (hx.block (by omega)).trans (h.2.2.2.2 k hk hb)⟩
theorem Bt.grown {b B : Nat} {u v w : World} (h : Bt b B u v) {row : Option Nat} (hg : v.grownBy w row) (hB : B ≤ v.heap.size) (hr : ∀ k, row = some k → B ≤ k) : Bt b B u w :=
  ⟨h.1.trans hg.os.symm, h.2.1.trans hg.tape.symm, h.2.2.1.trans hg.output.symm, Nat.le_trans h.2.2.2.1 hg.size, fun k hk hb => (hg.block k (by omega) (fun e => by have := hr k e.symm; omega)).trans (h.2.2.2.2 k hk hb)⟩
end Go.Proofs.YtlhnabkfacmmnaaDoor
