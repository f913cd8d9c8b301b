/-
  Slices of values and of bools; equal lists of values.
-/
import Derived.Test.YtlfanhlkoepodaaDoorK16
import Derived.Deep.RegionWith
namespace Go.Proofs.YtlfanhlkoepodaaDoor
open Go.RowKit
set_option linter.unusedVariables false
set_option linter.unusedSimpArgs false
abbrev VL := Int × Int × ByteArray
def v3C (v : VL) : List Value := [.int .i64 v.1, .int .i64 v.2.1, .string v.2.2]
def valsC (l : List VL) : List Value := l.flatMap v3C
theorem valsC_len (l : List VL) : (valsC l).length = l.length * 3 := by
  induction l with
  | nil => rfl
  | cons v l ih => show (v3C v ++ valsC l).length = _; rw [List.length_append, ih]; simp [v3C]; omega
theorem valsC_snoc (l : List VL) (v : VL) : valsC (l ++ [v]) = valsC l ++ v3C v := by unfold valsC; simp
def vth (l : List VL) (k : Nat) : VL := l.getD k (0, 0, ByteArray.empty)
theorem valsC_at : ∀ (l : List VL) (k : Nat), k < l.length → (valsC l)[k * 3]? = some (.int .i64 (vth l k).1) ∧ (valsC l)[k * 3 + 1]? = some (.int .i64 (vth l k).2.1) ∧ (valsC l)[k * 3 + 2]? = some (.string (vth l k).2.2)
  | [], k, h => by simp at h
  | v :: l, 0, _ => ⟨rfl, rfl, rfl⟩
  | v :: l, k + 1, h => by
    have ih := valsC_at l k (by simpa using h)
    have e : valsC (v :: l) = v3C v ++ valsC l := rfl
    have hl : (v3C v).length = 3 := rfl
    rw [e]
    refine ⟨?_, ?_, ?_⟩
    · rw [List.getElem?_append_right (by rw [hl]; omega), hl, show (k + 1) * 3 - 3 = k * 3 by omega]; exact ih.1
    · rw [List.getElem?_append_right (by rw [hl]; omega), hl, show (k + 1) * 3 + 1 - 3 = k * 3 + 1 by omega]; exact ih.2.1
    · rw [List.getElem?_append_right (by rw [hl]; omega), hl, show (k + 1) * 3 + 2 - 3 = k * 3 + 2 by omega]; exact ih.2.2
/-- A slice of values. -/
def RdV (w : World) (A : Option Addr) (n c : Nat) (l : List VL) : Prop := Rd w 3 A n c (valsC l)
theorem RdV.len {w : World} {A : Option Addr} {n c : Nat} {l : List VL} (h : RdV w A n c l) : l.length = n := by have := h.1; rw [valsC_len] at this; omega
theorem RdV.ext {w w' : World} {A : Option Addr} {n c : Nat} {l : List VL} (h : RdV w A n c l) (hb : Ext w w') : RdV w' A n c l := Rd.ext h hb
theorem cell_f {w : World} {p : Addr} {i j : Nat} {v : Value} (h : w.cell? (p.add (i + j)) = some v) (hj : j ≠ 0) : w.cell? ⟨(p.add i).block, (p.add i).off + j, none⟩ = some v := by
  rw [← add_add] at h
  generalize p.add i = q at *
  unfold Addr.add at h
  rw [if_neg hj] at h
  exact h
theorem RdV.at_ {w : World} {A : Option Addr} {n c : Nat} {l : List VL} (h : RdV w A n c l) {k : Nat} (hk : k < n) : ∃ ad, A = some ad ∧ w.cell? (ad.add (k * 3)) = some (.int .i64 (vth l k).1) ∧ w.cell? ⟨(ad.add (k * 3)).block, (ad.add (k * 3)).off + 1, none⟩ = some (.int .i64 (vth l k).2.1) ∧ w.cell? ⟨(ad.add (k * 3)).block, (ad.add (k * 3)).off + 2, none⟩ = some (.string (vth l k).2.2) := by
  obtain ⟨ad, hA, hc⟩ := h.2.2.2 (by omega)
  obtain ⟨a, b, d⟩ := valsC_at l k (by rw [h.len]; exact hk)
  exact ⟨ad, hA, hc _ _ a, cell_f (hc _ _ b) (by decide), cell_f (hc _ _ d) (by decide)⟩
theorem RdV.nil (w : World) : RdV w none 0 0 [] := Rd.none_ w 3
def bolsC (l : List Bool) : List Value := l.map Value.bool
def both_ (l : List Bool) (k : Nat) : Bool := l.getD k false
def RdO (w : World) (A : Option Addr) (n c : Nat) (l : List Bool) : Prop := Rd w 1 A n c (bolsC l)
theorem RdO.len {w : World} {A : Option Addr} {n c : Nat} {l : List Bool} (h : RdO w A n c l) : l.length = n := by have := h.1; simpa [bolsC] using this
theorem RdO.ext {w w' : World} {A : Option Addr} {n c : Nat} {l : List Bool} (h : RdO w A n c l) (hb : Ext w w') : RdO w' A n c l := Rd.ext h hb
theorem RdO.at_ {w : World} {A : Option Addr} {n c : Nat} {l : List Bool} (h : RdO w A n c l) {k : Nat} (hk : k < n) : ∃ ad, A = some ad ∧ w.cell? (ad.add k) = some (.bool (both_ l k)) := by
  obtain ⟨ad, hA, hc⟩ := h.2.2.2 (by omega)
  have hl := h.len
  exact ⟨ad, hA, hc k _ (by simp [bolsC, both_, List.getD, hl, hk])⟩
set_option maxRecDepth 100000 in
set_option maxHeartbeats 4000000 in
theorem SameVs_any (A : Option Addr) (n c : Nat) (B : Option Addr) (d : Nat) (l : List VL) (w : World) (ha : RdV w A n c l) (hb : RdV w B n d l) : Calls Tryd.prog 44 #[.slice A n c, .slice B n d] w (Give (.bool true) w) := by
  have hm := Rd.max ha
  have sv := hid (fun k n s w => SameV_any k n s w)
  unfold vV at sv
  replace ha := hid ha
  replace hb := hid hb
  go_enter Tryd.func44, Tryd.ntmps44
  go_wp2_with fail
  go_loopw [5] (fun i wr => ∃ k : Nat, k ≤ n ∧ i = .int .i64 k ∧ Hid (Ext w wr)) (fun i _ => n - (intOf i).toNat)
  case atStart => exact ⟨0, by omega, rfl, Ext.refl _⟩
  case round =>
    obtain ⟨k, hk, rfl, hx⟩ := hrel
    by_cases hlt : k < n
    · obtain ⟨ad, rfl, x0, x1, x2⟩ := (ha.out.ext hx.out).at_ hlt
      obtain ⟨bd, rfl, y0, y1, y2⟩ := (hb.out.ext hx.out).at_ hlt
      have s2 := hid (fun w => sv.out (vth l k).1 (vth l k).2.1 (vth l k).2.2 w)
      generalize (vth l k).1 = z0 at *
      generalize (vth l k).2.1 = z1 at *
      generalize (vth l k).2.2 = z2 at *
      clear ha hb
      go_wp2_with fail
      go_region_with (go_at_call 40; refine (s2.out _).mono ?_; rintro e w' ⟨rfl, hx3⟩; have hE := hid (hx.out.trans (Ext.trans (Ext.refl wr).drew_right hx3)))
      all_goals
        go_wp2_with fail
        go_roundw
        case rel => exact ⟨k + 1, by omega, by go_num, hE⟩
        case measure => simp [intOf]; omega
    · obtain rfl : k = n := by omega
      go_wp2
      go_ret
      exact ⟨rfl, hx.out⟩
end Go.Proofs.YtlfanhlkoepodaaDoor
