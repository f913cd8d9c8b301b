/-
  The program's number of blocks, and where a text stands.
-/
import Derived.Test.YtcgjhloiokpicaaMB
import Derived.Deep.RegionHeld3
import Derived.Conc.MuLone
import Derived.Defers
namespace Go.Proofs.Ytcgjhloiokpicaa
open Go.RowKit
set_option linter.unusedVariables false
set_option linter.unusedSimpArgs false
def eth (l : List En) (k : Nat) : En := l.getD k ⟨0, 0, 0, ⟨#[]⟩⟩
theorem eth_get {l : List En} {k : Nat} (h : k < l.length) : eth l k = l[k] := by simp [eth, List.getD, h]
def hitE (b : Int) (x : En) : Bool := (x.block == b) && (x.kind == 1)
def findN (l : List En) (b : Int) : Nat := l.findIdx (hitE b)
def findI (l : List En) (b : Int) : Int := if findN l b < l.length then (findN l b : Int) else -1
theorem find_hit {l : List En} {b : Int} {k : Nat} (hk : k < l.length) (hb : ∀ j, j < k → hitE b (eth l j) = false) (h : hitE b (eth l k) = true) : findN l b = k := by
  unfold findN
  rw [List.findIdx_eq hk]
  refine ⟨by rw [← eth_get hk]; exact h, fun j hj => ?_⟩
  have := hb j hj
  rw [eth_get (by omega)] at this
  exact this
theorem findI_hit {l : List En} {b : Int} {k : Nat} (hk : k < l.length) (hb : ∀ j, j < k → hitE b (eth l j) = false) (h : hitE b (eth l k) = true) : findI l b = k := by
  have := find_hit hk hb h
  unfold findI
  rw [this, if_pos hk]
theorem findI_none {l : List En} {b : Int} (hb : ∀ j, j < l.length → hitE b (eth l j) = false) : findI l b = -1 := by
  unfold findI
  rw [if_neg]
  intro h
  have h2 : hitE b (l[findN l b]) = true := List.findIdx_getElem (w := h)
  have := hb _ h
  rw [eth_get h, h2] at this
  cases this
def RdE (w : World) (A : Option Addr) (n c : Nat) (l : List En) : Prop := Rd w 4 A n c (ents l)
section
variable {w w' : World} {A : Option Addr} {n c : Nat} {l : List En}
theorem RdE.len (h : RdE w A n c l) : l.length = n := by have := h.1; rw [ents_len] at this; omega
theorem RdE.ext (h : RdE w A n c l) (hb : Ext w w') : RdE w' A n c l := Rd.ext h hb
theorem add_add4 (p : Addr) (i j : Nat) : (p.add i).add j = p.add (i + j) := by
  unfold Addr.add
  by_cases hi : i = 0
  · simp [hi]
  · by_cases hj : j = 0
    · simp [hi, hj]
    · simp [hi, hj]; omega
theorem cell_f4 {w : World} {ad : Addr} {k j : Nat} {v : Value} (h : w.cell? (ad.add (k * 4 + j)) = some v) (hj : 0 < j) : w.cell? ⟨(ad.add (k * 4)).block, (ad.add (k * 4)).off + j, none⟩ = some v := by
  rw [← add_add4] at h
  generalize ad.add (k * 4) = q at *
  unfold Addr.add at h
  rw [if_neg (by omega)] at h
  exact h
theorem RdE.at_ (h : RdE w A n c l) {k : Nat} (hk : k < n) : ∃ ad, A = some ad ∧ w.cell? (ad.add (k * 4)) = some (.int .i64 (eth l k).block) ∧ w.cell? ⟨(ad.add (k * 4)).block, (ad.add (k * 4)).off + 1, none⟩ = some (.int .i64 (eth l k).blocks) ∧ w.cell? ⟨(ad.add (k * 4)).block, (ad.add (k * 4)).off + 2, none⟩ = some (.int .i64 (eth l k).kind) ∧ w.cell? ⟨(ad.add (k * 4)).block, (ad.add (k * 4)).off + 3, none⟩ = some (.string (eth l k).s) := by
  obtain ⟨ad, hA, hc⟩ := h.2.2.2 (by omega)
  have hl : k < l.length := by rw [h.len]; exact hk
  rw [eth_get hl]
  refine ⟨ad, hA, ?_, ?_, ?_, ?_⟩
  · exact hc (k * 4 + 0) _ (by rw [ents_at l k hl 0 (by decide)]; rfl)
  · exact cell_f4 (hc (k * 4 + 1) _ (by rw [ents_at l k hl 1 (by decide)]; rfl)) (by decide)
  · exact cell_f4 (hc (k * 4 + 2) _ (by rw [ents_at l k hl 2 (by decide)]; rfl)) (by decide)
  · exact cell_f4 (hc (k * 4 + 3) _ (by rw [ents_at l k hl 3 (by decide)]; rfl)) (by decide)
end
theorem MA.rd {lk size : Int} {w : World} {g : Nat} {v : Value} {l : List En} (h : MA lk w g size v l) : ∃ A c, v = .slice A l.length c ∧ RdE w A l.length c l := by
  have ho := h.own
  rcases ho.2 with ⟨hv, h0⟩ | ⟨g', cap, cur, hv, _⟩
  · refine ⟨none, 0, ?_, ?_⟩
    · rw [hv, h0]
    · have : v = .slice none l.length 0 := by rw [hv, h0]
      rw [this] at ho
      exact Rd.of_own ho
  · refine ⟨_, _, hv, ?_⟩
    rw [hv] at ho
    exact Rd.of_own ho
def endI (l : List En) : Int := match l.getLast? with | none => 1 | some x => wrap64 (x.block + x.blocks)
theorem endI_at {l : List En} {k : Nat} (h : l.length = k + 1) : endI l = wrap64 ((eth l k).block + (eth l k).blocks) := by
  unfold endI
  rw [List.getLast?_eq_getElem?, h]
  simp only [Nat.add_sub_cancel]
  rw [List.getElem?_eq_getElem (by omega), eth_get (by omega)]
set_option maxRecDepth 100000 in
set_option maxHeartbeats 4000000 in
theorem end_any (lk size : Int) (g : Nat) (v : Value) (l : List En) (w : World) (h : MA lk w g size v l) : Calls Try.prog 42 #[.pointer (some ⟨g, 0, none⟩)] w (Give (.int .i64 (endI l)) w) := by
  have c3 := h.c3
  obtain ⟨A, c, rfl, hr⟩ := h.rd
  clear h
  have hm := Rd.max hr
  have hlen := hid hr.len
  generalize hn : l.length = n at *
  replace hr := hid hr
  cases n with
  | zero =>
    have hl : l = [] := List.length_eq_zero_iff.1 hn
    have Fin : Hid (endI l = 1) := by rw [hl]; rfl
    clear hn hl
    go_enter Try.func42, Try.ntmps42
    go_wp2
    go_ret
    exact ⟨ret_int Fin.out.symm, Ext.refl _⟩
  | succ k =>
    have Fin := hid (endI_at hn)
    obtain ⟨ad, rfl, x0, x1, x2, x3⟩ := hr.out.at_ (Nat.lt_succ_self k)
    generalize endI l = E at *
    generalize (eth l k).block = z0 at *
    generalize (eth l k).blocks = z1 at *
    generalize (eth l k).kind = z2 at *
    generalize (eth l k).s = z3 at *
    clear hn hlen
    have hk : IntKind.i64.wrap (k : Int) = (k : Int) := IntWalk.i64_in _ (by omega)
    have hk1 : (k : Int) < (k : Int) + 1 := by omega
    have lg := World.block_lt_of_cell? w _ c3
    have lx := World.block_lt_of_cell? w _ x0
    have lx3 := World.block_lt_of_cell? w _ x3
    dsimp only at lg lx3
    go_enter Try.func42, Try.ntmps42
    go_wp2_with fail
    go_region
    all_goals go_wp2
    all_goals go_ret
    all_goals exact ⟨ret_int Fin.out.symm, (Ext.refl _).drew_right.alloc_right _⟩
end Go.Proofs.Ytcgjhloiokpicaa
