/-
  Where a text stands; Get.
-/
import Derived.Test.YtcgjhloiokpicaaM2
namespace Go.Proofs.Ytcgjhloiokpicaa
open Go.RowKit
set_option linter.unusedVariables false
set_option linter.unusedSimpArgs false
def vE (x : En) : Value := .agg #[.int .i64 x.block, .int .i64 x.blocks, .int .i64 x.kind, .string x.s]
set_option maxRecDepth 100000 in
set_option maxHeartbeats 4000000 in
theorem findC_any (a n k : Int) (s : ByteArray) (g : Nat) (b : Int) (w : World) (hc : w.cell? ⟨g, 0, none⟩ = some (.int .i64 b)) : Calls Try.prog 69 #[.agg #[.int .i64 a, .int .i64 n, .int .i64 k, .string s], .pointer (some ⟨g, 0, none⟩)] w (Give (.bool ((a == b) && (k == 1))) w) := by
  have lg := World.block_lt_of_cell? w _ hc
  dsimp only at lg
  rcases Bool.eq_false_or_eq_true (a == b) with q | q
  · have Fin : Hid (((a == b) && (k == 1)) = (k == 1)) := by unfold Hid; rw [q]; rfl
    go_enter Try.func69, Try.ntmps69
    go_wp2
    go_ret
    exact ⟨ret_bool Fin.out.symm, (Ext.refl _).alloc_right _⟩
  · have Fin : Hid (((a == b) && (k == 1)) = false) := by unfold Hid; rw [q]; rfl
    go_enter Try.func69, Try.ntmps69
    go_wp2
    go_ret
    exact ⟨ret_bool Fin.out.symm, (Ext.refl _).alloc_right _⟩
def GiveI1 (x : Int) (w : World) := Give (.int .i64 x) w
set_option maxRecDepth 100000 in
set_option maxHeartbeats 4000000 in
theorem findIx_any (A : Option Addr) (n c : Nat) (l : List En) (g : Nat) (b : Int) (w : World) (hl : RdE w A n c l) (hc : w.cell? ⟨g, 0, none⟩ = some (.int .i64 b)) : Calls Try.prog 68 #[.slice A n c, .func (.func 69) #[] #[.pointer (some ⟨g, 0, none⟩)]] w (Give (.int .i64 (findI l b)) w) := by
  have hmx := Rd.max hl
  have hlen := hid hl.len
  have hF1 := hid (fun k => findI_hit (l := l) (b := b) (k := k))
  have hF0 := hid (findI_none (l := l) (b := b))
  generalize findI l b = R at *
  have hC := hid (fun a n k s w hc => findC_any a n k s g b w hc)
  have en : ∀ (a : Value) (w : World), (callFunc 69 #[a, .pointer (some ⟨g, 0, none⟩)]).run Try.prog w = .ok (.enter 69 #[a, .pointer (some ⟨g, 0, none⟩)]) w := fun a w => by kernel_rfl
  replace hl := hid hl
  replace hc := hid hc
  go_enter Try.func68, Try.ntmps68
  go_wp2_with fail
  go_loopw [8] (fun i wr => ∃ k : Nat, k ≤ n ∧ i = .int .i64 k ∧ Hid (Ext w wr) ∧ Hid (∀ j, j < k → hitE b (eth l j) = false)) (fun i _ => n - (intOf i).toNat)
  case atStart => exact ⟨0, by omega, rfl, Ext.refl _, fun j hj => absurd hj (by omega)⟩
  case round =>
    obtain ⟨k, hk, rfl, hx, hno⟩ := hrel
    by_cases hlt : k < n
    · obtain ⟨ad, rfl, x0, x1, x2, x3⟩ := (hl.out.ext hx.out).at_ hlt
      have hkl : Hid (k < l.length) := by rw [hlen.out]; exact hlt
      have hcl := hid (fun w hc => hC.out (eth l k).block (eth l k).blocks (eth l k).kind (eth l k).s w hc)
      have hq : Hid (hitE b (eth l k) = (((eth l k).block == b) && ((eth l k).kind == 1))) := rfl
      generalize hE : (((eth l k).block == b) && ((eth l k).kind == 1)) = E at *
      clear hE
      generalize (eth l k).block = z0 at *
      generalize (eth l k).blocks = z1 at *
      generalize (eth l k).kind = z2 at *
      generalize (eth l k).s = z3 at *
      cases E with
      | true =>
        have hR := hid (hF1.out k hkl.out hno.out hq.out)
        clear hno hq hF1 hF0 hkl
        go_wp2_with fail
        refine (hcl.out _ (hx.out.cell hc.out)).mono ?_
        rintro e w3 ⟨rfl, hx3⟩
        replace hx := hid (hx.out.trans hx3)
        clear hx3
        go_wp2
        go_ret
        exact ⟨ret_int hR.out.symm, hx.out⟩
      | false =>
        have hn2 : Hid (∀ j, j < k + 1 → hitE b (eth l j) = false) := by
          intro j hj
          by_cases e : j = k
          · rw [e]; exact hq.out
          · exact hno.out j (by omega)
        clear hno hq hkl
        go_wp2_with fail
        refine (hcl.out _ (hx.out.cell hc.out)).mono ?_
        rintro e w3 ⟨rfl, hx3⟩
        replace hx := hid (hx.out.trans hx3)
        clear hx3
        go_wp2_with fail
        go_roundw
        case rel => exact ⟨k + 1, by omega, by go_num, hx, hn2⟩
        case measure => simp [intOf]; omega
    · obtain rfl : k = n := by omega
      have hR := hid (hF0.out (by rw [hlen.out]; exact hno.out))
      clear hno
      go_wp2
      go_ret
      exact ⟨ret_int hR.out.symm, hx.out⟩
set_option maxRecDepth 100000 in
set_option maxHeartbeats 4000000 in
theorem find_any (lk size : Int) (g : Nat) (v : Value) (l : List En) (b : Int) (w : World) (h : MA lk w g size v l) : Calls Try.prog 57 #[.pointer (some ⟨g, 0, none⟩), .int .i64 b] w (Give (.int .i64 (findI l b)) w) := by
  have c3 := h.c3
  obtain ⟨A, c, rfl, hr⟩ := h.rd
  clear h
  have lg := World.block_lt_of_cell? w _ c3
  dsimp only at lg
  have hF := hid (fun w' g' (hx : Ext w w') hk => findIx_any A l.length c l g' b w' (hr.ext hx) hk)
  generalize findI l b = R at *
  generalize l.length = n at *
  clear hr
  go_enter Try.func57, Try.ntmps57
  go_wp2_with fail
  refine (hF.out _ w.heap.size ((Ext.refl w).alloc_right _) (by go_simp)).mono ?_
  rintro e w3 ⟨rfl, hx3⟩
  go_wp2
  go_ret
  exact ⟨rfl, ((Ext.refl w).alloc_right _).trans hx3⟩
open Go.MuLone
/-- What Get gives. -/
def getS (l : List En) (b : Int) : ByteArray := if findN l b < l.length then (eth l (findN l b)).s else ⟨#[]⟩
def getE (l : List En) (b : Int) : Int := if findN l b < l.length then 0 else 4
theorem get_cases (l : List En) (b : Int) : (findI l b = -1 ∧ getS l b = ⟨#[]⟩ ∧ getE l b = 4) ∨ (∃ k : Nat, k < l.length ∧ findI l b = k ∧ getS l b = (eth l k).s ∧ getE l b = 0) := by
  unfold findI getS getE
  by_cases h : findN l b < l.length
  · right
    exact ⟨findN l b, h, by rw [if_pos h], by rw [if_pos h], by rw [if_pos h]⟩
  · left
    exact ⟨by rw [if_neg h], by rw [if_neg h], by rw [if_neg h]⟩
end Go.Proofs.Ytcgjhloiokpicaa
