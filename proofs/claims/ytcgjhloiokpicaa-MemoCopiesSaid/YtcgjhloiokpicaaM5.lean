/-
  frees: the iterator over the places of the free entries, as a contract for a range over a function.
-/
import Derived.Test.YtcgjhloiokpicaaM4
import Derived.RangeFuncNested
import Derived.RangeFuncBound
import Derived.RangeFuncCalls
import Derived.RangeFuncLeaves
import Derived.RangeFuncBox
import Derived.Shelf.Abstract
import Derived.Shelf.RegionOpen
import Derived.WalkKit
import Derived.OwnWalkIn
import Derived.TacticsInMore
import Derived.LoopNIn
import Derived.LoopIn
namespace Go.Proofs.Ytcgjhloiokpicaa
open Go.RowKit Go.Shelf
set_option linter.unusedVariables false
set_option linter.unusedSimpArgs false
attribute [local go_sem] Oper.semAt_some
/-- The places of the free entries among the first k. -/
def frs (l : List En) (k : Nat) : List Nat := (List.range k).filter fun j => (eth l j).kind == 0
theorem frs_yes {l : List En} {k : Nat} (h : ((eth l k).kind == 0) = true) : frs l (k + 1) = frs l k ++ [k] := by
  simp only [frs, List.range_succ, List.filter_append, List.filter_cons, h, List.filter_nil, if_true]
theorem frs_no {l : List En} {k : Nat} (h : ((eth l k).kind == 0) = false) : frs l (k + 1) = frs l k := by
  simp [frs, List.range_succ, List.filter_append, List.filter_cons, h]
theorem frs_len (l : List En) (k : Nat) : (frs l k).length ≤ k := by
  have := List.length_filter_le (fun j => (eth l j).kind == 0) (List.range k)
  simpa [frs] using this
theorem frs_pre (l : List En) (n : Nat) : ∀ k, k ≤ n → frs l k <+: frs l n := by
  intro k hk
  induction n with
  | zero => obtain rfl : k = 0 := by omega
            exact List.prefix_rfl
  | succ n ih =>
    by_cases e : k = n + 1
    · rw [e]; exact List.prefix_rfl
    · refine (ih (by omega)).trans ?_
      cases h : ((eth l n).kind == 0) with
      | true => rw [frs_yes h]; exact List.prefix_append _ _
      | false => rw [frs_no h]; exact List.prefix_rfl
abbrev Pl (l : List En) : Type := { k : Nat // k < l.length ∧ (eth l k).kind = 0 }
def plv {l : List En} (xs : List (Pl l)) : List Nat := xs.map (·.1)
set_option maxRecDepth 100000 in
set_option maxHeartbeats 4000000 in
theorem frees1_in (F : Fence) (n : Nat) (h7 : F.fn 80) (hro : F.round = none) (hn : 1 ≤ n) (lp B n₀ : Nat) (g : Nat) (A : Option Addr) (len c : Nat) (l : List En) (J Jx : List (Pl l) → World → Prop)
    (W : World) (hB : W.cell? ⟨B, 0, none⟩ = some (.pointer (some ⟨g, 0, none⟩))) (hc : W.cell? ⟨g, 2 + 1, none⟩ = some (.slice A len c)) (hl : RdE W A len c l) (hlow : ∀ ad, A = some ad → ad.block < n₀) (hsz : n₀ ≤ W.heap.size)
    (hJ : AbidesFrom W.heap.size J)
    (hY : ∀ pre x W, J pre W → pre.length < len → YieldAt F (n - 1) Try.prog lp #[.int .i64 x.1] W fun e W' =>
      (e = .returned (.bool true) ∧ J (pre ++ [x]) W' ∧ Below n₀ W W') ∨ (e = .returned (.bool false) ∧ Jx (pre ++ [x]) W'))
    (h0 : J [] W) :
    CallsIn F n Try.prog 80 #[.func (.yield lp) #[] #[], .pointer (some ⟨B, 0, none⟩)] W fun e W' => (∃ v, e = .returned v) ∧
      ((∃ ys, plv ys = frs l len ∧ J ys W') ∨ (∃ pre, plv pre <+: frs l len ∧ Jx pre W')) := by
  have hm := Rd.max hl
  have hlen := hid hl.len
  replace hl := hid hl
  have hnew : ∀ (s : List (Pl l)) (wr : World) (o : Obj), J s wr → J s (wr.alloc o) := fun s wr o h => hJ s wr _ none h (World.grownBy_alloc wr o none) (fun r e => by cases e)
  replace hnew := hid hnew
  refine callsIn_of_wp Try.func80 rfl h7 ?_ hro
  simp only [Try.ntmps80, List.size_toArray, List.length_cons, List.length_nil, Nat.reduceAdd, Nat.reduceSub, Array.replicate_succ, Array.replicate_zero, List.push_toArray, List.append_toArray, List.nil_append, List.cons_append]
  gi_wp2
  gi_loopw [10] (fun i wr => ∃ (k : Nat) (ys : List (Pl l)), k ≤ len ∧ i = .int .i64 k ∧ Hid (plv ys = frs l k) ∧ J ys wr ∧ Hid (Below n₀ W wr)) (fun i _ => len - (intOf i).toNat)
  case atStart => exact ⟨0, [], Nat.zero_le _, rfl, rfl, h0, Below.refl _ _⟩
  case round =>
    obtain ⟨k, ys, hk, rfl, hys, hJs, hb⟩ := hrel
    by_cases hlt : k < len
    · obtain ⟨ad, rfl, x0, x1, x2, x3⟩ := hl.out.at_ hlt
      have hkl : k < l.length := by rw [hlen.out]; exact hlt
      have hlo := hlow ad rfl
      have a0 : (ad.add (k * 4)).block = ad.block := by unfold Addr.add; split <;> rfl
      have y0 : wr.cell? (ad.add (k * 4)) = some (.int .i64 (eth l k).block) := (hb.out.cell (by rw [a0]; exact hlo)).trans x0
      have y1 := (hb.out.cell (p := ⟨(ad.add (k * 4)).block, (ad.add (k * 4)).off + 1, none⟩) (by dsimp only; rw [a0]; exact hlo)).trans x1
      have y2 := (hb.out.cell (p := ⟨(ad.add (k * 4)).block, (ad.add (k * 4)).off + 2, none⟩) (by dsimp only; rw [a0]; exact hlo)).trans x2
      have y3 := (hb.out.cell (p := ⟨(ad.add (k * 4)).block, (ad.add (k * 4)).off + 3, none⟩) (by dsimp only; rw [a0]; exact hlo)).trans x3
      clear x0 x1 x2 x3 a0 hlo
      have hlen2 : Hid (ys.length < len) := by
        have e : (plv ys).length = (frs l k).length := by rw [hys.out]
        have h2 := frs_len l k
        simp only [plv, List.length_map] at e
        unfold Hid
        omega
      have hb2 : ∀ o, Below n₀ W (wr.alloc o) := fun o => hb.out.alloc (by have := hb.out.size; omega) o
      replace hb2 := hid hb2
      cases hq : ((eth l k).kind == 0) with
      | true =>
        have f1 := hid (frs_yes hq)
        obtain ⟨px, hpx⟩ : ∃ px : Pl l, px.1 = k := ⟨⟨k, hkl, by simpa using hq⟩, rfl⟩
        replace hpx := hid hpx
        generalize (eth l k).kind = z2 at *
        generalize (eth l k).block = z0 at *
        generalize (eth l k).blocks = z1 at *
        generalize (eth l k).s = z3 at *
        have hYk := hY ys px (wr.alloc (.cells #[.int .i64 z0, .int .i64 z1, .int .i64 z2, .string z3] 78)) (hnew.out _ _ _ hJs) hlen2.out
        rw [hpx.out] at hYk
        obtain ⟨fn, tmps, assign, body, hy, hR⟩ := hYk
        gi_wp2
        refine hR.mono ?_
        rintro e W3 (⟨rfl, hJ3, hk3⟩ | ⟨rfl, hJx3⟩)
        · gi_wp2
          go_roundw
          case rel => exact ⟨k + 1, ys ++ [px], by omega, by go_num, by unfold Hid plv; rw [f1.out, ← hys.out]; simp [plv, hpx.out], hJ3, (hb2.out _).trans hk3⟩
          case measure => simp [intOf]; omega
        · gi_wp2
          refine bodyPost_ret (results_none rfl _ _ _) rfl ?_
          exact ⟨⟨_, rfl⟩, .inr ⟨_, by unfold plv; have := frs_pre l len (k + 1) (by omega); rw [f1.out, ← hys.out] at this; simpa [plv, hpx.out] using this, hJx3⟩⟩
      | false =>
        have f1 := hid (frs_no hq)
        generalize (eth l k).kind = z2 at *
        generalize (eth l k).block = z0 at *
        generalize (eth l k).blocks = z1 at *
        generalize (eth l k).s = z3 at *
        gi_wp2
        refine ⟨fun _ h => (by cases h), ?_⟩
        gi_wp2
        go_roundw
        case rel => exact ⟨k + 1, ys, by omega, by go_num, by unfold Hid; rw [f1.out]; exact hys.out, hnew.out _ _ _ hJs, hb2.out _⟩
        case measure => simp [intOf]; omega
    · obtain rfl : k = len := by omega
      gi_wp2
      go_end0
      exact ⟨⟨_, rfl⟩, .inl ⟨_, hys.out, hJs⟩⟩
end Go.Proofs.Ytcgjhloiokpicaa
