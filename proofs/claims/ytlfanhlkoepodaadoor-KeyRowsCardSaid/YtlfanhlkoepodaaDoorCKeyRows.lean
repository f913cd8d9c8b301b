/-
  The statement 'KeyRowsCardSaid': for every input the call of the law returns true, and each argument reads behind the call as it read before; the listed tables of Go's library are tied to the program's text. No condition.
-/
import Derived.Test.YtlfanhlkoepodaaDoorRows
import Derived.Test.YtlfanhlkoepodaaDoorCards
import Derived.Test.YtlfanhlkoepodaaDoorTie
import Derived.LaidMore
import Derived.Lay
import Derived.SevenTiedAt
import Derived.Stop.Joined
import Derived.WalkKit
import Derived.ProofKit
import Derived.OpenShut
import Derived.ShutString
import Derived.ChangeOld
import Derived.Below
import Derived.Lib.SmallJoins
import Derived.Test.YtlfanhlkoepodaaDoorK34
import Derived.Test.YtlfanhlkoepodaaDoorRV
import Derived.Test.YtlfanhlkoepodaaDoorWrap
namespace Go.Proofs.YtlfanhlkoepodaaDoor.keyRows
open Go.ChangeShapes Go.WideShapes Go.ChangeAt Go.RowKit
open Go.ChangeMaps (open_string shut_string)
set_option linter.unusedVariables false

theorem own : ownKnob Tryd.prog.godebug = none := by kernel_rfl
theorem laidOut : laidOutB Tryd.prog = true := by kernel_rfl

set_option maxRecDepth 100000 in
theorem lifted (os : Os) (started : os.Started) (H : Type) (enc : TypeId × Value → H) :
    ReturnsInHanded {} Tryd.checked os 12 .any (fun w args => (Rows.keyRowsSpec.pre enc Tryd.prog Tryd.f12 Rows.keyRowsRow.domain false w args ∧ laidMetH Tryd.prog Rows.keyRowsRow.laid w) ∧ sizedMet enc Tryd.prog Tryd.f12 (OpenSpec.ofChange Rows.keyRowsSpec) false w args)
      (Rows.keyRowsSpec.post enc Tryd.prog Tryd.f12 false true false false) := by
  refine handed_shaped (C := Tryd.checked) (X := fun w _ => laidMetH Tryd.prog Rows.keyRowsRow.laid w) (fun _ _ _ hh h => h.of_heap hh) own started (by kernel_rfl) Tryd.func12
    (ChangeSpec.witness_shaped (enc := enc) (C := Tryd.checked) (os := os) (X := fun w _ => laidMetH Tryd.prog Rows.keyRowsRow.laid w) false (World.laidAll Tryd.prog os Rows.keyRowsRow.laid) #[.slice none 0 0, .slice none 0 0, .int .i64 0] 8 (World.laidAll_os _ _ _)
      (World.shaped_of_ZipB (by kernel_rfl) (by kernel_rfl)) (by kernel_rfl) (by kernel_rfl) (by kernel_rfl)
      (by rw [MakeChecks.laidMetH_plain _ _ _ (by kernel_rfl)]; exact laidMet_laidAll _ (by kernel_rfl) (by kernel_rfl))) ?_
  intro W base args ds gs before hsh hval0 hW hsz0 hL
  have hsz : (DataW.weightsEach Tryd.prog (Tryd.f12.params.toList ++ Rows.keyRowsSpec.plain.varTypes Tryd.prog) (ds ++ gs)).all (· ≤ reachBytes) = true := hsz0
  have hval : ∀ (j : Nat) t v, Tryd.f12.params[j]? = some t → args[j]? = some v → Value.okWide Tryd.prog W .any base t v := hval0
  have hW' := hW
  obtain ⟨p, q, hA0, hV, rfl, hfz, hnd⟩ := hW
  have hA : DataW.TrodAll enc Tryd.prog W 0 (fun _ => true) true Tryd.f12.params.toList args.toList ds p := hA0
  rw [Tryd.params12] at hA hval hsz
  obtain ⟨v0, vs0, d0, ds0, p0, q0, hargs, rfl, rfl, h0, r0⟩ := trodAll_cons hA
  obtain ⟨v1, vs1, d1, ds1, p1, q1, rfl, rfl, rfl, h1, r1⟩ := trodAll_cons r0
  obtain ⟨v2, vs2, d2, ds2, p2, q2, rfl, rfl, rfl, h2, r2⟩ := trodAll_cons r1
  obtain ⟨rfl, rfl, rfl⟩ := trodAll_nil r2
  obtain rfl : args = #[v0, v1, v2] := by cases args; simp_all
  obtain ⟨rfl, rfl⟩ := trodVars_none hV
  have k0 := h0
  have lt0 : ∀ x ∈ p0, x.block < W.heap.size := by obtain ⟨m, hm⟩ := k0; exact DataW.trod_lt m _ _ _ hm
  obtain ⟨a0, n0, c0, l0, rfl, w0, xx0⟩ : ∃ a n c l, v0 = .slice a n c ∧ RdV W a n c l ∧ ∀ B, (∀ m ∈ d0.weights Tryd.prog 63, m ≤ B) → (n * 32 ≤ B ∧ ∀ (j : Nat) (v : VL), l[j]? = some v → v.2.2.size ≤ B) := by
    obtain ⟨a, n, c, rfl⟩ := okWide_slice Tryd.underlying63 (hval 0 63 v0 rfl rfl)
    obtain ⟨fuel, hf⟩ := h0
    obtain ⟨a', n', c', l, e, hr, hB⟩ := vals_read (cs := [.slice a n c]) (by simpa [Value.cells] using hf)
    simp only [List.cons.injEq, Value.slice.injEq, and_true] at e
    obtain ⟨rfl, rfl, rfl⟩ := e
    exact ⟨_, _, _, l, rfl, hr, hB⟩
  have x0 := xx0 140737488351232 (fun m hm => weigh hsz (j := 0) rfl rfl hm)
  clear xx0
  have k1 := h1
  have lt1 : ∀ x ∈ p1, x.block < W.heap.size := by obtain ⟨m, hm⟩ := k1; exact DataW.trod_lt m _ _ _ hm
  obtain ⟨a1, n1, c1, l1, rfl, w1, xx1⟩ : ∃ a n c l, v1 = .slice a n c ∧ RdO W a n c l ∧ ∀ B, (∀ m ∈ d1.weights Tryd.prog 62, m ≤ B) → n ≤ B := by
    obtain ⟨a, n, c, rfl⟩ := okWide_slice Tryd.underlying62 (hval 1 62 v1 rfl rfl)
    obtain ⟨fuel, hf⟩ := h1
    obtain ⟨a', n', c', l, e, hr, hB⟩ := bools_read (cs := [.slice a n c]) (by simpa [Value.cells] using hf)
    simp only [List.cons.injEq, Value.slice.injEq, and_true] at e
    obtain ⟨rfl, rfl, rfl⟩ := e
    exact ⟨_, _, _, l, rfl, hr, hB⟩
  have x1 := xx1 140737488351232 (fun m hm => weigh hsz (j := 1) rfl rfl hm)
  clear xx1
  have k2 := h2
  have lt2 : ∀ x ∈ p2, x.block < W.heap.size := by obtain ⟨m, hm⟩ := k2; exact DataW.trod_lt m _ _ _ hm
  obtain ⟨a2, rfl, rfl, rfl, w2⟩ := open_int Tryd.underlying3 (hval 2 3 v2 rfl rfl) h2
  have hml := ml_cell hsh
  clear hA0 hval0
  refine (rows_law a0 n0 c0 l0 a1 n1 c1 l1 a2 W w0 x0 w1 x1 w2 hml).mono fun e W' ⟨he, bel⟩ => ?_
  subst he
  exact ⟨_, rfl, _, _, _, [], _, [], hW', trodAll_mk1 (shut_bool Tryd.underlying4 _), (trodAll_cons_mk (Below.trod laidOut (by kernel_rfl) (of_decide_eq_true (by kernel_rfl)) k0 bel lt0) (trodAll_cons_mk (Below.trod laidOut (by kernel_rfl) (of_decide_eq_true (by kernel_rfl)) k1 bel lt1) (trodAll_cons_mk (shut_int Tryd.underlying3 w2) trodAll_mk0))), rfl, bel.frame _, fun h => by cases h⟩

theorem over : Rows.keyRowsRow.holds Tryd.pinned (OpenSpec.ofChange Rows.keyRowsSpec) :=
  OpenClaim.holds_of_wide 12 Tryd.f12 rfl rfl rfl rfl rfl rfl rfl ⟨rfl, rfl, rfl, rfl, rfl⟩ rfl rfl rfl rfl rfl (by kernel_rfl) Tryd.func12 (by kernel_rfl)
    (of_decide_eq_true (by kernel_rfl)) (by unfold Func.isWrapper; first | (rw [if_pos (by decide +kernel)]; kernel_rfl) | (rw [if_neg (by decide +kernel)]; exact ⟨rfl, rfl⟩))
    (fun os started H enc _ => lifted os started H enc)

theorem proved : Rows.KeyRowsCardSaid :=
  Claim7.holds_tied_plain_at .later [] [.data, .pinned] true (true, "4a45da202b5c975420807910f660f7375a72f5c08c66fd929621f1ac6e40e85a") false over (fun _ h => by cases h) (by kernel_rfl) (fun _ h => by cases h) keyRows_row_tie rfl ⟨rfl, rfl⟩ (by kernel_rfl) rfl
    (fun f fn hf hfn => by
      obtain rfl : f = 12 := Option.some.inj ((show Tryd.prog.funcNamed "cabinetry/cabinetrylaw09.KeyRows" = some 12 by kernel_rfl).symm.trans hf) |>.symm
      obtain rfl : fn = Tryd.f12 := (Option.some.inj (Tryd.func12.symm.trans hfn)).symm
      exact ⟨by kernel_rfl, fun j t ht => by
        rw [Tryd.params12] at ht
        have hm : t ∈ [63, 62, 3] := by simpa using Array.mem_of_getElem? ht
        have hall : ([63, 62, 3].all fun u => !Tryd.prog.wantsStandIn u) = true := by kernel_rfl
        exact (show Tryd.prog.wantsStandIn t = false by simpa using List.all_eq_true.1 hall t hm)⟩)
    (by kernel_rfl)
#print axioms proved
end Go.Proofs.YtlfanhlkoepodaaDoor.keyRows
