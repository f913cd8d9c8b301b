/-
  The card: no goroutine is started.
-/
import Derived.Test.YtngoebbmgpdeiaaGreatDoorRows
import Derived.JoinedOf
import Derived.SevenTiedAt
import Derived.WalkKit
import Derived.Below
namespace Go.Proofs.YtngoebbmgpdeiaaGreatDoor
open Go
theorem goes_list : Tryz.pinned.checked.prog.funcs.toList.any Func.goes = false := by kernel_rfl
theorem goes_at (g : FuncId) : (Tryz.pinned.checked.prog.funcs[g]?).any Func.goes = false := by
  have hl := goes_list
  generalize Tryz.pinned.checked.prog.funcs = F at *
  cases h : F[g]? with
  | none => rfl
  | some fn =>
    have hm : fn ∈ F.toList := by
      obtain ⟨hlt, he⟩ := Array.getElem?_eq_some_iff.1 h
      subst he
      exact Array.getElem_mem_toList hlt
    have h2 := List.any_eq_false.1 hl fn hm
    show fn.goes = false
    simpa using h2
theorem goes_any : Tryz.pinned.checked.prog.funcs.any Func.goes = false := by
  have hl := goes_list
  generalize Tryz.pinned.checked.prog.funcs = F at *
  rw [← Array.any_toList]
  exact hl
theorem goes_all (L : List FuncId) : (L.any fun g => (Tryz.pinned.checked.prog.funcs[g]?).any Func.goes) = false := by
  rw [List.any_eq_false]
  intro g _
  rw [goes_at g]
  exact Bool.false_ne_true
theorem row_goes : false = Rows.topBufferedRow.goesBy Tryz.pinned.checked.prog := by
  unfold OpenClaim.goesBy Program.goesAt Program.goesFrom
  have hst : Rows.topBufferedRow.start = .entering := rfl
  rw [hst]
  simp only [Bool.or_false]
  cases (Tryz.pinned.checked.prog.funcNamed Rows.topBufferedRow.func) with
  | none => rfl
  | some f =>
    simp only [Option.any_some]
    unfold Program.goes
    rw [goes_all, goes_any, Bool.and_false, Bool.or_false]
end Go.Proofs.YtngoebbmgpdeiaaGreatDoor
