/-
  The numbers under which this program holds the library's mutex, and that it holds it.
-/
import Derived.Test.YtcgjhloiokpicaaProg
import Derived.Conc.RwLib
import Derived.Conc.MuData
import Derived.Conc.MuLone
import Derived.KernelRfl
namespace Go.Proofs.Ytcgjhloiokpicaa
abbrev muLink : Go.Conc.Locks.MuLink := { lock := 40, unlock := 41, ilock := 62, iunlock := 63, lockSlow := 76, unlockSlow := 79, disable := 72, enable := 74, acquire := 75, relMerge := 77, cas32 := 73, add32 := 78, tMutex := 73, tIMutex := 71, tPMutex := 102, tPIMutex := 111, tPI32 := 113, tUP := 115, tNoCopy := 68, tU32 := 69 }
theorem muLib : Go.Conc.Locks.MuLib Try.prog muLink :=
  ⟨Try.func40, Try.func41, Try.func62, Try.func63, Try.func72, Try.func74, Try.func75, Try.func77, Try.func73, Try.func78, Try.underlying71, Try.runUnderlying71, Try.sizeOf71, Try.isAgg71, Try.zeroValue71, Try.underlying73, Try.runUnderlying73, Try.sizeOf73, Try.isAgg73, Try.zeroValue73, Try.underlying102, Try.runUnderlying102, Try.sizeOf102, Try.isAgg102, Try.zeroValue102, Try.underlying111, Try.runUnderlying111, Try.sizeOf111, Try.isAgg111, Try.zeroValue111, Try.underlying113, Try.runUnderlying113, Try.sizeOf113, Try.isAgg113, Try.zeroValue113, Try.underlying115, Try.runUnderlying115, Try.sizeOf115, Try.isAgg115, Try.zeroValue115, Try.underlying68, Try.runUnderlying68, Try.sizeOf68, Try.isAgg68, Try.zeroValue68, Try.underlying21, Try.runUnderlying21, Try.sizeOf21, Try.isAgg21, Try.zeroValue21, (by kernel_rfl)⟩
end Go.Proofs.Ytcgjhloiokpicaa
