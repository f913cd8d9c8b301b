/-
  The numbers under which this program holds the library's mutex, and that it holds it.
-/
import Derived.Test.YtpijfiaecicpfaaProg
import Derived.Conc.RwLib
import Derived.Conc.MuData
import Derived.Conc.MuLone
import Derived.KernelRfl
namespace Go.Proofs.Ytpijfiaecicpfaa
abbrev muLink : Go.Conc.Locks.MuLink := { lock := 59, unlock := 60, ilock := 94, iunlock := 95, lockSlow := 114, unlockSlow := 117, disable := 110, enable := 112, acquire := 113, relMerge := 115, cas32 := 111, add32 := 116, tMutex := 89, tIMutex := 87, tPMutex := 133, tPIMutex := 144, tPI32 := 146, tUP := 148, tNoCopy := 84, tU32 := 85 }
theorem muLib : Go.Conc.Locks.MuLib Try.prog muLink :=
  ⟨Try.func59, Try.func60, Try.func94, Try.func95, Try.func110, Try.func112, Try.func113, Try.func115, Try.func111, Try.func116, Try.underlying87, Try.runUnderlying87, Try.sizeOf87, Try.isAgg87, Try.zeroValue87, Try.underlying89, Try.runUnderlying89, Try.sizeOf89, Try.isAgg89, Try.zeroValue89, Try.underlying133, Try.runUnderlying133, Try.sizeOf133, Try.isAgg133, Try.zeroValue133, Try.underlying144, Try.runUnderlying144, Try.sizeOf144, Try.isAgg144, Try.zeroValue144, Try.underlying146, Try.runUnderlying146, Try.sizeOf146, Try.isAgg146, Try.zeroValue146, Try.underlying148, Try.runUnderlying148, Try.sizeOf148, Try.isAgg148, Try.zeroValue148, Try.underlying84, Try.runUnderlying84, Try.sizeOf84, Try.isAgg84, Try.zeroValue84, Try.underlying21, Try.runUnderlying21, Try.sizeOf21, Try.isAgg21, Try.zeroValue21, (by kernel_rfl)⟩
end Go.Proofs.Ytpijfiaecicpfaa
