/-
  No cell of these rows narrows 'for every input' (looked for: loops, veiled, ifaces, maps, wideKeys, modest, calm, conditions, laid).
  DERIVED. THE GIVEN ROWS OF THIS SEAT. 6 by the template 'for every input the law returns true; each argument reads behind the call as it read before'; 0 by the template 'total and deterministic' (their statements: YtpijfiaecicpfaaTotals.lean).
  GIVEN WITH THE SEED: the statements are not yours to turn. If you find one false, say at which input.
  Laid BY PROGRAM, IN A SANDBOX (cutbox-rows.mjs): the forced cells as the released guide's own fill.sh prints them over the translation 55d60afdb44d5afa… (all of the seat's roots in one cut). By AI agents, Wed Nov 11 2026. No macro, syntax, notation, axiom, sorry.
-/
import Derived.Test.YtpijfiaecicpfaaChecked
import GoSem.Claim
import GoSem.ClaimJoined
import GoSem.ClaimMapViews
import Derived.JoinedTies
import Derived.KernelRfl
namespace Go.Proofs.Ytpijfiaecicpfaa
/- THE CELL 'sum', in the pinned program and in every row, IS THE sha256 OF THE DUMP (.gsa) THAT YtpijfiaecicpfaaProg.lean LOADS. Nothing in Lean hashes anything: it is a label: what it is worth is what the hold of that sum in a sandbox is worth. -/
noncomputable def Try.pinned : Pinned := { name := "ytpijfiaecicpfaa", sum := "55d60afdb44d5afaf7c246a3fbfa2eec1b8cd1a641503b3fb12f9902386d5920", checked := Try.checked }
namespace Rows
def none {H : Type} : Left H := { results := [], args := [] }

/-- 'cabinetrylaw10.BtreeBuilds': WHATEVER THE INPUT: true; the input reads as it did. -/
def btreeBuildsSpec : ChangeSpec := { name := "btreeBuilds", fn := fun _ => fun
  | [d1, d2] => { results := [.lit (.bool true)], args := [d1, d2] }
  | _ => none }
def btreeBuildsRow : OpenClaim := { program := "ytpijfiaecicpfaa", sum := "55d60afdb44d5afaf7c246a3fbfa2eec1b8cd1a641503b3fb12f9902386d5920", func := "cabinetry/cabinetrylaw10.BtreeBuilds", spec := "btreeBuilds", inPlace := ["(*internal/sync.Mutex).Lock", "internal/race.Disable", "sync/atomic.CompareAndSwapInt32", "internal/race.Enable", "internal/race.Acquire", "(*internal/sync.Mutex).lockSlow", "internal/sync.runtime_canSpin", "internal/sync.runtime_doSpin", "internal/sync.throw", "internal/sync.runtime_nanotime", "internal/sync.runtime_SemacquireMutex", "sync/atomic.AddInt32", "(*internal/sync.Mutex).Unlock", "internal/race.ReleaseMerge", "(*internal/sync.Mutex).unlockSlow", "internal/sync.fatal", "internal/sync.runtime_Semrelease", "internal/bytealg.abigen_runtime_cmpstring", "slices.overlaps[cabinetry/btree.entry]", "slices.overlaps[*cabinetry/btree.node]"], unfollowed := true, recurses := true, apart := false }
def BtreeBuildsSaid : Prop := btreeBuildsRow.holds Try.pinned (OpenSpec.ofChange btreeBuildsSpec)

/-- ITS FALSE NEIGHBOUR: 'it returns false'. Refute it at one input. -/
def btreeBuildsWrong : ChangeSpec := { name := "btreeBuilds", fn := fun _ => fun
  | [d1, d2] => { results := [.lit (.bool false)], args := [d1, d2] }
  | _ => none }
def BtreeBuildsWrongFalsely : Prop := btreeBuildsRow.holds Try.pinned (OpenSpec.ofChange btreeBuildsWrong)

/-- 'cabinetrylaw10.BtreeChecks': WHATEVER THE INPUT: true; the input reads as it did. -/
def btreeChecksSpec : ChangeSpec := { name := "btreeChecks", fn := fun _ => fun
  | [d] => { results := [.lit (.bool true)], args := [d] }
  | _ => none }
def btreeChecksRow : OpenClaim := { program := "ytpijfiaecicpfaa", sum := "55d60afdb44d5afaf7c246a3fbfa2eec1b8cd1a641503b3fb12f9902386d5920", func := "cabinetry/cabinetrylaw10.BtreeChecks", spec := "btreeChecks", inPlace := ["(*internal/sync.Mutex).Lock", "internal/race.Disable", "sync/atomic.CompareAndSwapInt32", "internal/race.Enable", "internal/race.Acquire", "(*internal/sync.Mutex).lockSlow", "internal/sync.runtime_canSpin", "internal/sync.runtime_doSpin", "internal/sync.throw", "internal/sync.runtime_nanotime", "internal/sync.runtime_SemacquireMutex", "sync/atomic.AddInt32", "(*internal/sync.Mutex).Unlock", "internal/race.ReleaseMerge", "(*internal/sync.Mutex).unlockSlow", "internal/sync.fatal", "internal/sync.runtime_Semrelease", "internal/bytealg.abigen_runtime_cmpstring", "slices.overlaps[cabinetry/btree.entry]", "slices.overlaps[*cabinetry/btree.node]"], unfollowed := true, recurses := true, apart := false }
def BtreeChecksSaid : Prop := btreeChecksRow.holds Try.pinned (OpenSpec.ofChange btreeChecksSpec)

/-- ITS FALSE NEIGHBOUR: 'it returns false'. Refute it at one input. -/
def btreeChecksWrong : ChangeSpec := { name := "btreeChecks", fn := fun _ => fun
  | [d] => { results := [.lit (.bool false)], args := [d] }
  | _ => none }
def BtreeChecksWrongFalsely : Prop := btreeChecksRow.holds Try.pinned (OpenSpec.ofChange btreeChecksWrong)

/-- 'cabinetrylaw10.BtreeReads': WHATEVER THE INPUT: true; the input reads as it did. -/
def btreeReadsSpec : ChangeSpec := { name := "btreeReads", fn := fun _ => fun
  | [d] => { results := [.lit (.bool true)], args := [d] }
  | _ => none }
def btreeReadsRow : OpenClaim := { program := "ytpijfiaecicpfaa", sum := "55d60afdb44d5afaf7c246a3fbfa2eec1b8cd1a641503b3fb12f9902386d5920", func := "cabinetry/cabinetrylaw10.BtreeReads", spec := "btreeReads", inPlace := ["(*internal/sync.Mutex).Lock", "internal/race.Disable", "sync/atomic.CompareAndSwapInt32", "internal/race.Enable", "internal/race.Acquire", "(*internal/sync.Mutex).lockSlow", "internal/sync.runtime_canSpin", "internal/sync.runtime_doSpin", "internal/sync.throw", "internal/sync.runtime_nanotime", "internal/sync.runtime_SemacquireMutex", "sync/atomic.AddInt32", "(*internal/sync.Mutex).Unlock", "internal/race.ReleaseMerge", "(*internal/sync.Mutex).unlockSlow", "internal/sync.fatal", "internal/sync.runtime_Semrelease", "internal/bytealg.abigen_runtime_cmpstring", "slices.overlaps[cabinetry/btree.entry]", "slices.overlaps[*cabinetry/btree.node]"], unfollowed := true, recurses := true, apart := false }
def BtreeReadsSaid : Prop := btreeReadsRow.holds Try.pinned (OpenSpec.ofChange btreeReadsSpec)

/-- ITS FALSE NEIGHBOUR: 'it returns false'. Refute it at one input. -/
def btreeReadsWrong : ChangeSpec := { name := "btreeReads", fn := fun _ => fun
  | [d] => { results := [.lit (.bool false)], args := [d] }
  | _ => none }
def BtreeReadsWrongFalsely : Prop := btreeReadsRow.holds Try.pinned (OpenSpec.ofChange btreeReadsWrong)

/-- 'cabinetrylaw10.BtreeWrites': WHATEVER THE INPUT: true; the input reads as it did. -/
def btreeWritesSpec : ChangeSpec := { name := "btreeWrites", fn := fun _ => fun
  | [d] => { results := [.lit (.bool true)], args := [d] }
  | _ => none }
def btreeWritesRow : OpenClaim := { program := "ytpijfiaecicpfaa", sum := "55d60afdb44d5afaf7c246a3fbfa2eec1b8cd1a641503b3fb12f9902386d5920", func := "cabinetry/cabinetrylaw10.BtreeWrites", spec := "btreeWrites", inPlace := ["(*internal/sync.Mutex).Lock", "internal/race.Disable", "sync/atomic.CompareAndSwapInt32", "internal/race.Enable", "internal/race.Acquire", "(*internal/sync.Mutex).lockSlow", "internal/sync.runtime_canSpin", "internal/sync.runtime_doSpin", "internal/sync.throw", "internal/sync.runtime_nanotime", "internal/sync.runtime_SemacquireMutex", "sync/atomic.AddInt32", "(*internal/sync.Mutex).Unlock", "internal/race.ReleaseMerge", "(*internal/sync.Mutex).unlockSlow", "internal/sync.fatal", "internal/sync.runtime_Semrelease", "internal/bytealg.abigen_runtime_cmpstring", "slices.overlaps[cabinetry/btree.entry]", "slices.overlaps[*cabinetry/btree.node]"], unfollowed := true, recurses := true, apart := false }
def BtreeWritesSaid : Prop := btreeWritesRow.holds Try.pinned (OpenSpec.ofChange btreeWritesSpec)

/-- ITS FALSE NEIGHBOUR: 'it returns false'. Refute it at one input. -/
def btreeWritesWrong : ChangeSpec := { name := "btreeWrites", fn := fun _ => fun
  | [d] => { results := [.lit (.bool false)], args := [d] }
  | _ => none }
def BtreeWritesWrongFalsely : Prop := btreeWritesRow.holds Try.pinned (OpenSpec.ofChange btreeWritesWrong)

/-- 'cabinetrylaw10.BtreeAnyRow': WHATEVER THE INPUT: true; the input reads as it did. -/
def btreeAnyRowSpec : ChangeSpec := { name := "btreeAnyRow", fn := fun _ => fun
  | [d] => { results := [.lit (.bool true)], args := [d] }
  | _ => none }
def btreeAnyRowRow : OpenClaim := { program := "ytpijfiaecicpfaa", sum := "55d60afdb44d5afaf7c246a3fbfa2eec1b8cd1a641503b3fb12f9902386d5920", func := "cabinetry/cabinetrylaw10.BtreeAnyRow", spec := "btreeAnyRow", inPlace := ["(*internal/sync.Mutex).Lock", "internal/race.Disable", "sync/atomic.CompareAndSwapInt32", "internal/race.Enable", "internal/race.Acquire", "(*internal/sync.Mutex).lockSlow", "internal/sync.runtime_canSpin", "internal/sync.runtime_doSpin", "internal/sync.throw", "internal/sync.runtime_nanotime", "internal/sync.runtime_SemacquireMutex", "sync/atomic.AddInt32", "(*internal/sync.Mutex).Unlock", "internal/race.ReleaseMerge", "(*internal/sync.Mutex).unlockSlow", "internal/sync.fatal", "internal/sync.runtime_Semrelease", "internal/bytealg.abigen_runtime_cmpstring", "slices.overlaps[cabinetry/btree.entry]", "slices.overlaps[*cabinetry/btree.node]"], unfollowed := true, recurses := true, apart := false }
def BtreeAnyRowSaid : Prop := btreeAnyRowRow.holds Try.pinned (OpenSpec.ofChange btreeAnyRowSpec)

/-- ITS FALSE NEIGHBOUR: 'it returns false'. Refute it at one input. -/
def btreeAnyRowWrong : ChangeSpec := { name := "btreeAnyRow", fn := fun _ => fun
  | [d] => { results := [.lit (.bool false)], args := [d] }
  | _ => none }
def BtreeAnyRowWrongFalsely : Prop := btreeAnyRowRow.holds Try.pinned (OpenSpec.ofChange btreeAnyRowWrong)

/-- 'cabinetrylaw10.BtreeNil': WHATEVER THE INPUT: true; the input reads as it did. -/
def btreeNilSpec : ChangeSpec := { name := "btreeNil", fn := fun _ => fun
  | [d1, d2] => { results := [.lit (.bool true)], args := [d1, d2] }
  | _ => none }
def btreeNilRow : OpenClaim := { program := "ytpijfiaecicpfaa", sum := "55d60afdb44d5afaf7c246a3fbfa2eec1b8cd1a641503b3fb12f9902386d5920", func := "cabinetry/cabinetrylaw10.BtreeNil", spec := "btreeNil", inPlace := ["(*internal/sync.Mutex).Lock", "internal/race.Disable", "sync/atomic.CompareAndSwapInt32", "internal/race.Enable", "internal/race.Acquire", "(*internal/sync.Mutex).lockSlow", "internal/sync.runtime_canSpin", "internal/sync.runtime_doSpin", "internal/sync.throw", "internal/sync.runtime_nanotime", "internal/sync.runtime_SemacquireMutex", "sync/atomic.AddInt32", "(*internal/sync.Mutex).Unlock", "internal/race.ReleaseMerge", "(*internal/sync.Mutex).unlockSlow", "internal/sync.fatal", "internal/sync.runtime_Semrelease", "internal/bytealg.abigen_runtime_cmpstring", "slices.overlaps[cabinetry/btree.entry]", "slices.overlaps[*cabinetry/btree.node]"], unfollowed := true, recurses := true, apart := false }
def BtreeNilSaid : Prop := btreeNilRow.holds Try.pinned (OpenSpec.ofChange btreeNilSpec)

/-- ITS FALSE NEIGHBOUR: 'it returns false'. Refute it at one input. -/
def btreeNilWrong : ChangeSpec := { name := "btreeNil", fn := fun _ => fun
  | [d1, d2] => { results := [.lit (.bool false)], args := [d1, d2] }
  | _ => none }
def BtreeNilWrongFalsely : Prop := btreeNilRow.holds Try.pinned (OpenSpec.ofChange btreeNilWrong)

/- THE SECOND FORM. 'bulk': how many values and letters a reading holds, each counted each time it is reached (what is shared counts as often as it is met; a slice's spare places count too). A statement '..UptoSaid' is the law's where the arguments, and the package variables that the reading takes, are together of bulk at most 1048576: NARROWER than '..Said'. Prove '..Said' where nothing that the law and all that it calls make is longer than what came in: it says more and counts as full. Else prove '..UptoSaid'. A law counts once. -/
mutual
def uptoBulk {H : Type} : DataW H → Nat
  | .lit (.string bytes) => bytes.length + 1
  | .lit _ => 1
  | .nil => 1
  | .ptr d => uptoBulk d + 1
  | .slice elems spare => uptoBulkAll elems + uptoBulkAll spare + 1
  | .agg parts => uptoBulkAll parts + 1
  | .iface _ d => uptoBulk d + 1
  | .map entries => uptoBulkEntries entries + 1
  | .held _ => 1
def uptoBulkAll {H : Type} : List (DataW H) → Nat
  | [] => 0
  | d :: r => uptoBulk d + uptoBulkAll r
def uptoBulkEntries {H : Type} : List (Lit × DataW H) → Nat
  | [] => 0
  | x :: r => uptoBulkEntry x + uptoBulkEntries r
def uptoBulkEntry {H : Type} : Lit × DataW H → Nat
  | (.string bytes, d) => bytes.length + uptoBulk d + 1
  | (_, d) => uptoBulk d + 1
 end
def uptoSmall : (H : Type) → List (DataW H) → Bool := fun _ ds => decide (uptoBulkAll ds ≤ 1048576)
def OpenSpec.upto (s : _root_.Go.ChangeSpec) : _root_.Go.OpenSpec := { _root_.Go.OpenSpec.ofChange s with cond := some uptoSmall }

/-- 'cabinetrylaw10.BtreeBuilds', WHERE WHAT IT READS IS OF BULK AT MOST 1048576: true; the input reads as it did. -/
def btreeBuildsUptoRow : OpenClaim := { program := "ytpijfiaecicpfaa", sum := "55d60afdb44d5afaf7c246a3fbfa2eec1b8cd1a641503b3fb12f9902386d5920", func := "cabinetry/cabinetrylaw10.BtreeBuilds", spec := "btreeBuilds", inPlace := ["(*internal/sync.Mutex).Lock", "internal/race.Disable", "sync/atomic.CompareAndSwapInt32", "internal/race.Enable", "internal/race.Acquire", "(*internal/sync.Mutex).lockSlow", "internal/sync.runtime_canSpin", "internal/sync.runtime_doSpin", "internal/sync.throw", "internal/sync.runtime_nanotime", "internal/sync.runtime_SemacquireMutex", "sync/atomic.AddInt32", "(*internal/sync.Mutex).Unlock", "internal/race.ReleaseMerge", "(*internal/sync.Mutex).unlockSlow", "internal/sync.fatal", "internal/sync.runtime_Semrelease", "internal/bytealg.abigen_runtime_cmpstring", "slices.overlaps[cabinetry/btree.entry]", "slices.overlaps[*cabinetry/btree.node]"], unfollowed := true, recurses := true, apart := false, narrowed := true }
def BtreeBuildsUptoSaid : Prop := btreeBuildsUptoRow.holds Try.pinned (OpenSpec.upto btreeBuildsSpec)

/-- 'cabinetrylaw10.BtreeChecks', WHERE WHAT IT READS IS OF BULK AT MOST 1048576: true; the input reads as it did. -/
def btreeChecksUptoRow : OpenClaim := { program := "ytpijfiaecicpfaa", sum := "55d60afdb44d5afaf7c246a3fbfa2eec1b8cd1a641503b3fb12f9902386d5920", func := "cabinetry/cabinetrylaw10.BtreeChecks", spec := "btreeChecks", inPlace := ["(*internal/sync.Mutex).Lock", "internal/race.Disable", "sync/atomic.CompareAndSwapInt32", "internal/race.Enable", "internal/race.Acquire", "(*internal/sync.Mutex).lockSlow", "internal/sync.runtime_canSpin", "internal/sync.runtime_doSpin", "internal/sync.throw", "internal/sync.runtime_nanotime", "internal/sync.runtime_SemacquireMutex", "sync/atomic.AddInt32", "(*internal/sync.Mutex).Unlock", "internal/race.ReleaseMerge", "(*internal/sync.Mutex).unlockSlow", "internal/sync.fatal", "internal/sync.runtime_Semrelease", "internal/bytealg.abigen_runtime_cmpstring", "slices.overlaps[cabinetry/btree.entry]", "slices.overlaps[*cabinetry/btree.node]"], unfollowed := true, recurses := true, apart := false, narrowed := true }
def BtreeChecksUptoSaid : Prop := btreeChecksUptoRow.holds Try.pinned (OpenSpec.upto btreeChecksSpec)

/-- 'cabinetrylaw10.BtreeReads', WHERE WHAT IT READS IS OF BULK AT MOST 1048576: true; the input reads as it did. -/
def btreeReadsUptoRow : OpenClaim := { program := "ytpijfiaecicpfaa", sum := "55d60afdb44d5afaf7c246a3fbfa2eec1b8cd1a641503b3fb12f9902386d5920", func := "cabinetry/cabinetrylaw10.BtreeReads", spec := "btreeReads", inPlace := ["(*internal/sync.Mutex).Lock", "internal/race.Disable", "sync/atomic.CompareAndSwapInt32", "internal/race.Enable", "internal/race.Acquire", "(*internal/sync.Mutex).lockSlow", "internal/sync.runtime_canSpin", "internal/sync.runtime_doSpin", "internal/sync.throw", "internal/sync.runtime_nanotime", "internal/sync.runtime_SemacquireMutex", "sync/atomic.AddInt32", "(*internal/sync.Mutex).Unlock", "internal/race.ReleaseMerge", "(*internal/sync.Mutex).unlockSlow", "internal/sync.fatal", "internal/sync.runtime_Semrelease", "internal/bytealg.abigen_runtime_cmpstring", "slices.overlaps[cabinetry/btree.entry]", "slices.overlaps[*cabinetry/btree.node]"], unfollowed := true, recurses := true, apart := false, narrowed := true }
def BtreeReadsUptoSaid : Prop := btreeReadsUptoRow.holds Try.pinned (OpenSpec.upto btreeReadsSpec)

/-- 'cabinetrylaw10.BtreeWrites', WHERE WHAT IT READS IS OF BULK AT MOST 1048576: true; the input reads as it did. -/
def btreeWritesUptoRow : OpenClaim := { program := "ytpijfiaecicpfaa", sum := "55d60afdb44d5afaf7c246a3fbfa2eec1b8cd1a641503b3fb12f9902386d5920", func := "cabinetry/cabinetrylaw10.BtreeWrites", spec := "btreeWrites", inPlace := ["(*internal/sync.Mutex).Lock", "internal/race.Disable", "sync/atomic.CompareAndSwapInt32", "internal/race.Enable", "internal/race.Acquire", "(*internal/sync.Mutex).lockSlow", "internal/sync.runtime_canSpin", "internal/sync.runtime_doSpin", "internal/sync.throw", "internal/sync.runtime_nanotime", "internal/sync.runtime_SemacquireMutex", "sync/atomic.AddInt32", "(*internal/sync.Mutex).Unlock", "internal/race.ReleaseMerge", "(*internal/sync.Mutex).unlockSlow", "internal/sync.fatal", "internal/sync.runtime_Semrelease", "internal/bytealg.abigen_runtime_cmpstring", "slices.overlaps[cabinetry/btree.entry]", "slices.overlaps[*cabinetry/btree.node]"], unfollowed := true, recurses := true, apart := false, narrowed := true }
def BtreeWritesUptoSaid : Prop := btreeWritesUptoRow.holds Try.pinned (OpenSpec.upto btreeWritesSpec)

/-- 'cabinetrylaw10.BtreeAnyRow', WHERE WHAT IT READS IS OF BULK AT MOST 1048576: true; the input reads as it did. -/
def btreeAnyRowUptoRow : OpenClaim := { program := "ytpijfiaecicpfaa", sum := "55d60afdb44d5afaf7c246a3fbfa2eec1b8cd1a641503b3fb12f9902386d5920", func := "cabinetry/cabinetrylaw10.BtreeAnyRow", spec := "btreeAnyRow", inPlace := ["(*internal/sync.Mutex).Lock", "internal/race.Disable", "sync/atomic.CompareAndSwapInt32", "internal/race.Enable", "internal/race.Acquire", "(*internal/sync.Mutex).lockSlow", "internal/sync.runtime_canSpin", "internal/sync.runtime_doSpin", "internal/sync.throw", "internal/sync.runtime_nanotime", "internal/sync.runtime_SemacquireMutex", "sync/atomic.AddInt32", "(*internal/sync.Mutex).Unlock", "internal/race.ReleaseMerge", "(*internal/sync.Mutex).unlockSlow", "internal/sync.fatal", "internal/sync.runtime_Semrelease", "internal/bytealg.abigen_runtime_cmpstring", "slices.overlaps[cabinetry/btree.entry]", "slices.overlaps[*cabinetry/btree.node]"], unfollowed := true, recurses := true, apart := false, narrowed := true }
def BtreeAnyRowUptoSaid : Prop := btreeAnyRowUptoRow.holds Try.pinned (OpenSpec.upto btreeAnyRowSpec)

/-- 'cabinetrylaw10.BtreeNil', WHERE WHAT IT READS IS OF BULK AT MOST 1048576: true; the input reads as it did. -/
def btreeNilUptoRow : OpenClaim := { program := "ytpijfiaecicpfaa", sum := "55d60afdb44d5afaf7c246a3fbfa2eec1b8cd1a641503b3fb12f9902386d5920", func := "cabinetry/cabinetrylaw10.BtreeNil", spec := "btreeNil", inPlace := ["(*internal/sync.Mutex).Lock", "internal/race.Disable", "sync/atomic.CompareAndSwapInt32", "internal/race.Enable", "internal/race.Acquire", "(*internal/sync.Mutex).lockSlow", "internal/sync.runtime_canSpin", "internal/sync.runtime_doSpin", "internal/sync.throw", "internal/sync.runtime_nanotime", "internal/sync.runtime_SemacquireMutex", "sync/atomic.AddInt32", "(*internal/sync.Mutex).Unlock", "internal/race.ReleaseMerge", "(*internal/sync.Mutex).unlockSlow", "internal/sync.fatal", "internal/sync.runtime_Semrelease", "internal/bytealg.abigen_runtime_cmpstring", "slices.overlaps[cabinetry/btree.entry]", "slices.overlaps[*cabinetry/btree.node]"], unfollowed := true, recurses := true, apart := false, narrowed := true }
def BtreeNilUptoSaid : Prop := btreeNilUptoRow.holds Try.pinned (OpenSpec.upto btreeNilSpec)

end Rows
end Go.Proofs.Ytpijfiaecicpfaa
