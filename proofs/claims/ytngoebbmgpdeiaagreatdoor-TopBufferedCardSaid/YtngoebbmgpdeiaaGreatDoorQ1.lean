/-
  Records that a row of one's own holds, each with values in a block of its own: how they are copied, added, turned. No function of the program in sight; Regions that draw their order, in short steps: what is read or reckoned, what is laid, what is stored into a block that is new. Bound to no program; Rows of memory, copies, and regions that draw their order, taken step by step: bound to no program; Structs in blocks of their own; how often a walk of a table asks for them. No function of the program in sight; Tables in memory: values, fields, records; how they are read. No function of the program in sight; The numbers under which this program holds the library's mutex, and that it holds it; Words for worlds and slices that the walks of this claim use: a world that extends another one, a slice that reads as a list, a row of the call's own. No program in sight; slices.Clone of fields, values, records, files and bytes.
-/
import Derived.Test.YtngoebbmgpdeiaaGreatDoorProg
import Derived.Conc.RwLib
import Derived.Conc.MuData
import Derived.Conc.MuLone
import Derived.KernelRfl
import Derived.WalkKit
import Derived.WalkLawsBesides
import Derived.Deep.QuietTactic
import Derived.BigQuiet
import Derived.Deep.Draws
import Derived.Deep.AppendLies
import Derived.Deep.Cut
import Derived.Deep.DeepCutAuto
import Derived.Deep.MidRow
import Derived.Deep.RegionHeld3
import Derived.Deep.RegionLaw
import Derived.IntWalk
import Derived.Laws.BytesArg
import Derived.Laws.CopyOwn
import Derived.Laws.CopyRow
import Derived.Laws.IdiomStrings
import Derived.Laws.OwnMore
import Derived.Lib.AppendZerosOnto
import Derived.Lib.Bytes
import Derived.Lib.Overlaps
import Derived.Lib.SliceRun
import Derived.LoopIn
import Derived.LoopNIn
import Derived.OrdersHeld
import Derived.OwnWalkIn
import Derived.RangeFuncBound
import Derived.RangeFuncBox
import Derived.RangeFuncCalls
import Derived.RangeFuncLeaves
import Derived.RangeFuncNested
import Derived.Shelf.Abstract
import Derived.Shelf.RegionOpen
import Derived.TacticsInMore
set_option maxRecDepth 100000
set_option maxHeartbeats 40000000
set_option linter.unusedVariables false
set_option linter.unusedSimpArgs false
namespace Go.Proofs.YtngoebbmgpdeiaaGreatDoor
abbrev muLink : Go.Conc.Locks.MuLink := { lock := 69, unlock := 57, ilock := 106, iunlock := 98, lockSlow := 145, unlockSlow := 136, disable := 134, enable := 137, acquire := 144, relMerge := 133, cas32 := 143, add32 := 135, tMutex := 82, tIMutex := 80, tPMutex := 165, tPIMutex := 206, tPI32 := 210, tUP := 208, tNoCopy := 77, tU32 := 78 }
theorem muLib : Go.Conc.Locks.MuLib Tryz.prog muLink :=
  ⟨Tryz.func69, Tryz.func57, Tryz.func106, Tryz.func98, Tryz.func134, Tryz.func137, Tryz.func144, Tryz.func133, Tryz.func143, Tryz.func135, Tryz.underlying80, Tryz.runUnderlying80, Tryz.sizeOf80, Tryz.isAgg80, Tryz.zeroValue80, Tryz.underlying82, Tryz.runUnderlying82, Tryz.sizeOf82, Tryz.isAgg82, Tryz.zeroValue82, Tryz.underlying165, Tryz.runUnderlying165, Tryz.sizeOf165, Tryz.isAgg165, Tryz.zeroValue165, Tryz.underlying206, Tryz.runUnderlying206, Tryz.sizeOf206, Tryz.isAgg206, Tryz.zeroValue206, Tryz.underlying210, Tryz.runUnderlying210, Tryz.sizeOf210, Tryz.isAgg210, Tryz.zeroValue210, Tryz.underlying208, Tryz.runUnderlying208, Tryz.sizeOf208, Tryz.isAgg208, Tryz.zeroValue208, Tryz.underlying77, Tryz.runUnderlying77, Tryz.sizeOf77, Tryz.isAgg77, Tryz.zeroValue77, Tryz.underlying21, Tryz.runUnderlying21, Tryz.sizeOf21, Tryz.isAgg21, Tryz.zeroValue21, (by kernel_rfl)⟩
open Go.RowKit
theorem lyA {α : Type} {xs : List α} {i : Nat} (h : i < xs.toArray.size) : xs.toArray[i] = xs[i] := rfl
theorem lyB {α : Type} (a : α) (bs : List α) (h : 0 < (a :: bs).length) : getElem (a :: bs) 0 h = a := rfl
theorem lyC {α : Type} (a : α) (bs : List α) (i : Nat) (h : i + 1 < (a :: bs).length) : getElem (a :: bs) (i + 1) h = getElem bs i (Nat.lt_of_succ_lt_succ h) := rfl
theorem lyD {α : Type} (l : List α) (i : Nat) (a : α) : l.toArray.setIfInBounds i a = (l.set i a).toArray := List.setIfInBounds_toArray l i a
theorem lyE {α : Type} {x : α} {xs : List α} {a : α} : (x :: xs).set 0 a = a :: xs := rfl
theorem lyF {α : Type} {x : α} {xs : List α} {i : Nat} {a : α} : (x :: xs).set (i + 1) a = x :: xs.set i a := rfl
theorem block_add (a : Addr) (n : Nat) : (a.add n).block = a.block := by unfold Addr.add; split <;> rfl
theorem add_add (a : Addr) (i j : Nat) : (a.add i).add j = a.add (i + j) := by
  unfold Addr.add
  by_cases hi : i = 0 <;> by_cases hj : j = 0 <;> simp [hi, hj, Nat.add_assoc]
theorem hid {p : Prop} (h : p) : Hid p := h
def Ext (w w' : World) : Prop := Below w.heap.size w w'
theorem Ext.refl (w : World) : Ext w w := Below.refl _ _
theorem Ext.drewN (w : World) (n : Nat) : Ext w (w.drewN n) := ⟨rfl, rfl, rfl, Nat.le_refl _, fun _ _ => rfl⟩
theorem Ext.trans {a b c : World} (h : Ext a b) (k : Ext b c) : Ext a c := Below.trans h (Below.mono k h.size)
theorem Ext.size {a b : World} (h : Ext a b) : a.heap.size ≤ b.heap.size := Below.size h
theorem Ext.block {a b : World} (h : Ext a b) {k : Nat} (hk : k < a.heap.size) : b.heap[k]? = a.heap[k]? := Below.block h k hk
theorem Ext.cell {a b : World} (h : Ext a b) {p : Addr} {v : Value} (hc : a.cell? p = some v) : b.cell? p = some v :=
  (World.cell?_of_block (h.block (World.block_lt_of_cell? a p hc))).trans hc
theorem Ext.frozen {a b : World} (h : Ext a b) {p : Addr} (hp : p.block < a.heap.size) : b.frozen? p = a.frozen? p := World.frozen?_of_block (h.block hp)
theorem Ext.drewN_right {a b : World} (h : Ext a b) (n : Nat) : Ext a (b.drewN n) := h.trans (.drewN b n)
theorem Ext.drew_right {a b : World} (h : Ext a b) : Ext a b.drew := h.trans (.drewN b 1)
theorem Ext.alloc_right {a b : World} (h : Ext a b) (o : Obj) : Ext a (b.alloc o) := Below.alloc h h.size o
theorem Ext.own {w w' : World} (h : Ext w w') {base : Nat} {e : TypeId} {size : Nat} {v : Value} {n : Nat} {xs : List Value} (ho : w.ownsRow base e size v n xs) : w'.ownsRow base e size v n xs := by
  have hb : Below w.heap.size w w' := h
  exact ho.kept (row := none) ⟨hb.os, hb.tape, hb.output, hb.size, fun k hk _ => hb.block k hk⟩ (by cases v.ownBlock <;> simp)
def Rd (w : World) (size : Nat) (A : Option Addr) (n c : Nat) (xs : List Value) : Prop :=
  xs.length = n * size ∧ n ≤ c ∧ c ≤ maxLen ∧ (0 < n → ∃ ad, A = some ad ∧ ∀ j u, xs[j]? = some u → w.cell? (ad.add j) = some u)
section
variable {w w' : World} {size n c : Nat} {A : Option Addr} {xs : List Value}
theorem Rd.none_ (w : World) (size : Nat) : Rd w size none 0 0 [] := ⟨by simp, by simp, by simp, fun h => absurd h (by omega)⟩
theorem Rd.max (h : Rd w size A n c xs) : n ≤ 9223372036854775807 ∧ n ≤ c ∧ c ≤ 9223372036854775807 := by
  have h1 := h.2.1
  have h2 := h.2.2.1
  unfold maxLen at h2
  omega
theorem Rd.keep (h : Rd w size A n c xs) (hk : ∀ p v, w.cell? p = some v → w'.cell? p = some v) : Rd w' size A n c xs :=
  ⟨h.1, h.2.1, h.2.2.1, fun hn => by
    obtain ⟨ad, e, hc⟩ := h.2.2.2 hn
    exact ⟨ad, e, fun j u hu => hk _ _ (hc j u hu)⟩⟩
theorem Rd.ext (h : Rd w size A n c xs) (hb : Ext w w') : Rd w' size A n c xs := h.keep fun _ _ hc => hb.cell hc
theorem Rd.drewN (h : Rd w size A n c xs) (k : Nat) : Rd (w.drewN k) size A n c xs := h
theorem Rd.alloc (h : Rd w size A n c xs) (o : Obj) : Rd (w.alloc o) size A n c xs := h.ext ((Ext.refl w).alloc_right o)
theorem Rd.of_own {base : Nat} {e : TypeId} (h : w.ownsRow base e size (.slice A n c) n xs) : Rd w size A n c xs := by
  have h2 := h.2
  refine ⟨h.1, ?_, ?_, fun hn => ?_⟩
  · rcases h2 with ⟨_, rfl⟩ | ⟨g, cap, cur, hv, _, _, hcap, hm, _⟩
    · simp
    · injection hv with _ _ hc; omega
  · rcases h2 with ⟨hv, rfl⟩ | ⟨g, cap, cur, hv, _, _, hcap, hm, _⟩
    · injection hv with _ _ hc; simp [hc]
    · injection hv with _ _ hc; omega
  · rcases h2 with ⟨_, rfl⟩ | ⟨g, cap, cur, hv, _⟩
    · omega
    · have hA : A = some ⟨g, 0, none⟩ := by injection hv
      subst hA
      exact ⟨_, rfl, h.cells (g := g) rfl⟩
end
def cellv (w : World) (a : Addr) : Value := (w.cell? a).getD undef
def There (w : World) (b n : Nat) : Prop := ∀ o, o < n → (∃ u, w.cell? ⟨b, o, none⟩ = some u) ∧ w.frozen? ⟨b, o, none⟩ = false
section
variable {w w' : World} {b n : Nat}
theorem There.cell (h : There w b n) {o : Nat} (ho : o < n) : w.cell? ⟨b, o, none⟩ = some (cellv w ⟨b, o, none⟩) := by
  obtain ⟨u, hu⟩ := (h o ho).1
  simp [cellv, hu]
theorem There.free (h : There w b n) {o : Nat} (ho : o < n) : w.frozen? ⟨b, o, none⟩ = false := (h o ho).2
theorem There.ext (h : There w b n) (hx : Ext w w') : There w' b n := fun o ho => by
  obtain ⟨u, hu⟩ := (h o ho).1
  refine ⟨⟨u, hx.cell hu⟩, ?_⟩
  rw [hx.frozen (World.block_lt_of_cell? w _ hu)]
  exact (h o ho).2
theorem There.drew (h : There w b n) : There w.drew b n := h
theorem There.set (h : There w b n) (p : Addr) (v : Value) : There (w.setCell p v) b n := fun o ho => by
  obtain ⟨u, hu⟩ := (h o ho).1
  refine ⟨?_, by rw [World.frozen?_setCell]; exact (h o ho).2⟩
  by_cases e : p = ⟨b, o, none⟩
  · exact ⟨v, by rw [e]; exact World.cell?_setCell_same (u := u) _ _ _ hu⟩
  · exact ⟨u, by rw [World.cell?_setCell_other _ _ _ _ e]; exact hu⟩
theorem There.new (w : World) (cs : Array Value) (t : TypeId) (hn : n ≤ cs.size) : There (w.alloc (.cells cs t)) w.heap.size n := fun o ho => by
  refine ⟨⟨cs[o]'(by omega), ?_⟩, ?_⟩
  · rw [cell_of_row _ w.heap.size o cs t (0, 0) (heap_alloc_new w _)]
    simp
  · have := heap_alloc_new w (.cells cs t)
    unfold World.frozen?
    rw [this]
    simp
theorem Ext.set (h : Ext w w') {p : Addr} (hp : w.heap.size ≤ p.block) (v : Value) : Ext w (w'.setCell p v) := Below.setCell h hp v
theorem cell_far {p q : Addr} {v u : Value} (h : w.cell? q = some u) (hne : p.block ≠ q.block) : (w.setCell p v).cell? q = some u := by
  rw [World.cell?_setCell_other _ _ _ _ (fun e => hne (by rw [e]))]; exact h
end
def ints (l : List Int) : List Value := l.map (Value.int .i64)
def lenOf : Value → Nat | .slice _ n _ => n | _ => 0
def nth (l : List Int) (k : Nat) : Int := l.getD k 0
def RdI (w : World) (A : Option Addr) (n c : Nat) (l : List Int) : Prop := Rd w 1 A n c (ints l)
section
variable {w w' : World} {n c : Nat} {A : Option Addr} {l : List Int}
theorem RdI.len (h : RdI w A n c l) : l.length = n := by have := h.1; simpa [ints] using this
theorem RdI.max (h : RdI w A n c l) : n ≤ 9223372036854775807 ∧ n ≤ c ∧ c ≤ 9223372036854775807 := Rd.max h
theorem RdI.at_ (h : RdI w A n c l) {k : Nat} (hk : k < n) :
    ∃ ad, A = some ad ∧ w.cell? (ad.add k) = some (.int .i64 (nth l k)) := by
  obtain ⟨ad, hA, hc⟩ := h.2.2.2 (by omega)
  have hl := h.len
  exact ⟨ad, hA, hc k _ (by simp [ints, nth, List.getD, hl, hk])⟩
theorem RdI.cells {ad : Addr} (h : RdI w (some ad) n c l) {k : Nat} (hk : k < n) : w.cell? (ad.add k) = some (.int .i64 (nth l k)) := by
  obtain ⟨ad', hA, hc⟩ := h.at_ hk
  injection hA with hA
  subst hA
  exact hc
theorem RdI.ext (h : RdI w A n c l) (hb : Ext w w') : RdI w' A n c l := Rd.ext h hb
theorem RdI.drewN (h : RdI w A n c l) (k : Nat) : RdI (w.drewN k) A n c l := h
theorem RdI.alloc (h : RdI w A n c l) (o : Obj) : RdI (w.alloc o) A n c l := Rd.alloc h o
theorem RdI.nil (w : World) : RdI w none 0 0 [] := Rd.none_ w 1
theorem RdI.of_own {base : Nat} {e : TypeId} (h : w.ownsRow base e 1 (.slice A n c) n (ints l)) : RdI w A n c l := Rd.of_own h
end
theorem own_form {w : World} {base : Nat} {e : TypeId} {size n : Nat} {v : Value} {xs : List Value} (h : w.ownsRow base e size v n xs) : ∃ A c, v = .slice A n c ∧ n ≤ c := by
  rcases h.2 with ⟨rfl, rfl⟩ | ⟨g, cap, cur, rfl, _, _, hcap, _⟩
  · exact ⟨none, 0, rfl, Nat.le_refl _⟩
  · exact ⟨_, cap, rfl, hcap⟩
def Dr (w w' : World) : Prop := ∃ n, w' = w.drewN n
theorem Dr.refl (w : World) : Dr w w := ⟨0, rfl⟩
theorem Dr.mk1 (w : World) (n : Nat) : Dr w (w.drewN n) := ⟨n, rfl⟩
theorem Dr.mk2 (w : World) (n m : Nat) : Dr w ((w.drewN n).drewN m) := ⟨_, World.drewN_drewN _ _ _⟩
theorem Dr.ext {w w' : World} (h : Dr w w') : Ext w w' := by obtain ⟨n, rfl⟩ := h; exact Ext.drewN _ _
theorem ret_bool {a b : Bool} (h : a = b) : Ending.returned (.bool a) = .returned (.bool b) := by rw [h]
theorem wpList_push {P : Program} (w : World) {ops : Array Oper} {rest : List Oper} {o : Oper} {a : Act} {Q : Exit → Act → World → Prop} (hgd : o.guard = none) (s x : Operand) (t : TypeId)
    (ho : o.op = .call { callee := .builtin .append, args := #[s, x], argTypes := #[t, t] })
    (base : Nat) (e : TypeId) (i : TypeInfo) (z : Value) (size bytes : Nat) (ht : P.underlying t = some (.slice e)) (hi : P.info? e = some i) (hz : i.zero = some z)
    (hsize : i.size = size) (hby : i.bytes = bytes) (hzs : z.cells.size = size) (hsz : 0 < size)
    (v : Value) (n : Nat) (xs : List Value) (hs : a.eval s = v) (hown : w.ownsRow base e size v n xs)
    (es : List Value) (hx : a.eval x = .slice (some ⟨w.heap.size, 0, none⟩) 1 1) (hl : es.length = size) (h1 : ∀ u ∈ es, u.oneCell' = true)
    (h63 : n + 1 ≤ maxLen) (hbytes : (n + 1) * bytes ≤ 140737488355328) (hbase : base ≤ w.heap.size)
    (h : ∀ g cap w', w'.ownsRow base e size (.slice (some ⟨g, 0, none⟩) (n + 1) cap) (n + 1) (xs ++ es) → w.grownBy w' v.ownBlock → (v.ownBlock = some g ∨ g = w.heap.size + 1) →
      wpList P ops Q rest (a.put o.dst (.slice (some ⟨g, 0, none⟩) (n + 1) cap)) w') : wpList P ops Q (o :: rest) a (w.alloc (.cells es.toArray e)) := by
  refine wpList_append_lies _ hgd s x t ho base e i z size bytes ht hi hz hsize hby hzs hsz v n xs hs (hown.alloc _) ⟨w.heap.size, 0, none⟩ 1 1 es hx (by omega) ?_ h1 (by omega) h63 hbytes (by simp; omega) (w.heap.size + 1) (by simp) ?_
  · intro j u hu
    have hadd : (⟨w.heap.size, 0, none⟩ : Addr).add j = ⟨w.heap.size, j, none⟩ := by unfold Addr.add; split <;> simp_all
    rw [hadd, cell_of_row _ w.heap.size j es.toArray e (0, 0) (heap_alloc_new w _)]
    simpa using hu
  · intro g cap w' hown' hgrow hat hlt
    refine h g cap w' hown' ⟨hgrow.os, hgrow.tape, hgrow.output, ?_, fun k hk hne => ?_⟩ hat
    · have := hgrow.size; simp at this; omega
    · rw [hgrow.block k (by simp; omega) hne]
      exact Below.heap_alloc w _ k hk
theorem Dr.trans {a b c : World} (h : Dr a b) (k : Dr b c) : Dr a c := by obtain ⟨n, rfl⟩ := h; obtain ⟨m, rfl⟩ := k; exact Dr.mk2 _ _ _
theorem Dr.step {a b : World} (h : Dr a b) (n : Nat) : Dr a (b.drewN n) := h.trans (.mk1 _ _)
def Quiet (v : Value) (w : World) (e : Ending) (w' : World) : Prop := e = .returned v ∧ Dr w w'
theorem quiet_dr {P : Program} {f : FuncId} {args : Array Value} {w : World} {n : Nat} {v : Value}
    (h : Calls P f args (w.drewN n) (Quiet v (w.drewN n))) : Calls P f args (w.drewN n) fun e w'' => e = .returned v ∧ ∃ m, w'' = w.drewN m :=
  h.mono fun _ _ ⟨he, hm⟩ => ⟨he, Dr.trans (.mk1 _ _) hm⟩
def Fr (B : Nat) (A : Option Addr) : Prop := ∀ ad, A = some ad → B ≤ ad.block
theorem Fr.none_ (B : Nat) : Fr B none := fun _ h => by cases h
theorem Fr.mono {B C : Nat} {A : Option Addr} (h : Fr C A) (hB : B ≤ C) : Fr B A := fun ad e => Nat.le_trans hB (h ad e)
theorem Rd.far {w : World} {size n c : Nat} {A : Option Addr} {xs : List Value} (h : Rd w size A n c xs) {B : Nat} (hf : Fr B A) {p : Addr} (hp : p.block < B) (v : Value) : Rd (w.setCell p v) size A n c xs :=
  ⟨h.1, h.2.1, h.2.2.1, fun hn => by
    obtain ⟨ad, e, hc⟩ := h.2.2.2 hn
    exact ⟨ad, e, fun j u hu => cell_far (hc j u hu) (by rw [block_add]; have := hf ad e; omega)⟩⟩
theorem RdI.far {w : World} {n c : Nat} {A : Option Addr} {l : List Int} (h : RdI w A n c l) {B : Nat} (hf : Fr B A) {p : Addr} (hp : p.block < B) (v : Value) : RdI (w.setCell p v) A n c l := Rd.far h hf hp v
def Give (v : Value) (w : World) (e : Ending) (w' : World) : Prop := e = .returned v ∧ Ext w w'
theorem ret_int {k : IntKind} {a b : Int} (h : a = b) : Ending.returned (.int k a) = .returned (.int k b) := by rw [h]
open Go.RowKit Go.Shelf
theorem add_add4 (p : Addr) (i j : Nat) : (p.add i).add j = p.add (i + j) := by
  unfold Addr.add
  by_cases hi : i = 0
  · simp [hi]
  · by_cases hj : j = 0
    · simp [hi, hj]
    · simp [hi, hj]; omega
theorem cell_fk {w : World} {ad : Addr} {m j : Nat} {v : Value} (h : w.cell? (ad.add (m + j)) = some v) (hj : 0 < j) : w.cell? ⟨(ad.add m).block, (ad.add m).off + j, none⟩ = some v := by
  rw [← add_add4] at h
  generalize ad.add m = q at *
  unfold Addr.add at h
  rw [if_neg (by omega)] at h
  exact h
theorem set_get {w : World} {p : Addr} {v : Value} {u : Value} (h : w.cell? p = some u) : (w.setCell p v).cell? p = some v := World.cell?_setCell_same _ _ _ h
theorem set_keep {w : World} {p q : Addr} {v u : Value} (h : w.cell? q = some u) (hne : p ≠ q) : (w.setCell p v).cell? q = some u := by rw [World.cell?_setCell_other _ _ _ _ hne]; exact h
theorem off_ne {b i j : Nat} (h : i ≠ j) : (⟨b, i, none⟩ : Addr) ≠ ⟨b, j, none⟩ := fun e => h (by injection e)
section
variable {P : Program} {ops : Array Oper} {Q : Exit → Act → World → Prop} {md : Region.Mode} {S : World → Prop} {last : Nat}
def wpAnyJ (P : Program) (md : Region.Mode) (ops : Array Oper) (Q : Exit → Act → World → Prop) (S : World → Prop) (last : Nat) : Nat → Array Bool → Act → World → Prop
  | 0, listed, a, w => Region.ready md ops listed = [] ∧ Q .normal a w
  | fuel + 1, listed, a, w =>
    (Region.ready md ops listed = [] → Q .normal a w) ∧
    ∀ i ∈ Region.ready md ops listed, wpOp P ops Q i (fun a' w' => (i ≠ last → S w') ∧ wpAnyJ P md ops Q S last fuel (listed.setIfInBounds i true) a' w') a w
theorem wpAny_of_J : ∀ (fuel : Nat) (listed : Array Bool) (a : Act) (w : World), wpAnyJ P md ops Q S last fuel listed a w → wpAny P md ops Q fuel listed a w
  | 0, _, _, _, h => h
  | fuel + 1, _, _, _, h => ⟨h.1, fun i hi => wpOp_mono (fun a' w' h' => wpAny_of_J fuel _ a' w' h'.2) (h.2 i hi)⟩
def waits (md : Region.Mode) (ops : Array Oper) (last i : Nat) : Bool := match ops[last]? with | some o => o.after.any fun e => Region.binds md e && e.on == i | none => false
theorem waits_spec {i : Nat} {listed : Array Bool} (h : waits md ops last i = true) (hi : i ∈ Region.ready md ops listed) : last ∉ Region.ready md ops listed := by
  intro hl
  obtain ⟨_, ol, hol, hall⟩ := mem_ready.1 hl
  unfold waits at h
  rw [hol] at h
  obtain ⟨e, he, hb⟩ := Array.any_eq_true'.1 h
  simp only [Bool.and_eq_true, beq_iff_eq] at hb
  have h1 := hall e he hb.1
  have h0 := (mem_ready.1 hi).1
  rw [hb.2] at h1
  rcases Nat.lt_or_ge i listed.size with h' | h'
  · simp [h'] at h0 h1; rw [h0] at h1; cases h1
  · simp [Array.getElem?_eq_none h'] at h1
theorem wpAnyJ_first {i : Nat} {oi : Oper} {v : Value} (hi : ops[i]? = some oi) (hsel : ∀ (j : Nat) (o : Oper) cs b, ops[j]? = some o → o.op ≠ .select cs b)
    (hQ : ∀ c a w, Q (.panic c) (a.put oi.dst v) w → Q (.panic c) a w) (hw : waits md ops last i = true) :
    ∀ (fuel : Nat) (listed : Array Bool) (a : Act) (w : World),
      (∀ j oj, ops[j]? = some oj → j ≠ i → listed.getD j true = false → (∀ e ∈ oj.after, Region.binds md e = true → e.on ≠ i) → oi.apart ops oj = true) →
      i ∈ Region.ready md ops listed → YieldsIf P ops S oi v a → S w →
      wpAnyJ P md ops Q S last fuel (listed.setIfInBounds i true) (a.put oi.dst v) w → wpAnyJ P md ops Q S last (fuel + 1) listed a w := by
  intro fuel
  induction fuel with
  | zero =>
    intro listed a w _ hr hy hS H
    refine ⟨fun h => (by rw [h] at hr; cases hr), fun j hj => ?_⟩
    by_cases hji : j = i
    · subst hji; exact hy.wpOp hi hS ⟨fun _ => hS, H⟩
    · have := ready_mono hj hji
      rw [H.1] at this
      cases this
  | succ fuel ih =>
    intro listed a w hfree hr hy hS H
    refine ⟨fun h => (by rw [h] at hr; cases hr), fun j hj => ?_⟩
    by_cases hji : j = i
    · subst hji; exact hy.wpOp hi hS ⟨fun _ => hS, H⟩
    · have h1 := H.2 j (ready_mono hj hji)
      obtain ⟨hjun, oj, hoj, hall⟩ := mem_ready.1 hj
      have hjl : j ≠ last := fun e => waits_spec hw hr (e ▸ hj)
      have hnot : ∀ e ∈ oj.after, Region.binds md e = true → e.on ≠ i := fun e he hb heq => by
        have h1 := hall e he hb
        have h0 := (mem_ready.1 hr).1
        rw [heq] at h1
        rcases Nat.lt_or_ge i listed.size with h' | h'
        · simp [h'] at h0 h1; rw [h0] at h1; cases h1
        · simp [Array.getElem?_eq_none h'] at h1
      have h2 := wpOp_putIf hoj (hfree j oj hoj hji hjun hnot) (fun cs b => hsel i oi cs b hi) (fun cs b => hsel j oj cs b hoj) hQ hy h1
      have hfree' : ∀ k ok, ops[k]? = some ok → k ≠ i → (listed.setIfInBounds j true).getD k true = false →
          (∀ e ∈ ok.after, Region.binds md e = true → e.on ≠ i) → oi.apart ops ok = true := fun k ok hk hki hun hno => by
        refine hfree k ok hk hki ?_ hno
        by_cases hjk : j = k
        · subst hjk; exact hjun
        · rw [getD_set_ne true hjk] at hun; exact hun
      refine wpOp_mono (fun a' w' h3 => ⟨h3.2.1, ih (listed.setIfInBounds j true) a' w' hfree' (ready_mono hr (Ne.symm hji)) h3.1 (h3.2.1 hjl) ?_⟩) h2
      rw [Array.setIfInBounds_comm _ _ hji]
      exact h3.2.2
theorem J_take (i : Nat) {oi : Oper} {v : Value} {fuel : Nat} {listed : Array Bool} {a : Act} {w : World} (hi : ops[i]? = some oi)
    (hs : Region.noSelect ops = true) (hf : Region.free md ops listed i = true) (hr : (Region.ready md ops listed).contains i = true) (hw : waits md ops last i = true)
    (hQ : ∀ c a w, Q (.panic c) (a.put oi.dst v) w → Q (.panic c) a w) (hy : YieldsIf P ops S oi v a) (hS : S w)
    (h : wpAnyJ P md ops Q S last fuel (listed.setIfInBounds i true) (a.put oi.dst v) w) : wpAnyJ P md ops Q S last (fuel + 1) listed a w :=
  wpAnyJ_first hi (Region.noSelect_spec hs) hQ hw fuel listed a w (Region.free_spec hi hf) (by simpa using hr) hy hS h
theorem JT (i : Nat) {oi : Oper} {v : Value} {fuel : Nat} {listed : Array Bool} {a : Act} {w : World} (hS : S w) (hy : ∀ w, S w → (execOp a.eval oi).run P w = .ok (.value v) w)
    (h : wpAnyJ P md ops Q S last fuel (listed.setIfInBounds i true) (a.put oi.dst v) w) (hi : ops[i]? = some oi := by exact rfl) (hs : Region.noSelect ops = true := by kernel_rfl) (hf : Region.free md ops listed i = true := by kernel_rfl) (hr : (Region.ready md ops listed).contains i = true := by kernel_rfl)
    (hw : waits md ops last i = true := by kernel_rfl) (hQ : ∀ c a w, Q (.panic c) (a.put oi.dst v) w → Q (.panic c) a w := by exact fun _ _ _ h => h) (hg : Region.wanted oi (yielded ops a.tmps) = true := by exact rfl) : wpAnyJ P md ops Q S last (fuel + 1) listed a w := J_take i hi hs hf hr hw hQ (Or.inl ⟨hg, hy⟩) hS h
theorem J_one (i : Nat) {o : Oper} {fuel : Nat} {listed : Array Bool} {a : Act} {w : World} (hi : ops[i]? = some o) (hr : Region.ready md ops listed = [i])
    (h : ∀ K, (∀ a' w', (i ≠ last → S w') ∧ wpAnyJ P md ops Q S last fuel (listed.setIfInBounds i true) a' w' → K a' w') → if Region.wanted o (yielded ops a.tmps) = true then Oper.wp P o a w K Q else K (a.put o.dst undef) w) : wpAnyJ P md ops Q S last (fuel + 1) listed a w := by
  refine ⟨fun h0 => absurd (hr ▸ h0) (by simp), fun j hj => ?_⟩
  rw [hr, List.mem_singleton] at hj
  subst hj
  have h1 := h _ (fun _ _ h => h)
  unfold wpOp
  simp only [hi]
  split
  · rename_i hw; rw [if_pos hw] at h1; exact .inl h1
  · rename_i hw; rw [if_neg hw] at h1; exact h1
theorem J_done {fuel : Nat} {listed : Array Bool} {a : Act} {w : World} (hr : Region.ready md ops listed = []) (h : Q .normal a w) : wpAnyJ P md ops Q S last fuel listed a w := by
  cases fuel with
  | zero => exact ⟨hr, h⟩
  | succ n => exact ⟨fun _ => h, by rw [hr]; simp⟩
end
def OnlyOn (Q : Exit → Act → World → Prop) : Exit → Act → World → Prop
  | .panic _, _, _ => False
  | .outgrown, _, _ => False
  | e, a, w => Q e a w
theorem OnlyOn.imp {Q : Exit → Act → World → Prop} : ∀ (e : Exit) (a : Act) (w : World), OnlyOn Q e a w → Q e a w := fun e a w h => by
  cases e <;> first | exact h | exact (h : False).elim
theorem OnlyOn.normal {Q : Exit → Act → World → Prop} {a : Act} {w : World} (h : Q .normal a w) : OnlyOn Q .normal a w := h
theorem region_J {P : Program} {id : Nat} {ops : Array Oper} {Q : Exit → Act → World → Prop} (S : World → Prop) (last : Nat) {a : Act} {w : World} (hm : P.follows .mixedOrders = true)
    (h : wpAnyJ P .any ops (OnlyOn Q) S last ops.size (Array.replicate ops.size false) a w.drew) : (Code.region id ops true).wp P Q a w :=
  Code.wp_mono OnlyOn.imp (wp_region_any hm (wpAny_of_J _ _ _ _ h))
section
variable {P : Program} {ops : Array Oper} {Q : Exit → Act → World → Prop} {md : Region.Mode} {S : World → Prop} {last : Nat}
theorem wpAnyJ_firstO {i : Nat} {oi : Oper} {v : Value} (hi : ops[i]? = some oi) (hsel : ∀ (j : Nat) (o : Oper) cs b, ops[j]? = some o → o.op ≠ .select cs b)
    (hQ : ∀ c a w, Q (.panic c) (a.put oi.dst v) w → Q (.panic c) a w) (hw : ops.size ≤ last) :
    ∀ (fuel : Nat) (listed : Array Bool) (a : Act) (w : World),
      (∀ j oj, ops[j]? = some oj → j ≠ i → listed.getD j true = false → (∀ e ∈ oj.after, Region.binds md e = true → e.on ≠ i) → oi.apart ops oj = true) →
      i ∈ Region.ready md ops listed → YieldsIf P ops S oi v a → S w →
      wpAnyJ P md ops Q S last fuel (listed.setIfInBounds i true) (a.put oi.dst v) w → wpAnyJ P md ops Q S last (fuel + 1) listed a w := by
  intro fuel
  induction fuel with
  | zero =>
    intro listed a w _ hr hy hS H
    refine ⟨fun h => (by rw [h] at hr; cases hr), fun j hj => ?_⟩
    by_cases hji : j = i
    · subst hji; exact hy.wpOp hi hS ⟨fun _ => hS, H⟩
    · have := ready_mono hj hji
      rw [H.1] at this
      cases this
  | succ fuel ih =>
    intro listed a w hfree hr hy hS H
    refine ⟨fun h => (by rw [h] at hr; cases hr), fun j hj => ?_⟩
    by_cases hji : j = i
    · subst hji; exact hy.wpOp hi hS ⟨fun _ => hS, H⟩
    · have h1 := H.2 j (ready_mono hj hji)
      obtain ⟨hjun, oj, hoj, hall⟩ := mem_ready.1 hj
      have hjl : j ≠ last := fun e => by
        have := (Array.getElem?_eq_some_iff.1 hoj).1
        omega
      have hnot : ∀ e ∈ oj.after, Region.binds md e = true → e.on ≠ i := fun e he hb heq => by
        have h1 := hall e he hb
        have h0 := (mem_ready.1 hr).1
        rw [heq] at h1
        rcases Nat.lt_or_ge i listed.size with h' | h'
        · simp [h'] at h0 h1; rw [h0] at h1; cases h1
        · simp [Array.getElem?_eq_none h'] at h1
      have h2 := wpOp_putIf hoj (hfree j oj hoj hji hjun hnot) (fun cs b => hsel i oi cs b hi) (fun cs b => hsel j oj cs b hoj) hQ hy h1
      have hfree' : ∀ k ok, ops[k]? = some ok → k ≠ i → (listed.setIfInBounds j true).getD k true = false →
          (∀ e ∈ ok.after, Region.binds md e = true → e.on ≠ i) → oi.apart ops ok = true := fun k ok hk hki hun hno => by
        refine hfree k ok hk hki ?_ hno
        by_cases hjk : j = k
        · subst hjk; exact hjun
        · rw [getD_set_ne true hjk] at hun; exact hun
      refine wpOp_mono (fun a' w' h3 => ⟨h3.2.1, ih (listed.setIfInBounds j true) a' w' hfree' (ready_mono hr (Ne.symm hji)) h3.1 (h3.2.1 hjl) ?_⟩) h2
      rw [Array.setIfInBounds_comm _ _ hji]
      exact h3.2.2
theorem J_takeO (i : Nat) {oi : Oper} {v : Value} {fuel : Nat} {listed : Array Bool} {a : Act} {w : World} (hi : ops[i]? = some oi)
    (hs : Region.noSelect ops = true) (hf : Region.free md ops listed i = true) (hr : (Region.ready md ops listed).contains i = true) (hw : decide (ops.size ≤ last) = true)
    (hQ : ∀ c a w, Q (.panic c) (a.put oi.dst v) w → Q (.panic c) a w) (hy : YieldsIf P ops S oi v a) (hS : S w)
    (h : wpAnyJ P md ops Q S last fuel (listed.setIfInBounds i true) (a.put oi.dst v) w) : wpAnyJ P md ops Q S last (fuel + 1) listed a w :=
  wpAnyJ_firstO hi (Region.noSelect_spec hs) hQ (of_decide_eq_true hw) fuel listed a w (Region.free_spec hi hf) (by simpa using hr) hy hS h
theorem JO (i : Nat) {oi : Oper} {v : Value} {fuel : Nat} {listed : Array Bool} {a : Act} {w : World} (hS : S w) (hy : ∀ w, S w → (execOp a.eval oi).run P w = .ok (.value v) w)
    (h : wpAnyJ P md ops Q S last fuel (listed.setIfInBounds i true) (a.put oi.dst v) w) (hi : ops[i]? = some oi := by exact rfl) (hs : Region.noSelect ops = true := by kernel_rfl) (hf : Region.free md ops listed i = true := by kernel_rfl) (hr : (Region.ready md ops listed).contains i = true := by kernel_rfl)
    (hw : decide (ops.size ≤ last) = true := by kernel_rfl) (hQ : ∀ c a w, Q (.panic c) (a.put oi.dst v) w → Q (.panic c) a w := by exact fun _ _ _ h => h) (hg : Region.wanted oi (yielded ops a.tmps) = true := by exact rfl) : wpAnyJ P md ops Q S last (fuel + 1) listed a w := J_takeO i hi hs hf hr hw hQ (Or.inl ⟨hg, hy⟩) hS h
end
section
variable {P : Program} {ops : Array Oper} {Q : Exit → Act → World → Prop} {md : Region.Mode} {S : World → Prop} {last : Nat}
theorem J_two (i j : Nat) {o o' : Oper} {fuel : Nat} {listed : Array Bool} {a : Act} {w : World} (hi : ops[i]? = some o) (hj : ops[j]? = some o') (hr : Region.ready md ops listed = [i, j])
    (h : ∀ K, (∀ a' w', (i ≠ last → S w') ∧ wpAnyJ P md ops Q S last fuel (listed.setIfInBounds i true) a' w' → K a' w') → if Region.wanted o (yielded ops a.tmps) = true then Oper.wp P o a w K Q else K (a.put o.dst undef) w)
    (h' : ∀ K, (∀ a' w', (j ≠ last → S w') ∧ wpAnyJ P md ops Q S last fuel (listed.setIfInBounds j true) a' w' → K a' w') → if Region.wanted o' (yielded ops a.tmps) = true then Oper.wp P o' a w K Q else K (a.put o'.dst undef) w) : wpAnyJ P md ops Q S last (fuel + 1) listed a w := by
  refine ⟨fun h0 => absurd (hr ▸ h0) (by simp), fun k hk => ?_⟩
  rw [hr, List.mem_cons, List.mem_singleton] at hk
  rcases hk with rfl | rfl
  · have h1 := h _ (fun _ _ h => h)
    unfold wpOp
    simp only [hi]
    split
    · rename_i hw; rw [if_pos hw] at h1; exact .inl h1
    · rename_i hw; rw [if_neg hw] at h1; exact h1
  · have h1 := h' _ (fun _ _ h => h)
    unfold wpOp
    simp only [hj]
    split
    · rename_i hw; rw [if_pos hw] at h1; exact .inl h1
    · rename_i hw; rw [if_neg hw] at h1; exact h1
end
section
variable {P : Program} {ops : Array Oper} {Q : Exit → Act → World → Prop} {md : Region.Mode} {S S' : World → Prop} {last : Nat}
theorem J_strong (hS : ∀ w, S' w → S w) : ∀ {fuel : Nat} {listed : Array Bool} {a : Act} {w : World}, wpAnyJ P md ops Q S' last fuel listed a w → wpAnyJ P md ops Q S last fuel listed a w
  | 0, _, _, _, h => h
  | fuel + 1, _, _, _, h => ⟨h.1, fun i hi => wpOp_mono (fun a' w' h' => ⟨fun hn => hS _ (h'.1 hn), J_strong hS h'.2⟩) (h.2 i hi)⟩
end
theorem step_run {P : Program} {ops : Array Oper} {o : Oper} {a : Act} {w w' : World} {K : Act → World → Prop} {Q : Exit → Act → World → Prop} {E : Prop} (hgd : o.guard = none) (v : Value)
    (hr : ((execOp a.eval o).run P w) = .ok (.value v) w') (h : K (a.put o.dst v) w') : if Region.wanted o (yielded ops a.tmps) = true then Oper.wp P o a w K Q else E := by
  have hw : Region.wanted o (yielded ops a.tmps) = true := by simp [Region.wanted, hgd]
  rw [if_pos hw]
  unfold Oper.wp
  rw [hr]
  exact h
theorem ex_append {P : Program} {o : Oper} {a : Act} {w w' : World} (s x : Operand) (t tn : TypeId) (ho : o.op = .call { callee := .builtin .append, args := #[s, x], argTypes := #[t, tn] }) (vs vx : Value) (hs : a.eval s = vs) (hx : a.eval x = vx)
    (v' : Value) (hr : (Builtin.append_ #[t, tn] o.type #[vs, vx]).run P w = .ok v' w') : (execOp a.eval o).run P w = .ok (.value v') w' := by
  unfold execOp
  simp only [ho, resolve, invoke, builtin, Sem.run_bind, Sem.run_pure, Result.andThen_ok, List.map_toArray, List.map_cons, List.map_nil, hs, hx, hr]
theorem run_append_nilsrc {P : Program} (w : World) (base : Nat) (t ty e : TypeId) (i : TypeInfo) (size : Nat) (ht : P.underlying t = some (.slice e)) (hi : P.info? e = some i)
    (v : Value) (n : Nat) (xs : List Value) (hown : w.ownsRow base e size v n xs) (c : Nat) : (Builtin.append_ #[t, t] ty #[v, .slice none 0 c]).run P w = .ok v w := by
  rcases hown.2 with ⟨rfl, rfl⟩ | ⟨g, cap, cur, rfl, _, _, hnc, _⟩
  · simp [Builtin.append_, run_underlying ht, sizeOf, typeInfo, hi, Builtin.lenOf, Builtin.firstCells]
  · simp [Builtin.append_, run_underlying ht, sizeOf, typeInfo, hi, Builtin.lenOf, Builtin.firstCells, hnc, storeCells]
theorem wpList_appendAny {P : Program} (w : World) {ops : Array Oper} {rest : List Oper} {o : Oper} {a : Act} {Q : Exit → Act → World → Prop} (hgd : o.guard = none) (s x : Operand) (t : TypeId)
    (ho : o.op = .call { callee := .builtin .append, args := #[s, x], argTypes := #[t, t] })
    (base : Nat) (e : TypeId) (i : TypeInfo) (z : Value) (size bytes : Nat) (ht : P.underlying t = some (.slice e)) (hi : P.info? e = some i) (hz : i.zero = some z)
    (hsize : i.size = size) (hby : i.bytes = bytes) (hzs : z.cells.size = size) (hsz : 0 < size)
    (v : Value) (n : Nat) (xs : List Value) (hs : a.eval s = v) (hown : w.ownsRow base e size v n xs)
    (A : Option Addr) (m c : Nat) (es : List Value) (hx : a.eval x = .slice A m c) (hr : Rd w size A m c es) (h1 : ∀ u ∈ es, u.oneCell' = true)
    (h63 : n + m ≤ maxLen) (hbytes : (n + m) * bytes ≤ 140737488355328) (hbase : base ≤ w.heap.size)
    (h : ∀ v' w', w'.ownsRow base e size v' (n + m) (xs ++ es) → w.grownBy w' v.ownBlock → wpList P ops Q rest (a.put o.dst v') w') : wpList P ops Q (o :: rest) a w := by
  rcases A with _ | ad
  · have hm : m = 0 := by
      rcases Nat.eq_zero_or_pos m with h0 | h0
      · exact h0
      · obtain ⟨ad, h, _⟩ := hr.2.2.2 h0
        cases h
    subst hm
    have hn : es = [] := List.eq_nil_of_length_eq_zero (by simpa using hr.1)
    subst hn
    refine wpList_plain hgd fun K hK => ?_
    have hrun := run_append_nilsrc (P := P) w base t o.type e i size ht hi v n xs hown c
    unfold Oper.wp
    simp [execOp, ho, resolve, invoke, builtin, hs, hx, hrun, Result.andThen]
    exact hK _ _ (h v w (by simpa using hown) (World.grownBy.refl w _))
  · refine wpList_append_own w hgd s x t ho base e i z size bytes ht hi hz hsize hby hzs hsz v n xs hs hown ad m c es hx hr.1 ?_ h1 h63 hbytes hbase fun v' w' h2 h3 _ => h v' w' h2 h3
    intro j u hu
    rcases Nat.eq_zero_or_pos m with h0 | h0
    · subst h0
      have hn : es = [] := List.eq_nil_of_length_eq_zero (by simpa using hr.1)
      subst hn
      simp at hu
    · obtain ⟨ad', e', hc⟩ := hr.2.2.2 h0
      injection e' with e'
      subst e'
      exact hc j u hu
theorem own_baseK {w : World} {b b' n k : Nat} {e : TypeId} {v : Value} {xs : List Value} (h : w.ownsRow b e k v n xs) (hb : b' ≤ b) : w.ownsRow b' e k v n xs := by
  refine ⟨h.1, ?_⟩
  rcases h.2 with h2 | ⟨g, cap, cur, e1, e2, e3, e4⟩
  · exact .inl h2
  · exact .inr ⟨g, cap, cur, e1, by omega, e3, e4⟩
theorem own_setK {w : World} {B g n c o sz : Nat} {t : TypeId} {u : Value} {xs : List Value} (h : w.ownsRow B t sz (.slice (some ⟨g, 0, none⟩) n c) n xs) : (w.setCell ⟨g, o, none⟩ u).ownsRow B t sz (.slice (some ⟨g, 0, none⟩) n c) n (xs.set o u) := by
  have hl := h.1
  rcases h.2 with ⟨hv, _⟩ | ⟨g', cap, cur, hv, hB, hg, hn, hc, hs, ht⟩
  · cases hv
  · injection hv with e1 _ e3
    injection e1 with e1
    injection e1 with e1
    subst e1 e3
    refine ⟨by rw [List.length_set]; exact hl, .inr ⟨g, c, cur.setIfInBounds o u, rfl, hB, ?_, hn, hc, by simpa using hs, ?_⟩⟩
    · simp [World.setCell, Array.getElem?_modify, hg]
    · rw [Array.toList_setIfInBounds, List.take_set, ht]
open Go.RowKit Go.Shelf
section
variable {P : Program} {ops : Array Oper} {Q : Exit → Act → World → Prop} {md : Region.Mode} {S : World → Prop} {last : Nat}
def jok (md : Region.Mode) (ops : Array Oper) (listed : Array Bool) (i last : Nat) : Bool := Region.noSelect ops && (Region.free md ops listed i && ((Region.ready md ops listed).contains i && decide (ops.size ≤ last)))
theorem JR (i : Nat) {oi : Oper} {v : Value} {fuel : Nat} {listed : Array Bool} {a : Act} {w : World} (hi : ops[i]? = some oi) (hc : jok md ops listed i last = true) (hw : Region.wanted oi (yielded ops a.tmps) = true)
    (hv : ∀ w, S w → (execOp a.eval oi).run P w = .ok (.value v) w) (hS : S w)
    (h : wpAnyJ P md ops (OnlyOn Q) S last fuel (listed.setIfInBounds i true) (a.put oi.dst v) w) : wpAnyJ P md ops (OnlyOn Q) S last (fuel + 1) listed a w := by
  unfold jok at hc
  simp only [Bool.and_eq_true] at hc
  obtain ⟨h1, h2, h3, h4⟩ := hc
  exact J_takeO i hi h1 h2 h3 h4 (fun _ _ _ h => h) (.inl ⟨hw, hv⟩) hS h
def jow (md : Region.Mode) (ops : Array Oper) (listed : Array Bool) (i last : Nat) : Bool := Region.noSelect ops && (Region.free md ops listed i && ((Region.ready md ops listed).contains i && waits md ops last i))
theorem JW (i : Nat) {oi : Oper} {v : Value} {fuel : Nat} {listed : Array Bool} {a : Act} {w : World} (hi : ops[i]? = some oi) (hc : jow md ops listed i last = true) (hw : Region.wanted oi (yielded ops a.tmps) = true)
    (hv : ∀ w, S w → (execOp a.eval oi).run P w = .ok (.value v) w) (hS : S w)
    (h : wpAnyJ P md ops (OnlyOn Q) S last fuel (listed.setIfInBounds i true) (a.put oi.dst v) w) : wpAnyJ P md ops (OnlyOn Q) S last (fuel + 1) listed a w := by
  unfold jow at hc
  simp only [Bool.and_eq_true] at hc
  obtain ⟨h1, h2, h3, h4⟩ := hc
  exact J_take i hi h1 h2 h3 h4 (fun _ _ _ h => h) (.inl ⟨hw, hv⟩) hS h
theorem JU (i : Nat) {oi : Oper} {fuel : Nat} {listed : Array Bool} {a : Act} {w : World} (hi : ops[i]? = some oi) (hc : jok md ops listed i last = true) (hw : Region.wanted oi (yielded ops a.tmps) = false)
    (hS : S w) (h : wpAnyJ P md ops (OnlyOn Q) S last fuel (listed.setIfInBounds i true) (a.put oi.dst undef) w) : wpAnyJ P md ops (OnlyOn Q) S last (fuel + 1) listed a w := by
  unfold jok at hc
  simp only [Bool.and_eq_true] at hc
  obtain ⟨h1, h2, h3, h4⟩ := hc
  exact J_takeO i hi h1 h2 h3 h4 (fun _ _ _ h => h) (.inr ⟨hw, rfl⟩) hS h
end
def HB (w : World) (b n : Nat) (t : TypeId) : Prop := ∃ cur : Array Value, w.heap[b]? = some (.cells cur t (0, 0)) ∧ cur.size = n
theorem HB.lt {w : World} {b n : Nat} {t : TypeId} (h : HB w b n t) : b < w.heap.size := by obtain ⟨c, h1, _⟩ := h; exact (Array.getElem?_eq_some_iff.1 h1).1
theorem HB.ext {w w' : World} {b n : Nat} {t : TypeId} (h : HB w b n t) (hx : Ext w w') : HB w' b n t := by
  have := h.lt
  obtain ⟨c, h1, h2⟩ := h
  exact ⟨c, (hx.block this).trans h1, h2⟩
theorem HB.there {w : World} {b n : Nat} {t : TypeId} (h : HB w b n t) : w.there b 0 n := by
  obtain ⟨c, h1, h2⟩ := h
  intro j hj
  refine ⟨?_, Lib.frozen_of_heap h1 _⟩
  rw [Nat.zero_add, cell_of_row _ b j c t (0, 0) h1, Array.getElem?_eq_getElem (by omega)]
  rfl
theorem alloc_at (w : World) (xs : List Value) (t : TypeId) : ∃ w' b, w.alloc (.cells xs.toArray t) = w' ∧ w.heap.size = b ∧ HB w' b xs.length t ∧ (∀ i v, xs[i]? = some v → w'.cell? ⟨b, i, none⟩ = some v) ∧ Ext w w' ∧ b < w'.heap.size :=
  ⟨_, _, rfl, rfl, ⟨_, heap_alloc_new w _, by simp⟩, fun i v e => by rw [cell_of_row _ w.heap.size i xs.toArray t (0, 0) (heap_alloc_new w _)]; simpa using e, (Ext.refl w).alloc_right _, by simp⟩
theorem store_at {u w : World} {b : Nat} {t : TypeId} (xs : List Value) (h : HB w b xs.length t) (hx : Ext u w) (hb : u.heap.size ≤ b) :
    ∃ w', w.setCells b 0 xs = w' ∧ HB w' b xs.length t ∧ (∀ i v, xs[i]? = some v → w'.cell? ⟨b, i, none⟩ = some v) ∧ Ext u w' ∧ w'.heap.size = w.heap.size ∧ (∀ k, k ≠ b → w'.heap[k]? = w.heap[k]?) := by
  have hr := World.rangeAt_setCells_same w b 0 xs h.there
  have hs : ∀ (vs : List Value) (w : World) (o : Nat), (w.setCells b o vs).heap.size = w.heap.size ∧ (w.setCells b o vs).os = w.os ∧ (w.setCells b o vs).tape = w.tape ∧ (w.setCells b o vs).output = w.output ∧ (∀ k, k ≠ b → (w.setCells b o vs).heap[k]? = w.heap[k]?) ∧
      (∀ n t, HB w b n t → HB (w.setCells b o vs) b n t) := by
    intro vs
    induction vs with
    | nil => intro w o; exact ⟨rfl, rfl, rfl, rfl, fun _ _ => rfl, fun _ _ h => h⟩
    | cons v vs ih =>
      intro w o
      obtain ⟨a1, a2, a3, a4, a5, a6⟩ := ih (w.setCell ⟨b, o, none⟩ v) (o + 1)
      refine ⟨a1.trans (by simp [World.setCell]), a2, a3, a4, fun k hk => (a5 k hk).trans (by simp [World.setCell, Array.getElem?_modify, Ne.symm hk]), fun n t hn => a6 n t ?_⟩
      obtain ⟨c, h1, h2⟩ := hn
      have hl := (Array.getElem?_eq_some_iff.1 h1).1
      refine ⟨c.setIfInBounds o v, ?_, by simpa using h2⟩
      simp [World.setCell, Array.getElem?_modify, h1]
  obtain ⟨a1, a2, a3, a4, a5, a6⟩ := hs xs w 0
  refine ⟨_, rfl, a6 _ _ h, fun i v e => by have := hr i v e; rwa [Nat.zero_add] at this, ?_, a1, a5⟩
  exact ⟨a2.trans hx.os, a3.trans hx.tape, a4.trans hx.output, by rw [a1]; exact hx.size, fun k hk => (a5 k (by omega)).trans (hx.block hk)⟩
theorem step_store0 {P : Program} {ops : Array Oper} {o : Oper} {a : Act} {w : World} {K : Act → World → Prop} {Q : Exit → Act → World → Prop} {E : Prop} (hgd : o.guard = none) (ty : TypeId) (x y : Operand) (ho : o.op = .store ty x y)
    (b : Nat) (xs : List Value) (hx : a.eval x = .pointer (some ⟨b, 0, none⟩)) (hy : a.eval y = .agg xs.toArray) {t : TypeId} (ht : HB w b xs.length t) (hi : (P.info? ty).map (·.size) = some xs.length) (h1 : xs.toArray.all (·.oneCell') = true)
    (h : K (a.put o.dst undef) (w.setCells b 0 xs)) : if Region.wanted o (yielded ops a.tmps) = true then Oper.wp P o a w K Q else E := by
  have hw : Region.wanted o (yielded ops a.tmps) = true := by simp [Region.wanted, hgd]
  rw [if_pos hw]
  exact wp_store_mid ty x y ho b 0 xs.toArray hx hy (by simpa using ht.there) (by simpa using hi) h1 (by simpa using h)
theorem step_store_mid {P : Program} {ops : Array Oper} {o : Oper} {a : Act} {w : World} {K : Act → World → Prop} {Q : Exit → Act → World → Prop} {E : Prop} (hgd : o.guard = none) (ty : TypeId) (x y : Operand) (ho : o.op = .store ty x y)
    (b k : Nat) (cells : Array Value) (hx : a.eval x = .pointer (some ⟨b, k, none⟩)) (hy : a.eval y = .agg cells)
    (ht : w.there b k cells.size) (hi : (P.info? ty).map (·.size) = some cells.size) (h1 : cells.all (·.oneCell') = true)
    (h : K (a.put o.dst undef) (w.setCells b k cells.toList)) : if Region.wanted o (yielded ops a.tmps) = true then Oper.wp P o a w K Q else E := by
  have hw : Region.wanted o (yielded ops a.tmps) = true := by simp [Region.wanted, hgd]
  rw [if_pos hw]
  exact wp_store_mid ty x y ho b k cells hx hy ht hi h1 h
open Go.RowKit Go.Shelf
section gen
variable {α : Type} {cl : α → List Value} {k : Nat}
def cls (cl : α → List Value) (l : List α) : List Value := l.flatMap cl
theorem cls_cons (x : α) (l : List α) : cls cl (x :: l) = cl x ++ cls cl l := rfl
theorem cls_app (a b : List α) : cls cl (a ++ b) = cls cl a ++ cls cl b := by simp [cls]
theorem cls_one (x : α) : cls cl [x] = cl x := by simp [cls]
theorem cls_len (hk : ∀ x, (cl x).length = k) : ∀ l : List α, (cls cl l).length = l.length * k
  | [] => by simp [cls]
  | x :: l => by rw [cls_cons, List.length_append, cls_len hk l, hk, List.length_cons, Nat.succ_mul, Nat.add_comm]
theorem cls_at (hk : ∀ x, (cl x).length = k) : ∀ (l : List α) (m : Nat) (h : m < l.length) (j : Nat), j < k → (cls cl l)[m * k + j]? = (cl l[m])[j]?
  | [], m, h, j, hj => by simp at h
  | x :: l, 0, h, j, hj => by
    rw [cls_cons, List.getElem?_append_left (by rw [hk]; omega)]
    simp
  | x :: l, m + 1, h, j, hj => by
    have ih := cls_at hk l m (by simpa using h) j hj
    rw [cls_cons, List.getElem?_append_right (by rw [hk, Nat.succ_mul]; omega), show (m + 1) * k + j - (cl x).length = m * k + j by rw [hk, Nat.succ_mul]; omega, ih]
    simp
theorem cls_all {p : Value → Prop} (h : ∀ x, ∀ u ∈ cl x, p u) (l : List α) : ∀ u ∈ cls cl l, p u := by
  intro u hu
  obtain ⟨x, _, hm⟩ := List.mem_flatMap.1 hu
  exact h x u hm
end gen
structure Vl where
  k : Int
  n : Int
  s : ByteArray
structure Fd where
  nm : ByteArray
  k : Int
  wd : Int
  nl : Bool
structure Rc where
  gone : Bool
  v : List Vl
structure Rr where
  g : Bool
  A : Option Addr
  n : Nat
  c : Nat
theorem Vl.ext' {a b : Vl} (h1 : a.k = b.k) (h2 : a.n = b.n) (h3 : a.s = b.s) : a = b := by cases a; cases b; simp_all
def vcl (x : Vl) : List Value := [.int .i64 x.k, .int .i64 x.n, .string x.s]
def fcl (x : Fd) : List Value := [.string x.nm, .int .i64 x.k, .int .i64 x.wd, .bool x.nl]
def rcl (x : Rr) : List Value := [.bool x.g, .slice x.A x.n x.c]
theorem vcl_len (x : Vl) : (vcl x).length = 3 := rfl
theorem fcl_len (x : Fd) : (fcl x).length = 4 := rfl
theorem rcl_len (x : Rr) : (rcl x).length = 2 := rfl
theorem vcl_one (x : Vl) : ∀ u ∈ vcl x, u.oneCell' = true := by intro u hu; simp [vcl] at hu; rcases hu with rfl | rfl | rfl <;> rfl
theorem fcl_one (x : Fd) : ∀ u ∈ fcl x, u.oneCell' = true := by intro u hu; simp [fcl] at hu; rcases hu with rfl | rfl | rfl | rfl <;> rfl
theorem rcl_one (x : Rr) : ∀ u ∈ rcl x, u.oneCell' = true := by intro u hu; simp [rcl] at hu; rcases hu with rfl | rfl <;> rfl
def vs (l : List Vl) : List Value := cls vcl l
def fds (l : List Fd) : List Value := cls fcl l
def rrs (l : List Rr) : List Value := cls rcl l
def v0 : Vl := ⟨0, 0, ⟨#[]⟩⟩
def vth (l : List Vl) (i : Nat) : Vl := l.getD i v0
def fth (l : List Fd) (i : Nat) : Fd := l.getD i ⟨⟨#[]⟩, 0, 0, false⟩
def rth (l : List Rc) (i : Nat) : Rc := l.getD i ⟨false, []⟩
def rrth (l : List Rr) (i : Nat) : Rr := l.getD i ⟨false, none, 0, 0⟩
theorem vth_get {l : List Vl} {i : Nat} (h : i < l.length) : vth l i = l[i] := by simp [vth, List.getD, h]
theorem fth_get {l : List Fd} {i : Nat} (h : i < l.length) : fth l i = l[i] := by simp [fth, List.getD, h]
theorem rth_get {l : List Rc} {i : Nat} (h : i < l.length) : rth l i = l[i] := by simp [rth, List.getD, h]
theorem rrth_get {l : List Rr} {i : Nat} (h : i < l.length) : rrth l i = l[i] := by simp [rrth, List.getD, h]
theorem vs_len (l : List Vl) : (vs l).length = l.length * 3 := cls_len vcl_len l
theorem fds_len (l : List Fd) : (fds l).length = l.length * 4 := cls_len fcl_len l
theorem rrs_len (l : List Rr) : (rrs l).length = l.length * 2 := cls_len rcl_len l
theorem vs_one (l : List Vl) : ∀ u ∈ vs l, u.oneCell' = true := cls_all vcl_one l
theorem fds_one (l : List Fd) : ∀ u ∈ fds l, u.oneCell' = true := cls_all fcl_one l
theorem rrs_one (l : List Rr) : ∀ u ∈ rrs l, u.oneCell' = true := cls_all rcl_one l
def vl (x : Vl) : Value := .agg #[.int .i64 x.k, .int .i64 x.n, .string x.s]
def fd (x : Fd) : Value := .agg #[.string x.nm, .int .i64 x.k, .int .i64 x.wd, .bool x.nl]
def RdV (w : World) (A : Option Addr) (n c : Nat) (l : List Vl) : Prop := Rd w 3 A n c (vs l)
def RdF (w : World) (A : Option Addr) (n c : Nat) (l : List Fd) : Prop := Rd w 4 A n c (fds l)
def RrOk (w : World) (r : Rr) (x : Rc) : Prop := r.g = x.gone ∧ RdV w r.A r.n r.c x.v
def RdR (w : World) (A : Option Addr) (n c : Nat) (l : List Rc) : Prop := ∃ rr : List Rr, Rd w 2 A n c (rrs rr) ∧ rr.length = l.length ∧ ∀ i, i < l.length → RrOk w (rrth rr i) (rth l i)
section
variable {w w' : World} {A : Option Addr} {n c : Nat} {l : List Vl} {f : List Fd} {r : List Rc}
theorem RdV.len (h : RdV w A n c l) : l.length = n := by have := h.1; rw [vs_len] at this; omega
theorem RdF.len (h : RdF w A n c f) : f.length = n := by have := h.1; rw [fds_len] at this; omega
theorem RdR.len (h : RdR w A n c r) : r.length = n := by obtain ⟨rr, h1, h2, _⟩ := h; have := h1.1; rw [rrs_len] at this; omega
theorem RdV.ext (h : RdV w A n c l) (hx : Ext w w') : RdV w' A n c l := Rd.ext h hx
theorem RdF.ext (h : RdF w A n c f) (hx : Ext w w') : RdF w' A n c f := Rd.ext h hx
theorem RdR.ext (h : RdR w A n c r) (hx : Ext w w') : RdR w' A n c r := by
  obtain ⟨rr, h1, h2, h3⟩ := h
  exact ⟨rr, h1.ext hx, h2, fun i hi => ⟨(h3 i hi).1, (h3 i hi).2.ext hx⟩⟩
theorem RdR.max (h : RdR w A n c r) : n ≤ 9223372036854775807 ∧ n ≤ c ∧ c ≤ 9223372036854775807 := by obtain ⟨rr, h1, _⟩ := h; exact h1.max
theorem add0 (ad : Addr) : ad.add 0 = ad := by unfold Addr.add; simp
theorem RdV.at_ (h : RdV w A n c l) {i : Nat} (hi : i < n) : ∃ ad, A = some ad ∧ w.cell? (ad.add (i * 3)) = some (.int .i64 (vth l i).k) ∧ w.cell? ⟨(ad.add (i * 3)).block, (ad.add (i * 3)).off + 1, none⟩ = some (.int .i64 (vth l i).n) ∧ w.cell? ⟨(ad.add (i * 3)).block, (ad.add (i * 3)).off + 2, none⟩ = some (.string (vth l i).s) := by
  have hl := h.len
  obtain ⟨ad, hA, hc⟩ := h.2.2.2 (by omega)
  have hil : i < l.length := by omega
  rw [vth_get hil]
  have e := fun j hj => cls_at vcl_len l i hil j hj
  exact ⟨ad, hA, hc (i * 3 + 0) _ (by unfold vs; rw [e 0 (by omega)]; rfl), cell_fk (hc (i * 3 + 1) _ (by unfold vs; rw [e 1 (by omega)]; rfl)) (by omega), cell_fk (hc (i * 3 + 2) _ (by unfold vs; rw [e 2 (by omega)]; rfl)) (by omega)⟩
theorem RdF.at_ (h : RdF w A n c f) {i : Nat} (hi : i < n) : ∃ ad, A = some ad ∧ w.cell? (ad.add (i * 4)) = some (.string (fth f i).nm) ∧ w.cell? ⟨(ad.add (i * 4)).block, (ad.add (i * 4)).off + 1, none⟩ = some (.int .i64 (fth f i).k) ∧ w.cell? ⟨(ad.add (i * 4)).block, (ad.add (i * 4)).off + 2, none⟩ = some (.int .i64 (fth f i).wd) ∧ w.cell? ⟨(ad.add (i * 4)).block, (ad.add (i * 4)).off + 3, none⟩ = some (.bool (fth f i).nl) := by
  have hl := h.len
  obtain ⟨ad, hA, hc⟩ := h.2.2.2 (by omega)
  have hil : i < f.length := by omega
  rw [fth_get hil]
  have e := fun j hj => cls_at fcl_len f i hil j hj
  exact ⟨ad, hA, hc (i * 4 + 0) _ (by unfold fds; rw [e 0 (by omega)]; rfl), cell_fk (hc (i * 4 + 1) _ (by unfold fds; rw [e 1 (by omega)]; rfl)) (by omega), cell_fk (hc (i * 4 + 2) _ (by unfold fds; rw [e 2 (by omega)]; rfl)) (by omega), cell_fk (hc (i * 4 + 3) _ (by unfold fds; rw [e 3 (by omega)]; rfl)) (by omega)⟩
theorem rr_at {rr : List Rr} (h : Rd w 2 A n c (rrs rr)) {i : Nat} (hi : i < n) : ∃ ad, A = some ad ∧ w.cell? (ad.add (i * 2)) = some (.bool (rrth rr i).g) ∧ w.cell? ⟨(ad.add (i * 2)).block, (ad.add (i * 2)).off + 1, none⟩ = some (.slice (rrth rr i).A (rrth rr i).n (rrth rr i).c) := by
  have hl := h.1
  rw [rrs_len] at hl
  obtain ⟨ad, hA, hc⟩ := h.2.2.2 (by omega)
  have hil : i < rr.length := by omega
  rw [rrth_get hil]
  have e := fun j hj => cls_at rcl_len rr i hil j hj
  exact ⟨ad, hA, hc (i * 2 + 0) _ (by unfold rrs; rw [e 0 (by omega)]; rfl), cell_fk (hc (i * 2 + 1) _ (by unfold rrs; rw [e 1 (by omega)]; rfl)) (by omega)⟩
theorem RdR.at_ (h : RdR w A n c r) {i : Nat} (hi : i < n) : ∃ ad B m d, A = some ad ∧ w.cell? (ad.add (i * 2)) = some (.bool (rth r i).gone) ∧ w.cell? ⟨(ad.add (i * 2)).block, (ad.add (i * 2)).off + 1, none⟩ = some (.slice B m d) ∧ RdV w B m d (rth r i).v := by
  have hl := h.len
  obtain ⟨rr, h1, h2, h3⟩ := h
  obtain ⟨ad, hA, c0, c1⟩ := rr_at h1 hi
  obtain ⟨g1, g2⟩ := h3 i (by omega)
  exact ⟨ad, _, _, _, hA, by rw [← g1]; exact c0, c1, g2⟩
end
open Go.RowKit Go.Shelf
def Cs (w : World) (b : Nat) (xs : List Value) : Prop := ∀ i v, xs[i]? = some v → w.cell? ⟨b, i, none⟩ = some v
theorem Cs.ext {w w' : World} {b : Nat} {xs : List Value} (h : Cs w b xs) (hx : Ext w w') : Cs w' b xs := fun i v e => hx.cell (h i v e)
theorem Cs.new (w : World) (xs : List Value) (t : TypeId) : Cs (w.alloc (.cells xs.toArray t)) w.heap.size xs := fun i v e => by
  rw [cell_of_row _ w.heap.size i xs.toArray t (0, 0) (heap_alloc_new w _)]
  simpa using e
def F4 (w : World) (b : Nat) (f : Fd) : Prop := w.cell? ⟨b, 0, none⟩ = some (.string f.nm) ∧ w.cell? ⟨b, 1, none⟩ = some (.int .i64 f.k) ∧ w.cell? ⟨b, 2, none⟩ = some (.int .i64 f.wd) ∧ w.cell? ⟨b, 3, none⟩ = some (.bool f.nl) ∧ b < w.heap.size
def V3 (w : World) (b : Nat) (x : Vl) : Prop := w.cell? ⟨b, 0, none⟩ = some (.int .i64 x.k) ∧ w.cell? ⟨b, 1, none⟩ = some (.int .i64 x.n) ∧ w.cell? ⟨b, 2, none⟩ = some (.string x.s) ∧ b < w.heap.size
def R2 (w : World) (b : Nat) (g : Bool) (A : Option Addr) (n c : Nat) : Prop := w.cell? ⟨b, 0, none⟩ = some (.bool g) ∧ w.cell? ⟨b, 1, none⟩ = some (.slice A n c) ∧ b < w.heap.size
def T3 (w : World) (b : Nat) (p : Int) (A : Option Addr) (n c : Nat) (B : Option Addr) (m d : Nat) : Prop := w.cell? ⟨b, 0, none⟩ = some (.int .i64 p) ∧ w.cell? ⟨b, 1, none⟩ = some (.slice A n c) ∧ w.cell? ⟨b, 2, none⟩ = some (.slice B m d) ∧ b < w.heap.size
section
variable {w w' : World} {b : Nat}
theorem F4.ext {f : Fd} (h : F4 w b f) (hx : Ext w w') : F4 w' b f := ⟨hx.cell h.1, hx.cell h.2.1, hx.cell h.2.2.1, hx.cell h.2.2.2.1, Nat.lt_of_lt_of_le h.2.2.2.2 hx.size⟩
theorem V3.ext {x : Vl} (h : V3 w b x) (hx : Ext w w') : V3 w' b x := ⟨hx.cell h.1, hx.cell h.2.1, hx.cell h.2.2.1, Nat.lt_of_lt_of_le h.2.2.2 hx.size⟩
theorem R2.ext {g : Bool} {A : Option Addr} {n c : Nat} (h : R2 w b g A n c) (hx : Ext w w') : R2 w' b g A n c := ⟨hx.cell h.1, hx.cell h.2.1, Nat.lt_of_lt_of_le h.2.2 hx.size⟩
theorem T3.ext {p : Int} {A B : Option Addr} {n c m d : Nat} (h : T3 w b p A n c B m d) (hx : Ext w w') : T3 w' b p A n c B m d := ⟨hx.cell h.1, hx.cell h.2.1, hx.cell h.2.2.1, Nat.lt_of_lt_of_le h.2.2.2 hx.size⟩
end
theorem Ext.new (w : World) (o : Obj) : Ext w (w.alloc o) := (Ext.refl w).alloc_right o
theorem new_lt (w : World) (o : Obj) : w.heap.size < (w.alloc o).heap.size := by simp
theorem F4.new (w : World) (f : Fd) : F4 (w.alloc (.cells #[.string f.nm, .int .i64 f.k, .int .i64 f.wd, .bool f.nl] 64)) w.heap.size f :=
  ⟨Cs.new w (fcl f) 64 0 _ rfl, Cs.new w (fcl f) 64 1 _ rfl, Cs.new w (fcl f) 64 2 _ rfl, Cs.new w (fcl f) 64 3 _ rfl, new_lt _ _⟩
theorem V3.new (w : World) (x : Vl) : V3 (w.alloc (.cells #[.int .i64 x.k, .int .i64 x.n, .string x.s] 66)) w.heap.size x :=
  ⟨Cs.new w (vcl x) 66 0 _ rfl, Cs.new w (vcl x) 66 1 _ rfl, Cs.new w (vcl x) 66 2 _ rfl, new_lt _ _⟩
theorem R2.new (w : World) (g : Bool) (A : Option Addr) (n c : Nat) : R2 (w.alloc (.cells #[.bool g, .slice A n c] 69)) w.heap.size g A n c :=
  ⟨Cs.new w (rcl ⟨g, A, n, c⟩) 69 0 _ rfl, Cs.new w (rcl ⟨g, A, n, c⟩) 69 1 _ rfl, new_lt _ _⟩
theorem T3.new (w : World) (p : Int) (A : Option Addr) (n c : Nat) (B : Option Addr) (m d : Nat) : T3 (w.alloc (.cells #[.int .i64 p, .slice A n c, .slice B m d] 25)) w.heap.size p A n c B m d :=
  ⟨Cs.new w [.int .i64 p, .slice A n c, .slice B m d] 25 0 _ rfl, Cs.new w [.int .i64 p, .slice A n c, .slice B m d] 25 1 _ rfl, Cs.new w [.int .i64 p, .slice A n c, .slice B m d] 25 2 _ rfl, new_lt _ _⟩
open Go.RowKit Go.Shelf
theorem info64 : (Tryz.prog.info? 64).map (fun i => (i.zero, i.size, i.bytes)) = some (some (.agg #[.string ⟨#[]⟩, .int .i64 0, .int .i64 0, .bool false]), 4, 40) := by kernel_rfl
theorem clone30 (A : Option Addr) (n c : Nat) (es : List Value) (w : World) (hr : Rd w 4 A n c es) (h1 : ∀ u ∈ es, u.oneCell' = true) (hn : n ≤ 1000000000000) :
    Calls Tryz.prog 30 #[.slice A n c] w fun e w' => ∃ B d, e = .returned (.slice B n d) ∧ w'.ownsRow w.heap.size 64 4 (.slice B n d) n es ∧ Ext w w' := by
  obtain ⟨i0, hi, hz0, hz1, hz2⟩ := info_parts info64
  have hnil := fun w => Lib.run_eql_slice_nil (P := Tryz.prog) w 22 64 A n c 0 0 Tryz.underlying22
  rcases A with _ | ad
  · have h0 : n = 0 := by
      rcases Nat.eq_zero_or_pos n with h | h
      · exact h
      · obtain ⟨ad, h, _⟩ := hr.2.2.2 h; cases h
    subst h0
    have hx : es = [] := List.eq_nil_of_length_eq_zero (by simp [hr.1])
    subst hx
    clear hr hn
    go_enter Tryz.func30, Tryz.ntmps30
    go_wp2
    go_ret
    exact ⟨none, 0, rfl, World.ownsRow_nil _ _ _ _, Ext.refl _⟩
  · have Ho : Hid ((w.alloc (.cells #[] 64)).ownsRow w.heap.size 64 4 (.slice (some ⟨w.heap.size, 0, none⟩) 0 0) 0 []) := World.ownsRow_lit w #[] 0 (Nat.le_refl _) (by decide) rfl
    go_enter Tryz.func30, Tryz.ntmps30
    go_wp2_with (at_builtin; refine wpList_appendAny _ rfl _ _ 22 rfl w.heap.size 64 i0 _ 4 40 Tryz.underlying22 hi hz0 hz1 hz2 rfl (by decide) _ _ _ rfl Ho.out _ _ _ _ rfl (hr.alloc _) h1 (by unfold maxLen; omega) (by omega) (by simp) ?_)
    intro v' w1 own1 hg1
    have hb1 : Hid (Ext w w1) := Below.grown ((Below.refl _ _).alloc (Nat.le_refl _) _) hg1 (by simp) (fun k hk => by simp [Value.ownBlock] at hk; omega)
    clear hg1
    try simp only [List.nil_append, Nat.zero_add] at own1
    obtain ⟨B, d, rfl, -⟩ := own_form own1
    replace own1 := hid own1
    go_wp2
    go_ret
    exact ⟨B, d, rfl, own1.out, hb1.out⟩
theorem info66 : (Tryz.prog.info? 66).map (fun i => (i.zero, i.size, i.bytes)) = some (some (.agg #[.int .i64 0, .int .i64 0, .string ⟨#[]⟩]), 3, 32) := by kernel_rfl
theorem clone65 (A : Option Addr) (n c : Nat) (es : List Value) (w : World) (hr : Rd w 3 A n c es) (h1 : ∀ u ∈ es, u.oneCell' = true) (hn : n ≤ 1000000000000) :
    Calls Tryz.prog 65 #[.slice A n c] w fun e w' => ∃ B d, e = .returned (.slice B n d) ∧ w'.ownsRow w.heap.size 66 3 (.slice B n d) n es ∧ Ext w w' := by
  obtain ⟨i0, hi, hz0, hz1, hz2⟩ := info_parts info66
  have hnil := fun w => Lib.run_eql_slice_nil (P := Tryz.prog) w 27 66 A n c 0 0 Tryz.underlying27
  rcases A with _ | ad
  · have h0 : n = 0 := by
      rcases Nat.eq_zero_or_pos n with h | h
      · exact h
      · obtain ⟨ad, h, _⟩ := hr.2.2.2 h; cases h
    subst h0
    have hx : es = [] := List.eq_nil_of_length_eq_zero (by simp [hr.1])
    subst hx
    clear hr hn
    go_enter Tryz.func65, Tryz.ntmps65
    go_wp2
    go_ret
    exact ⟨none, 0, rfl, World.ownsRow_nil _ _ _ _, Ext.refl _⟩
  · have Ho : Hid ((w.alloc (.cells #[] 66)).ownsRow w.heap.size 66 3 (.slice (some ⟨w.heap.size, 0, none⟩) 0 0) 0 []) := World.ownsRow_lit w #[] 0 (Nat.le_refl _) (by decide) rfl
    go_enter Tryz.func65, Tryz.ntmps65
    go_wp2_with (at_builtin; refine wpList_appendAny _ rfl _ _ 27 rfl w.heap.size 66 i0 _ 3 32 Tryz.underlying27 hi hz0 hz1 hz2 rfl (by decide) _ _ _ rfl Ho.out _ _ _ _ rfl (hr.alloc _) h1 (by unfold maxLen; omega) (by omega) (by simp) ?_)
    intro v' w1 own1 hg1
    have hb1 : Hid (Ext w w1) := Below.grown ((Below.refl _ _).alloc (Nat.le_refl _) _) hg1 (by simp) (fun k hk => by simp [Value.ownBlock] at hk; omega)
    clear hg1
    try simp only [List.nil_append, Nat.zero_add] at own1
    obtain ⟨B, d, rfl, -⟩ := own_form own1
    replace own1 := hid own1
    go_wp2
    go_ret
    exact ⟨B, d, rfl, own1.out, hb1.out⟩
theorem info69 : (Tryz.prog.info? 69).map (fun i => (i.zero, i.size, i.bytes)) = some (some (.agg #[.bool false, .slice none 0 0]), 2, 32) := by kernel_rfl
theorem clone71 (A : Option Addr) (n c : Nat) (es : List Value) (w : World) (hr : Rd w 2 A n c es) (h1 : ∀ u ∈ es, u.oneCell' = true) (hn : n ≤ 1000000000000) :
    Calls Tryz.prog 71 #[.slice A n c] w fun e w' => ∃ B d, e = .returned (.slice B n d) ∧ w'.ownsRow w.heap.size 69 2 (.slice B n d) n es ∧ Ext w w' := by
  obtain ⟨i0, hi, hz0, hz1, hz2⟩ := info_parts info69
  have hnil := fun w => Lib.run_eql_slice_nil (P := Tryz.prog) w 23 69 A n c 0 0 Tryz.underlying23
  rcases A with _ | ad
  · have h0 : n = 0 := by
      rcases Nat.eq_zero_or_pos n with h | h
      · exact h
      · obtain ⟨ad, h, _⟩ := hr.2.2.2 h; cases h
    subst h0
    have hx : es = [] := List.eq_nil_of_length_eq_zero (by simp [hr.1])
    subst hx
    clear hr hn
    go_enter Tryz.func71, Tryz.ntmps71
    go_wp2
    go_ret
    exact ⟨none, 0, rfl, World.ownsRow_nil _ _ _ _, Ext.refl _⟩
  · have Ho : Hid ((w.alloc (.cells #[] 69)).ownsRow w.heap.size 69 2 (.slice (some ⟨w.heap.size, 0, none⟩) 0 0) 0 []) := World.ownsRow_lit w #[] 0 (Nat.le_refl _) (by decide) rfl
    go_enter Tryz.func71, Tryz.ntmps71
    go_wp2_with (at_builtin; refine wpList_appendAny _ rfl _ _ 23 rfl w.heap.size 69 i0 _ 2 32 Tryz.underlying23 hi hz0 hz1 hz2 rfl (by decide) _ _ _ rfl Ho.out _ _ _ _ rfl (hr.alloc _) h1 (by unfold maxLen; omega) (by omega) (by simp) ?_)
    intro v' w1 own1 hg1
    have hb1 : Hid (Ext w w1) := Below.grown ((Below.refl _ _).alloc (Nat.le_refl _) _) hg1 (by simp) (fun k hk => by simp [Value.ownBlock] at hk; omega)
    clear hg1
    try simp only [List.nil_append, Nat.zero_add] at own1
    obtain ⟨B, d, rfl, -⟩ := own_form own1
    replace own1 := hid own1
    go_wp2
    go_ret
    exact ⟨B, d, rfl, own1.out, hb1.out⟩
theorem info94 : (Tryz.prog.info? 94).map (fun i => (i.zero, i.size, i.bytes)) = some (some (.slice none 0 0), 1, 24) := by kernel_rfl
theorem clone210 (A : Option Addr) (n c : Nat) (es : List Value) (w : World) (hr : Rd w 1 A n c es) (h1 : ∀ u ∈ es, u.oneCell' = true) (hn : n ≤ 1000000000000) :
    Calls Tryz.prog 210 #[.slice A n c] w fun e w' => ∃ B d, e = .returned (.slice B n d) ∧ w'.ownsRow w.heap.size 94 1 (.slice B n d) n es ∧ Ext w w' := by
  obtain ⟨i0, hi, hz0, hz1, hz2⟩ := info_parts info94
  have hnil := fun w => Lib.run_eql_slice_nil (P := Tryz.prog) w 98 94 A n c 0 0 Tryz.underlying98
  rcases A with _ | ad
  · have h0 : n = 0 := by
      rcases Nat.eq_zero_or_pos n with h | h
      · exact h
      · obtain ⟨ad, h, _⟩ := hr.2.2.2 h; cases h
    subst h0
    have hx : es = [] := List.eq_nil_of_length_eq_zero (by simp [hr.1])
    subst hx
    clear hr hn
    go_enter Tryz.func210, Tryz.ntmps210
    go_wp2
    go_ret
    exact ⟨none, 0, rfl, World.ownsRow_nil _ _ _ _, Ext.refl _⟩
  · have Ho : Hid ((w.alloc (.cells #[] 94)).ownsRow w.heap.size 94 1 (.slice (some ⟨w.heap.size, 0, none⟩) 0 0) 0 []) := World.ownsRow_lit w #[] 0 (Nat.le_refl _) (by decide) rfl
    go_enter Tryz.func210, Tryz.ntmps210
    go_wp2_with (at_builtin; refine wpList_appendAny _ rfl _ _ 98 rfl w.heap.size 94 i0 _ 1 24 Tryz.underlying98 hi hz0 hz1 hz2 rfl (by decide) _ _ _ rfl Ho.out _ _ _ _ rfl (hr.alloc _) h1 (by unfold maxLen; omega) (by omega) (by simp) ?_)
    intro v' w1 own1 hg1
    have hb1 : Hid (Ext w w1) := Below.grown ((Below.refl _ _).alloc (Nat.le_refl _) _) hg1 (by simp) (fun k hk => by simp [Value.ownBlock] at hk; omega)
    clear hg1
    try simp only [List.nil_append, Nat.zero_add] at own1
    obtain ⟨B, d, rfl, -⟩ := own_form own1
    replace own1 := hid own1
    go_wp2
    go_ret
    exact ⟨B, d, rfl, own1.out, hb1.out⟩
theorem info5 : (Tryz.prog.info? 5).map (fun i => (i.zero, i.size, i.bytes)) = some (some (.int .u8 0), 1, 1) := by kernel_rfl
theorem clone211 (A : Option Addr) (n c : Nat) (es : List Value) (w : World) (hr : Rd w 1 A n c es) (h1 : ∀ u ∈ es, u.oneCell' = true) (hn : n ≤ 1000000000000) :
    Calls Tryz.prog 211 #[.slice A n c] w fun e w' => ∃ B d, e = .returned (.slice B n d) ∧ w'.ownsRow w.heap.size 5 1 (.slice B n d) n es ∧ Ext w w' := by
  obtain ⟨i0, hi, hz0, hz1, hz2⟩ := info_parts info5
  have hnil := fun w => Lib.run_eql_slice_nil (P := Tryz.prog) w 94 5 A n c 0 0 Tryz.underlying94
  rcases A with _ | ad
  · have h0 : n = 0 := by
      rcases Nat.eq_zero_or_pos n with h | h
      · exact h
      · obtain ⟨ad, h, _⟩ := hr.2.2.2 h; cases h
    subst h0
    have hx : es = [] := List.eq_nil_of_length_eq_zero (by simp [hr.1])
    subst hx
    clear hr hn
    go_enter Tryz.func211, Tryz.ntmps211
    go_wp2
    go_ret
    exact ⟨none, 0, rfl, World.ownsRow_nil _ _ _ _, Ext.refl _⟩
  · have Ho : Hid ((w.alloc (.cells #[] 5)).ownsRow w.heap.size 5 1 (.slice (some ⟨w.heap.size, 0, none⟩) 0 0) 0 []) := World.ownsRow_lit w #[] 0 (Nat.le_refl _) (by decide) rfl
    go_enter Tryz.func211, Tryz.ntmps211
    go_wp2_with (at_builtin; refine wpList_appendAny _ rfl _ _ 94 rfl w.heap.size 5 i0 _ 1 1 Tryz.underlying94 hi hz0 hz1 hz2 rfl (by decide) _ _ _ rfl Ho.out _ _ _ _ rfl (hr.alloc _) h1 (by unfold maxLen; omega) (by omega) (by simp) ?_)
    intro v' w1 own1 hg1
    have hb1 : Hid (Ext w w1) := Below.grown ((Below.refl _ _).alloc (Nat.le_refl _) _) hg1 (by simp) (fun k hk => by simp [Value.ownBlock] at hk; omega)
    clear hg1
    try simp only [List.nil_append, Nat.zero_add] at own1
    obtain ⟨B, d, rfl, -⟩ := own_form own1
    replace own1 := hid own1
    go_wp2
    go_ret
    exact ⟨B, d, rfl, own1.out, hb1.out⟩
open Go.RowKit Go.Shelf
theorem own_same {w w' : World} {lo k n : Nat} {e : TypeId} {v : Value} {xs : List Value} (h : w.ownsRow lo e k v n xs) (hb : ∀ g, v.ownBlock = some g → w'.heap[g]? = w.heap[g]?) : w'.ownsRow lo e k v n xs := by
  refine ⟨h.1, ?_⟩
  rcases h.2 with h0 | ⟨g, cap, cur, hv, h1, h2, h3⟩
  · exact .inl h0
  · exact .inr ⟨g, cap, cur, hv, h1, (hb g (by rw [hv]; rfl)).trans h2, h3⟩
def OwV (w : World) (lo m : Nat) (r : Rr) (x : Rc) : Prop := r.g = x.gone ∧ r.n = m ∧ x.v.length = m ∧ ∃ b, r.A = some ⟨b, 0, none⟩ ∧ w.ownsRow lo 66 3 (.slice (some ⟨b, 0, none⟩) m r.c) m (vs x.v)
def rb (r : Rr) : Nat := r.A.elim 0 (fun a => a.block)
def OwR (w : World) (lo m : Nat) (v : Value) (rr : List Rr) (rs : List Rc) (k : Nat) : Prop :=
  w.ownsRow lo 69 2 v rr.length (rrs rr) ∧ (∀ i, i < k → OwV w lo m (rrth rr i) (rth rs i)) ∧ (∀ i j, i < k → j < k → i ≠ j → rb (rrth rr i) ≠ rb (rrth rr j)) ∧ ∀ i, i < k → v.ownBlock ≠ some (rb (rrth rr i))
section
variable {w w' : World} {lo m k : Nat} {v : Value} {rr : List Rr} {rs : List Rc} {r : Rr} {x : Rc}
theorem OwV.lt (h : OwV w lo m r x) : lo ≤ rb r ∧ rb r < w.heap.size := by
  obtain ⟨_, _, _, b, h1, h2⟩ := h
  have := h2.lt b rfl
  unfold rb
  rw [h1]
  exact this
theorem OwV.keep (h : OwV w lo m r x) (hb : w'.heap[rb r]? = w.heap[rb r]?) : OwV w' lo m r x := by
  obtain ⟨e1, e2, e3, b, h1, h2⟩ := h
  have hr : rb r = b := by unfold rb; rw [h1]; rfl
  rw [hr] at hb
  exact ⟨e1, e2, e3, b, h1, own_same h2 (fun g hg => by injection hg with hg; subst hg; exact hb)⟩
theorem OwV.rd (h : OwV w lo m r x) : RrOk w r x := by
  obtain ⟨e1, e2, e3, b, h1, h2⟩ := h
  refine ⟨e1, ?_⟩
  rw [h1, e2]
  exact Rd.of_own h2
theorem OwR.keep (h : OwR w lo m v rr rs k) (hg : ∀ g, v.ownBlock = some g → w'.heap[g]? = w.heap[g]?) (hb : ∀ i, i < k → w'.heap[rb (rrth rr i)]? = w.heap[rb (rrth rr i)]?) : OwR w' lo m v rr rs k :=
  ⟨own_same h.1 hg, fun i hi => (h.2.1 i hi).keep (hb i hi), h.2.2.1, h.2.2.2⟩
theorem OwR.ext (h : OwR w lo m v rr rs k) (hx : Ext w w') : OwR w' lo m v rr rs k :=
  h.keep (fun g hg => hx.block (h.1.lt g hg).2) (fun i hi => hx.block (h.2.1 i hi).lt.2)
theorem OwR.rd {A : Option Addr} {n c : Nat} (h : OwR w lo m (.slice A n c) rr rs rs.length) (hl : rr.length = rs.length) (hn : n = rs.length) : RdR w A n c rs := by
  subst hn
  have h1 := h.1
  rw [hl] at h1
  exact ⟨rr, Rd.of_own h1, hl, fun i hi => (h.2.1 i hi).rd⟩
theorem OwR.nil (w : World) (lo m : Nat) : OwR w lo m (.slice none 0 0) [] [] 0 := ⟨World.ownsRow_nil _ _ _ _, fun i hi => absurd hi (Nat.not_lt_zero _), fun i j hi => absurd hi (Nat.not_lt_zero _), fun i hi => absurd hi (Nat.not_lt_zero _)⟩
theorem rrth_set_same {l : List Rr} {k : Nat} {y : Rr} (h : k < l.length) : rrth (l.set k y) k = y := by rw [rrth_get (by simpa using h)]; simp
theorem rrth_set_ne {l : List Rr} {k i : Nat} {y : Rr} (h : i ≠ k) : rrth (l.set k y) i = rrth l i := by
  unfold rrth
  rw [List.getD_eq_getElem?_getD, List.getD_eq_getElem?_getD, List.getElem?_set_ne (Ne.symm h)]
theorem rth_set_same {l : List Rc} {k : Nat} {y : Rc} (h : k < l.length) : rth (l.set k y) k = y := by rw [rth_get (by simpa using h)]; simp
theorem rth_set_ne {l : List Rc} {k i : Nat} {y : Rc} (h : i ≠ k) : rth (l.set k y) i = rth l i := by
  unfold rth
  rw [List.getD_eq_getElem?_getD, List.getD_eq_getElem?_getD, List.getElem?_set_ne (Ne.symm h)]
theorem rth_app_lt {l l2 : List Rc} {i : Nat} (h : i < l.length) : rth (l ++ l2) i = rth l i := by rw [rth_get (by simp; omega), rth_get h, List.getElem_append_left]
theorem rth_app_eq {l : List Rc} {y : Rc} : rth (l ++ [y]) l.length = y := by rw [rth_get (by simp)]; simp
theorem rrth_app_lt {l l2 : List Rr} {i : Nat} (h : i < l.length) : rrth (l ++ l2) i = rrth l i := by rw [rrth_get (by simp; omega), rrth_get h, List.getElem_append_left]
theorem rrth_app_eq {l : List Rr} {y : Rr} : rrth (l ++ [y]) l.length = y := by rw [rrth_get (by simp)]; simp
theorem set_self {α : Type} : ∀ {l : List α} {k : Nat} {u : α}, l[k]? = some u → l.set k u = l
  | [], k, u, h => by simp at h
  | x :: l, 0, u, h => by simp at h; simp [h]
  | x :: l, k + 1, u, h => by simp at h; simp [set_self h]
theorem rrs_set (y : Rr) : ∀ (l : List Rr) (k : Nat), k < l.length → ((rrs l).set (k * 2) (.bool y.g)).set (k * 2 + 1) (.slice y.A y.n y.c) = rrs (l.set k y)
  | [], k, h => by simp at h
  | z :: l, 0, _ => by simp [rrs, cls, rcl]
  | z :: l, k + 1, h => by
    have ih := rrs_set y l k (by simpa using h)
    rw [show (k + 1) * 2 = k * 2 + 1 + 1 by omega]
    unfold rrs at ih ⊢
    simp only [cls_cons, rcl, List.cons_append, List.nil_append, List.set_cons_succ]
    rw [ih]
theorem rrs_setV (y : Rr) (l : List Rr) (k : Nat) (h : k < l.length) (hg : (rrth l k).g = y.g) : (rrs l).set (k * 2 + 1) (.slice y.A y.n y.c) = rrs (l.set k y) := by
  rw [← rrs_set y l k h]
  congr 1
  have e := cls_at rcl_len l k h 0 (by omega)
  have e2 : (rrs l)[k * 2]? = some (.bool y.g) := by
    unfold rrs
    rw [← hg, rrth_get h]
    exact e
  exact (set_self e2).symm
theorem rrs_setG (y : Rr) (l : List Rr) (k : Nat) (h : k < l.length) (hA : (rrth l k).A = y.A) (hn : (rrth l k).n = y.n) (hc : (rrth l k).c = y.c) : (rrs l).set (k * 2) (.bool y.g) = rrs (l.set k y) := by
  rw [← rrs_set y l k h]
  have e := cls_at rcl_len l k h 1 (by omega)
  have e2 : ((rrs l).set (k * 2) (.bool y.g))[k * 2 + 1]? = some (.slice y.A y.n y.c) := by
    rw [List.getElem?_set_ne (by omega)]
    unfold rrs
    rw [← hA, ← hn, ← hc, rrth_get h]
    exact e
  exact (set_self e2).symm
theorem lit_add (g o j : Nat) : (⟨g, o, none⟩ : Addr).add j = ⟨g, o + j, none⟩ := by unfold Addr.add; split <;> simp_all
theorem lit_add0 (g j : Nat) : (⟨g, 0, none⟩ : Addr).add j = ⟨g, j, none⟩ := by rw [lit_add, Nat.zero_add]
theorem row_there {lo n n' c sz o s : Nat} {e : TypeId} {g : Nat} {xs : List Value} (h : w.ownsRow lo e sz (.slice (some ⟨g, 0, none⟩) n' c) n xs) (ho : o + s ≤ n * sz) : w.there g o s := by
  rcases h.2 with ⟨hv, _⟩ | ⟨g', cap, cur, hv, _, hg, hn, _, hs, _⟩
  · cases hv
  · injection hv with e1
    injection e1 with e1
    injection e1 with e1
    subst e1
    have h2 : n * sz ≤ cap * sz := Nat.mul_le_mul_right _ hn
    intro j hj
    refine ⟨?_, Lib.frozen_of_heap hg _⟩
    rw [cell_of_row _ g (o + j) cur e (0, 0) hg, Array.getElem?_eq_getElem (by omega)]
    rfl
theorem own_blk {A : Option Addr} {n c : Nat} {e : TypeId} {lo k j : Nat} {xs : List Value} (h : w.ownsRow lo e k (.slice A n c) j xs) (hn : 0 < n) : ∃ g, A = some ⟨g, 0, none⟩ ∧ lo ≤ g ∧ g < w.heap.size := by
  rcases h.2 with ⟨hv, h0⟩ | ⟨g, cap, cur, hv, h1, h2, _⟩
  · injection hv with _ h2; omega
  · injection hv with h3; exact ⟨g, h3, h1, (Array.getElem?_eq_some_iff.1 h2).1⟩
theorem setCells_at (vs : List Value) : ∀ (w : World) (g o : Nat), (w.setCells g o vs).heap.size = w.heap.size ∧ (w.setCells g o vs).os = w.os ∧ (w.setCells g o vs).tape = w.tape ∧ (w.setCells g o vs).output = w.output ∧ ∀ k, k ≠ g → (w.setCells g o vs).heap[k]? = w.heap[k]? := by
  induction vs with
  | nil => intro w g o; exact ⟨rfl, rfl, rfl, rfl, fun _ _ => rfl⟩
  | cons v vs ih =>
    intro w g o
    obtain ⟨a1, a2, a3, a4, a5⟩ := ih (w.setCell ⟨g, o, none⟩ v) g (o + 1)
    exact ⟨a1.trans (by simp [World.setCell]), a2, a3, a4, fun k hk => (a5 k hk).trans (by simp [World.setCell, Array.getElem?_modify, Ne.symm hk])⟩
theorem setCell_at (w : World) (g o : Nat) (v : Value) : (w.setCell ⟨g, o, none⟩ v).heap.size = w.heap.size ∧ ∀ k, k ≠ g → (w.setCell ⟨g, o, none⟩ v).heap[k]? = w.heap[k]? :=
  ⟨by simp [World.setCell], fun k hk => by simp [World.setCell, Array.getElem?_modify, Ne.symm hk]⟩
theorem ext_setC {u w : World} (hx : Ext u w) {g : Nat} (hg : u.heap.size ≤ g) (o : Nat) (vs : List Value) : Ext u (w.setCells g o vs) := by
  obtain ⟨a1, a2, a3, a4, a5⟩ := setCells_at vs w g o
  exact ⟨a2.trans hx.os, a3.trans hx.tape, a4.trans hx.output, by rw [a1]; exact hx.size, fun k hk => (a5 k (by omega)).trans (hx.block hk)⟩
theorem OwV.set {g o : Nat} (h : OwV w lo m r x) (hg : rb r ≠ g) (u : Value) : OwV (w.setCell ⟨g, o, none⟩ u) lo m r x := h.keep ((setCell_at w g o u).2 _ hg)
theorem OwR.put {g n c : Nat} {y : Rr} (h : OwR w lo m (.slice (some ⟨g, 0, none⟩) n c) rr rs k) (hk : k < rr.length) (hn : n = rr.length) (hy : OwV w lo m y (rth rs k)) (hyg : rb y ≠ g) (hne : ∀ i, i < k → rb (rrth rr i) ≠ rb y) :
    OwR (w.setCells g (k * 2) [.bool y.g, .slice y.A y.n y.c]) lo m (.slice (some ⟨g, 0, none⟩) n c) (rr.set k y) rs (k + 1) := by
  subst hn
  obtain ⟨h1, h2, h3, h4⟩ := h
  have o1 := own_setK (o := k * 2 + 1) (u := .slice y.A y.n y.c) (own_setK (o := k * 2) (u := .bool y.g) h1)
  have ha := setCells_at [.bool y.g, .slice y.A y.n y.c] w g (k * 2)
  rw [rrs_set y rr k hk] at o1
  refine ⟨by rw [List.length_set]; exact o1, fun i hi => ?_, fun i j hi hj hij => ?_, fun i hi => ?_⟩
  · by_cases e : i = k
    · subst e; rw [rrth_set_same hk]; exact hy.keep (ha.2.2.2.2 _ hyg)
    · rw [rrth_set_ne e]
      exact (h2 i (by omega)).keep (ha.2.2.2.2 _ (fun e2 => h4 i (by omega) (by rw [e2]; rfl)))
  · by_cases e : i = k
    · subst e
      rw [rrth_set_same hk, rrth_set_ne (Ne.symm hij)]
      exact Ne.symm (hne j (by omega))
    · rw [rrth_set_ne e]
      by_cases e2 : j = k
      · subst e2; rw [rrth_set_same hk]; exact hne i (by omega)
      · rw [rrth_set_ne e2]; exact h3 i j (by omega) (by omega) hij
  · by_cases e : i = k
    · subst e; rw [rrth_set_same hk]; exact fun e3 => hyg (by injection e3 with e3; exact e3.symm)
    · rw [rrth_set_ne e]; exact h4 i (by omega)
theorem OwR.putV {g n c : Nat} {y : Rr} (h : OwR w lo m (.slice (some ⟨g, 0, none⟩) n c) rr rs k) (hk : k < rr.length) (hn : n = rr.length) (hm : (rrth rr k).g = y.g) (hy : OwV w lo m y (rth rs k)) (hyg : rb y ≠ g) (hne : ∀ i, i < k → rb (rrth rr i) ≠ rb y) :
    OwR (w.setCell ⟨g, k * 2 + 1, none⟩ (.slice y.A y.n y.c)) lo m (.slice (some ⟨g, 0, none⟩) n c) (rr.set k y) rs (k + 1) := by
  subst hn
  obtain ⟨h1, h2, h3, h4⟩ := h
  have o1 := own_setK (o := k * 2 + 1) (u := .slice y.A y.n y.c) h1
  have ha := setCell_at w g (k * 2 + 1) (.slice y.A y.n y.c)
  rw [rrs_setV y rr k hk hm] at o1
  refine ⟨by rw [List.length_set]; exact o1, fun i hi => ?_, fun i j hi hj hij => ?_, fun i hi => ?_⟩
  · by_cases e : i = k
    · subst e; rw [rrth_set_same hk]; exact hy.keep (ha.2 _ hyg)
    · rw [rrth_set_ne e]
      exact (h2 i (by omega)).keep (ha.2 _ (fun e2 => h4 i (by omega) (by rw [e2]; rfl)))
  · by_cases e : i = k
    · subst e
      rw [rrth_set_same hk, rrth_set_ne (Ne.symm hij)]
      exact Ne.symm (hne j (by omega))
    · rw [rrth_set_ne e]
      by_cases e2 : j = k
      · subst e2; rw [rrth_set_same hk]; exact hne i (by omega)
      · rw [rrth_set_ne e2]; exact h3 i j (by omega) (by omega) hij
  · by_cases e : i = k
    · subst e; rw [rrth_set_same hk]; exact fun e3 => hyg (by injection e3 with e3; exact e3.symm)
    · rw [rrth_set_ne e]; exact h4 i (by omega)
theorem OwR.push {v' : Value} {y : Rr} {x : Rc} (h : OwR w lo m v rr rs rs.length) (hl : rr.length = rs.length) (hy : OwV w lo m y x) (hyg : v.ownBlock ≠ some (rb y)) (hne : ∀ i, i < rs.length → rb (rrth rr i) ≠ rb y)
    (ho : w'.ownsRow lo 69 2 v' (rr.length + 1) (rrs rr ++ rcl y)) (hg : w.grownBy w' v.ownBlock) (hv : v'.ownBlock = v.ownBlock ∨ ∀ g, v'.ownBlock = some g → w.heap.size ≤ g) :
    OwR w' lo m v' (rr ++ [y]) (rs ++ [x]) (rs ++ [x]).length := by
  obtain ⟨h1, h2, h3, h4⟩ := h
  have hkeep : ∀ i, i < rs.length → OwV w' lo m (rrth rr i) (rth rs i) := fun i hi => (h2 i hi).keep (hg.block _ (h2 i hi).lt.2 (fun e => h4 i hi e.symm))
  have hy' : OwV w' lo m y x := hy.keep (hg.block _ hy.lt.2 (fun e => hyg e.symm))
  have hvb : ∀ b, b < w.heap.size → v.ownBlock ≠ some b → v'.ownBlock ≠ some b := fun b hb hn e => by
    rcases hv with hv | hv
    · exact hn (by rw [← hv]; exact e)
    · have := hv b e; omega
  rw [List.length_append, List.length_singleton]
  refine ⟨?_, fun i hi => ?_, fun i j hi hj hij => ?_, fun i hi => ?_⟩
  · rw [List.length_append, List.length_singleton]
    have e : rrs (rr ++ [y]) = rrs rr ++ rcl y := by unfold rrs; rw [cls_app, cls_one]
    rw [e]; exact ho
  · by_cases e : i = rs.length
    · subst e; rw [rth_app_eq, ← hl, rrth_app_eq]; exact hy'
    · rw [rth_app_lt (by omega), rrth_app_lt (by omega)]; exact hkeep i (by omega)
  · by_cases e : i = rs.length
    · subst e
      rw [← hl, rrth_app_eq, rrth_app_lt (by omega)]
      exact Ne.symm (hne j (by omega))
    · rw [rrth_app_lt (by omega)]
      by_cases e2 : j = rs.length
      · subst e2; rw [← hl, rrth_app_eq]; exact hne i (by omega)
      · rw [rrth_app_lt (by omega)]; exact h3 i j (by omega) (by omega) hij
  · by_cases e : i = rs.length
    · subst e; rw [← hl, rrth_app_eq]; exact hvb _ hy.lt.2 hyg
    · rw [rrth_app_lt (by omega)]; exact hvb _ (h2 i (by omega)).lt.2 (h4 i (by omega))
theorem vs_set (y : Vl) : ∀ (l : List Vl) (k : Nat), k < l.length → (((vs l).set (k * 3) (.int .i64 y.k)).set (k * 3 + 1) (.int .i64 y.n)).set (k * 3 + 2) (.string y.s) = vs (l.set k y)
  | [], k, h => by simp at h
  | z :: l, 0, _ => by simp [vs, cls, vcl]
  | z :: l, k + 1, h => by
    have ih := vs_set y l k (by simpa using h)
    rw [show (k + 1) * 3 = k * 3 + 1 + 1 + 1 by omega]
    unfold vs at ih ⊢
    simp only [cls_cons, vcl, List.cons_append, List.nil_append, List.set_cons_succ]
    rw [ih]
theorem OwR.turnV {i j : Nat} {y : Vl} (h : OwR w lo m v rr rs rs.length) (hl : rr.length = rs.length) (hi : i < rs.length) (hj : j < m) :
    OwR (w.setCells (rb (rrth rr i)) (j * 3) (vcl y)) lo m v rr (rs.set i ⟨(rth rs i).gone, (rth rs i).v.set j y⟩) (rs.set i ⟨(rth rs i).gone, (rth rs i).v.set j y⟩).length := by
  obtain ⟨h1, h2, h3, h4⟩ := h
  have ha := setCells_at (vcl y) w (rb (rrth rr i)) (j * 3)
  rw [List.length_set]
  refine ⟨own_same h1 (fun g hg => ha.2.2.2.2 g (fun e => h4 i hi (by rw [hg, e]))), fun k hk => ?_, h3, h4⟩
  by_cases e : k = i
  · subst e
    rw [rth_set_same hi]
    obtain ⟨e1, e2, e3, b, e4, e5⟩ := h2 k hk
    have hb : rb (rrth rr k) = b := by unfold rb; rw [e4]; rfl
    rw [hb]
    refine ⟨e1, e2, by simpa using e3, b, e4, ?_⟩
    show World.ownsRow _ lo 66 3 _ m (vs ((rth rs k).v.set j y))
    rw [← vs_set y _ j (by omega)]
    exact own_setK (o := j * 3 + 2) (own_setK (o := j * 3 + 1) (own_setK (o := j * 3) e5))
  · rw [rth_set_ne e]
    exact (h2 k hk).keep (ha.2.2.2.2 _ (h3 k i hk hi e))
theorem OwR.turnG {i g n c : Nat} {q : Bool} (h : OwR w lo m (.slice (some ⟨g, 0, none⟩) n c) rr rs rs.length) (hl : rr.length = rs.length) (hn : n = rr.length) (hi : i < rs.length) :
    OwR (w.setCell ⟨g, i * 2, none⟩ (.bool q)) lo m (.slice (some ⟨g, 0, none⟩) n c) (rr.set i ⟨q, (rrth rr i).A, (rrth rr i).n, (rrth rr i).c⟩) (rs.set i ⟨q, (rth rs i).v⟩) (rs.set i ⟨q, (rth rs i).v⟩).length := by
  subst hn
  obtain ⟨h1, h2, h3, h4⟩ := h
  have ha := setCell_at w g (i * 2) (.bool q)
  have hir : i < rr.length := by omega
  have o1 := own_setK (o := i * 2) (u := .bool q) h1
  have hr := rrs_setG ⟨q, (rrth rr i).A, (rrth rr i).n, (rrth rr i).c⟩ rr i hir rfl rfl rfl
  simp only at hr
  rw [hr] at o1
  have hb : ∀ k, rb (rrth (rr.set i ⟨q, (rrth rr i).A, (rrth rr i).n, (rrth rr i).c⟩) k) = rb (rrth rr k) := fun k => by
    by_cases e : k = i
    · subst e; rw [rrth_set_same hir]; rfl
    · rw [rrth_set_ne e]
  have hk2 : ∀ k, k < rs.length → OwV (w.setCell ⟨g, i * 2, none⟩ (.bool q)) lo m (rrth rr k) (rth rs k) := fun k hk => (h2 k hk).keep (ha.2 _ (fun e => h4 k hk (by rw [e]; rfl)))
  rw [List.length_set]
  refine ⟨by rw [List.length_set]; exact o1, fun k hk => ?_, fun k j hk hj hkj => by rw [hb, hb]; exact h3 k j hk hj hkj, fun k hk => by rw [hb]; exact h4 k hk⟩
  by_cases e : k = i
  · subst e
    rw [rrth_set_same hir, rth_set_same hi]
    obtain ⟨e1, e2, e3, b, e4, e5⟩ := hk2 k hk
    exact ⟨rfl, e2, e3, b, e4, e5⟩
  · rw [rrth_set_ne e, rth_set_ne e]
    exact hk2 k hk
end
end Go.Proofs.YtngoebbmgpdeiaaGreatDoor
