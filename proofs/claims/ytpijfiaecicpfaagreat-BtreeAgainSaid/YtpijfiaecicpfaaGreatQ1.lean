/-
  Comparing two entries; Entries of an index, plainly: their order, and lists in ascending order. No program in sight; Rows of memory, copies, and regions that draw their order, taken step by step: bound to no program; The numbers under which this program holds the library's mutex, and that it holds it; Trees of entries, plainly: what is in them in order; putting an entry in. No program in sight; Words for worlds and slices that the walks of this claim use: a world that extends another one, a slice that reads as a list, a row of the call's own. No program in sight.
-/
import Derived.Test.YtpijfiaecicpfaaGreatProg
import Derived.Conc.RwLib
import Derived.Conc.MuData
import Derived.Conc.MuLone
import Derived.KernelRfl
import Derived.WalkKit
import Derived.WalkLawsBesides
import Derived.Deep.QuietTactic
import Derived.BigQuiet
import Derived.Deep.Draws
import Derived.Deep.AppendLies
import Derived.Deep.Cut
import Derived.Deep.DeepCutAuto
import Derived.Deep.MidRow
import Derived.Deep.RegionHeld3
import Derived.Deep.RegionLaw
import Derived.IntWalk
import Derived.Laws.BytesArg
import Derived.Laws.CopyOwn
import Derived.Laws.CopyRow
import Derived.Laws.IdiomStrings
import Derived.Laws.OwnMore
import Derived.Lib.AppendZerosOnto
import Derived.Lib.Bytes
import Derived.Lib.Overlaps
import Derived.Lib.SliceRun
import Derived.LoopIn
import Derived.LoopNIn
import Derived.OrdersHeld
import Derived.OwnWalkIn
import Derived.RangeFuncBound
import Derived.RangeFuncBox
import Derived.RangeFuncCalls
import Derived.RangeFuncLeaves
import Derived.RangeFuncNested
import Derived.Shelf.Abstract
import Derived.Shelf.RegionOpen
import Derived.TacticsInMore
import Derived.Lib.Bytealg
import Derived.Lib.Strings
import Derived.Lib.Slices
import Derived.Lib.Walk
set_option maxRecDepth 100000
set_option maxHeartbeats 40000000
set_option linter.unusedVariables false
set_option linter.unusedSimpArgs false
namespace Go.Proofs.YtpijfiaecicpfaaGreat
abbrev muLink : Go.Conc.Locks.MuLink := { lock := 41, unlock := 42, ilock := 63, iunlock := 64, lockSlow := 84, unlockSlow := 87, disable := 80, enable := 82, acquire := 83, relMerge := 85, cas32 := 81, add32 := 86, tMutex := 62, tIMutex := 60, tPMutex := 99, tPIMutex := 112, tPI32 := 114, tUP := 116, tNoCopy := 57, tU32 := 58 }
theorem muLib : Go.Conc.Locks.MuLib Tryz.prog muLink :=
  ⟨Tryz.func41, Tryz.func42, Tryz.func63, Tryz.func64, Tryz.func80, Tryz.func82, Tryz.func83, Tryz.func85, Tryz.func81, Tryz.func86, Tryz.underlying60, Tryz.runUnderlying60, Tryz.sizeOf60, Tryz.isAgg60, Tryz.zeroValue60, Tryz.underlying62, Tryz.runUnderlying62, Tryz.sizeOf62, Tryz.isAgg62, Tryz.zeroValue62, Tryz.underlying99, Tryz.runUnderlying99, Tryz.sizeOf99, Tryz.isAgg99, Tryz.zeroValue99, Tryz.underlying112, Tryz.runUnderlying112, Tryz.sizeOf112, Tryz.isAgg112, Tryz.zeroValue112, Tryz.underlying114, Tryz.runUnderlying114, Tryz.sizeOf114, Tryz.isAgg114, Tryz.zeroValue114, Tryz.underlying116, Tryz.runUnderlying116, Tryz.sizeOf116, Tryz.isAgg116, Tryz.zeroValue116, Tryz.underlying57, Tryz.runUnderlying57, Tryz.sizeOf57, Tryz.isAgg57, Tryz.zeroValue57, Tryz.underlying21, Tryz.runUnderlying21, Tryz.sizeOf21, Tryz.isAgg21, Tryz.zeroValue21, (by kernel_rfl)⟩
open Go.RowKit
theorem lyA {α : Type} {xs : List α} {i : Nat} (h : i < xs.toArray.size) : xs.toArray[i] = xs[i] := rfl
theorem lyB {α : Type} (a : α) (bs : List α) (h : 0 < (a :: bs).length) : getElem (a :: bs) 0 h = a := rfl
theorem lyC {α : Type} (a : α) (bs : List α) (i : Nat) (h : i + 1 < (a :: bs).length) : getElem (a :: bs) (i + 1) h = getElem bs i (Nat.lt_of_succ_lt_succ h) := rfl
theorem lyD {α : Type} (l : List α) (i : Nat) (a : α) : l.toArray.setIfInBounds i a = (l.set i a).toArray := List.setIfInBounds_toArray l i a
theorem lyE {α : Type} {x : α} {xs : List α} {a : α} : (x :: xs).set 0 a = a :: xs := rfl
theorem lyF {α : Type} {x : α} {xs : List α} {i : Nat} {a : α} : (x :: xs).set (i + 1) a = x :: xs.set i a := rfl
theorem block_add (a : Addr) (n : Nat) : (a.add n).block = a.block := by unfold Addr.add; split <;> rfl
theorem add_add (a : Addr) (i j : Nat) : (a.add i).add j = a.add (i + j) := by
  unfold Addr.add
  by_cases hi : i = 0 <;> by_cases hj : j = 0 <;> simp [hi, hj, Nat.add_assoc]
theorem hid {p : Prop} (h : p) : Hid p := h
def Ext (w w' : World) : Prop := Below w.heap.size w w'
theorem Ext.refl (w : World) : Ext w w := Below.refl _ _
theorem Ext.drewN (w : World) (n : Nat) : Ext w (w.drewN n) := ⟨rfl, rfl, rfl, Nat.le_refl _, fun _ _ => rfl⟩
theorem Ext.trans {a b c : World} (h : Ext a b) (k : Ext b c) : Ext a c := Below.trans h (Below.mono k h.size)
theorem Ext.size {a b : World} (h : Ext a b) : a.heap.size ≤ b.heap.size := Below.size h
theorem Ext.below {a b c : World} {B : Nat} (h : Below B a b) (k : Ext b c) (hB : B ≤ b.heap.size) : Below B a c := h.trans (Below.mono k hB)
theorem Ext.block {a b : World} (h : Ext a b) {k : Nat} (hk : k < a.heap.size) : b.heap[k]? = a.heap[k]? := Below.block h k hk
theorem Ext.cell {a b : World} (h : Ext a b) {p : Addr} {v : Value} (hc : a.cell? p = some v) : b.cell? p = some v :=
  (World.cell?_of_block (h.block (World.block_lt_of_cell? a p hc))).trans hc
theorem Ext.frozen {a b : World} (h : Ext a b) {p : Addr} (hp : p.block < a.heap.size) : b.frozen? p = a.frozen? p := World.frozen?_of_block (h.block hp)
theorem Ext.drewN_right {a b : World} (h : Ext a b) (n : Nat) : Ext a (b.drewN n) := h.trans (.drewN b n)
theorem Ext.drew_right {a b : World} (h : Ext a b) : Ext a b.drew := h.trans (.drewN b 1)
theorem Ext.alloc_right {a b : World} (h : Ext a b) (o : Obj) : Ext a (b.alloc o) := Below.alloc h h.size o
theorem Ext.own {w w' : World} (h : Ext w w') {base : Nat} {e : TypeId} {size : Nat} {v : Value} {n : Nat} {xs : List Value} (ho : w.ownsRow base e size v n xs) : w'.ownsRow base e size v n xs := by
  have hb : Below w.heap.size w w' := h
  exact ho.kept (row := none) ⟨hb.os, hb.tape, hb.output, hb.size, fun k hk _ => hb.block k hk⟩ (by cases v.ownBlock <;> simp)
def Rd (w : World) (size : Nat) (A : Option Addr) (n c : Nat) (xs : List Value) : Prop :=
  xs.length = n * size ∧ n ≤ c ∧ c ≤ maxLen ∧ (0 < n → ∃ ad, A = some ad ∧ ∀ j u, xs[j]? = some u → w.cell? (ad.add j) = some u)
section
variable {w w' : World} {size n c : Nat} {A : Option Addr} {xs : List Value}
theorem Rd.none_ (w : World) (size : Nat) : Rd w size none 0 0 [] := ⟨by simp, by simp, by simp, fun h => absurd h (by omega)⟩
theorem Rd.max (h : Rd w size A n c xs) : n ≤ 9223372036854775807 ∧ n ≤ c ∧ c ≤ 9223372036854775807 := by
  have h1 := h.2.1
  have h2 := h.2.2.1
  unfold maxLen at h2
  omega
theorem Rd.keep (h : Rd w size A n c xs) (hk : ∀ p v, w.cell? p = some v → w'.cell? p = some v) : Rd w' size A n c xs :=
  ⟨h.1, h.2.1, h.2.2.1, fun hn => by
    obtain ⟨ad, e, hc⟩ := h.2.2.2 hn
    exact ⟨ad, e, fun j u hu => hk _ _ (hc j u hu)⟩⟩
theorem Rd.ext (h : Rd w size A n c xs) (hb : Ext w w') : Rd w' size A n c xs := h.keep fun _ _ hc => hb.cell hc
theorem Rd.below (h : Rd w size A n c xs) (hb : Below w.heap.size w w') : Rd w' size A n c xs := h.ext hb
theorem Rd.drewN (h : Rd w size A n c xs) (k : Nat) : Rd (w.drewN k) size A n c xs := h
theorem Rd.alloc (h : Rd w size A n c xs) (o : Obj) : Rd (w.alloc o) size A n c xs := h.ext ((Ext.refl w).alloc_right o)
theorem Rd.cut (h : Rd w size A n c xs) {k : Nat} (hk : k ≤ n) :
    Rd w size (if c = k then A else A.map (·.add (k * size))) (n - k) (c - k) (xs.drop (k * size)) := by
  have h1 := h.2.1
  have h2 := h.2.2.1
  refine ⟨by rw [List.length_drop, h.1, Nat.sub_mul], by omega, by omega, fun hn => ?_⟩
  obtain ⟨ad, rfl, hcell⟩ := h.2.2.2 (by omega)
  rw [if_neg (by omega)]
  refine ⟨ad.add (k * size), rfl, fun j u hu => ?_⟩
  rw [add_add]
  exact hcell _ u (by rw [← hu, List.getElem?_drop])
theorem Rd.of_own {base : Nat} {e : TypeId} (h : w.ownsRow base e size (.slice A n c) n xs) : Rd w size A n c xs := by
  have h2 := h.2
  refine ⟨h.1, ?_, ?_, fun hn => ?_⟩
  · rcases h2 with ⟨_, rfl⟩ | ⟨g, cap, cur, hv, _, _, hcap, hm, _⟩
    · simp
    · injection hv with _ _ hc; omega
  · rcases h2 with ⟨hv, rfl⟩ | ⟨g, cap, cur, hv, _, _, hcap, hm, _⟩
    · injection hv with _ _ hc; simp [hc]
    · injection hv with _ _ hc; omega
  · rcases h2 with ⟨_, rfl⟩ | ⟨g, cap, cur, hv, _⟩
    · omega
    · have hA : A = some ⟨g, 0, none⟩ := by injection hv
      subst hA
      exact ⟨_, rfl, h.cells (g := g) rfl⟩
end
theorem own_drewN {w : World} {base : Nat} {e : TypeId} {size : Nat} {v : Value} {n : Nat} {xs : List Value} (h : w.ownsRow base e size v n xs) (k : Nat) : (w.drewN k).ownsRow base e size v n xs := h
def cellv (w : World) (a : Addr) : Value := (w.cell? a).getD undef
def There (w : World) (b n : Nat) : Prop := ∀ o, o < n → (∃ u, w.cell? ⟨b, o, none⟩ = some u) ∧ w.frozen? ⟨b, o, none⟩ = false
section
variable {w w' : World} {b n : Nat}
theorem There.cell (h : There w b n) {o : Nat} (ho : o < n) : w.cell? ⟨b, o, none⟩ = some (cellv w ⟨b, o, none⟩) := by
  obtain ⟨u, hu⟩ := (h o ho).1
  simp [cellv, hu]
theorem There.free (h : There w b n) {o : Nat} (ho : o < n) : w.frozen? ⟨b, o, none⟩ = false := (h o ho).2
theorem There.ext (h : There w b n) (hx : Ext w w') : There w' b n := fun o ho => by
  obtain ⟨u, hu⟩ := (h o ho).1
  refine ⟨⟨u, hx.cell hu⟩, ?_⟩
  rw [hx.frozen (World.block_lt_of_cell? w _ hu)]
  exact (h o ho).2
theorem There.drew (h : There w b n) : There w.drew b n := h
theorem There.set (h : There w b n) (p : Addr) (v : Value) : There (w.setCell p v) b n := fun o ho => by
  obtain ⟨u, hu⟩ := (h o ho).1
  refine ⟨?_, by rw [World.frozen?_setCell]; exact (h o ho).2⟩
  by_cases e : p = ⟨b, o, none⟩
  · exact ⟨v, by rw [e]; exact World.cell?_setCell_same (u := u) _ _ _ hu⟩
  · exact ⟨u, by rw [World.cell?_setCell_other _ _ _ _ e]; exact hu⟩
theorem There.new (w : World) (cs : Array Value) (t : TypeId) (hn : n ≤ cs.size) : There (w.alloc (.cells cs t)) w.heap.size n := fun o ho => by
  refine ⟨⟨cs[o]'(by omega), ?_⟩, ?_⟩
  · rw [cell_of_row _ w.heap.size o cs t (0, 0) (heap_alloc_new w _)]
    simp
  · have := heap_alloc_new w (.cells cs t)
    unfold World.frozen?
    rw [this]
    simp
theorem Ext.set (h : Ext w w') {p : Addr} (hp : w.heap.size ≤ p.block) (v : Value) : Ext w (w'.setCell p v) := Below.setCell h hp v
theorem cell_far {p q : Addr} {v u : Value} (h : w.cell? q = some u) (hne : p.block ≠ q.block) : (w.setCell p v).cell? q = some u := by
  rw [World.cell?_setCell_other _ _ _ _ (fun e => hne (by rw [e]))]; exact h
end
def ints (l : List Int) : List Value := l.map (Value.int .i64)
theorem ints_append (l m : List Int) : ints (l ++ m) = ints l ++ ints m := by simp [ints]
theorem ints_drop (l : List Int) (k : Nat) : (ints l).drop k = ints (l.drop k) := by simp [ints]
theorem ints_take (l : List Int) (k : Nat) : (ints l).take k = ints (l.take k) := by simp [ints]
theorem ints_one (l : List Int) : ∀ u ∈ ints l, u.oneCell' = true := by
  intro u hu
  obtain ⟨_, _, rfl⟩ := List.mem_map.1 hu
  rfl
def lenOf : Value → Nat | .slice _ n _ => n | _ => 0
def nth (l : List Int) (k : Nat) : Int := l.getD k 0
def RdI (w : World) (A : Option Addr) (n c : Nat) (l : List Int) : Prop := Rd w 1 A n c (ints l)
section
variable {w w' : World} {n c : Nat} {A : Option Addr} {l : List Int}
theorem RdI.len (h : RdI w A n c l) : l.length = n := by have := h.1; simpa [ints] using this
theorem RdI.max (h : RdI w A n c l) : n ≤ 9223372036854775807 ∧ n ≤ c ∧ c ≤ 9223372036854775807 := Rd.max h
theorem RdI.at_ (h : RdI w A n c l) {k : Nat} (hk : k < n) :
    ∃ ad, A = some ad ∧ w.cell? (ad.add k) = some (.int .i64 (nth l k)) := by
  obtain ⟨ad, hA, hc⟩ := h.2.2.2 (by omega)
  have hl := h.len
  exact ⟨ad, hA, hc k _ (by simp [ints, nth, List.getD, hl, hk])⟩
theorem RdI.cells {ad : Addr} (h : RdI w (some ad) n c l) {k : Nat} (hk : k < n) : w.cell? (ad.add k) = some (.int .i64 (nth l k)) := by
  obtain ⟨ad', hA, hc⟩ := h.at_ hk
  injection hA with hA
  subst hA
  exact hc
theorem RdI.ext (h : RdI w A n c l) (hb : Ext w w') : RdI w' A n c l := Rd.ext h hb
theorem RdI.drewN (h : RdI w A n c l) (k : Nat) : RdI (w.drewN k) A n c l := h
theorem RdI.alloc (h : RdI w A n c l) (o : Obj) : RdI (w.alloc o) A n c l := Rd.alloc h o
theorem RdI.nil (w : World) : RdI w none 0 0 [] := Rd.none_ w 1
theorem RdI.cut (h : RdI w A n c l) {k : Nat} (hk : k ≤ n) :
    RdI w (if c = k then A else A.map (·.add k)) (n - k) (c - k) (l.drop k) := by
  have := Rd.cut h hk
  rw [Nat.mul_one, ints_drop] at this
  exact this
theorem RdI.of_own {base : Nat} {e : TypeId} (h : w.ownsRow base e 1 (.slice A n c) n (ints l)) : RdI w A n c l := Rd.of_own h
end
theorem own_form {w : World} {base : Nat} {e : TypeId} {size n : Nat} {v : Value} {xs : List Value} (h : w.ownsRow base e size v n xs) : ∃ A c, v = .slice A n c ∧ n ≤ c := by
  rcases h.2 with ⟨rfl, rfl⟩ | ⟨g, cap, cur, rfl, _, _, hcap, _⟩
  · exact ⟨none, 0, rfl, Nat.le_refl _⟩
  · exact ⟨_, cap, rfl, hcap⟩
def Dr (w w' : World) : Prop := ∃ n, w' = w.drewN n
theorem Dr.refl (w : World) : Dr w w := ⟨0, rfl⟩
theorem Dr.mk1 (w : World) (n : Nat) : Dr w (w.drewN n) := ⟨n, rfl⟩
theorem Dr.mk2 (w : World) (n m : Nat) : Dr w ((w.drewN n).drewN m) := ⟨_, World.drewN_drewN _ _ _⟩
theorem Dr.ext {w w' : World} (h : Dr w w') : Ext w w' := by obtain ⟨n, rfl⟩ := h; exact Ext.drewN _ _
theorem ret_bool {a b : Bool} (h : a = b) : Ending.returned (.bool a) = .returned (.bool b) := by rw [h]
theorem wpList_push {P : Program} (w : World) {ops : Array Oper} {rest : List Oper} {o : Oper} {a : Act} {Q : Exit → Act → World → Prop} (hgd : o.guard = none) (s x : Operand) (t : TypeId)
    (ho : o.op = .call { callee := .builtin .append, args := #[s, x], argTypes := #[t, t] })
    (base : Nat) (e : TypeId) (i : TypeInfo) (z : Value) (size bytes : Nat) (ht : P.underlying t = some (.slice e)) (hi : P.info? e = some i) (hz : i.zero = some z)
    (hsize : i.size = size) (hby : i.bytes = bytes) (hzs : z.cells.size = size) (hsz : 0 < size)
    (v : Value) (n : Nat) (xs : List Value) (hs : a.eval s = v) (hown : w.ownsRow base e size v n xs)
    (es : List Value) (hx : a.eval x = .slice (some ⟨w.heap.size, 0, none⟩) 1 1) (hl : es.length = size) (h1 : ∀ u ∈ es, u.oneCell' = true)
    (h63 : n + 1 ≤ maxLen) (hbytes : (n + 1) * bytes ≤ 140737488355328) (hbase : base ≤ w.heap.size)
    (h : ∀ g cap w', w'.ownsRow base e size (.slice (some ⟨g, 0, none⟩) (n + 1) cap) (n + 1) (xs ++ es) → w.grownBy w' v.ownBlock → (v.ownBlock = some g ∨ g = w.heap.size + 1) →
      wpList P ops Q rest (a.put o.dst (.slice (some ⟨g, 0, none⟩) (n + 1) cap)) w') : wpList P ops Q (o :: rest) a (w.alloc (.cells es.toArray e)) := by
  refine wpList_append_lies _ hgd s x t ho base e i z size bytes ht hi hz hsize hby hzs hsz v n xs hs (hown.alloc _) ⟨w.heap.size, 0, none⟩ 1 1 es hx (by omega) ?_ h1 (by omega) h63 hbytes (by simp; omega) (w.heap.size + 1) (by simp) ?_
  · intro j u hu
    have hadd : (⟨w.heap.size, 0, none⟩ : Addr).add j = ⟨w.heap.size, j, none⟩ := by unfold Addr.add; split <;> simp_all
    rw [hadd, cell_of_row _ w.heap.size j es.toArray e (0, 0) (heap_alloc_new w _)]
    simpa using hu
  · intro g cap w' hown' hgrow hat hlt
    refine h g cap w' hown' ⟨hgrow.os, hgrow.tape, hgrow.output, ?_, fun k hk hne => ?_⟩ hat
    · have := hgrow.size; simp at this; omega
    · rw [hgrow.block k (by simp; omega) hne]
      exact Below.heap_alloc w _ k hk
theorem wpList_pushI {P : Program} (w : World) {ops : Array Oper} {rest : List Oper} {o : Oper} {a : Act} {Q : Exit → Act → World → Prop} (hgd : o.guard = none) (s x : Operand) (t : TypeId)
    (ho : o.op = .call { callee := .builtin .append, args := #[s, x], argTypes := #[t, t] })
    (base : Nat) (e : TypeId) (i : TypeInfo) (ht : P.underlying t = some (.slice e)) (hi : P.info? e = some i) (hz : i.zero = some (.int .i64 0))
    (hsize : i.size = 1) (hby : i.bytes = 8)
    (v : Value) (n : Nat) (l : List Int) (hs : a.eval s = v) (hown : w.ownsRow base e 1 v n (ints l)) (y : Int) (hx : a.eval x = .slice (some ⟨w.heap.size, 0, none⟩) 1 1)
    (hn : n ≤ 10000000) (hbase : base ≤ w.heap.size)
    (h : ∀ g cap w', w'.ownsRow base e 1 (.slice (some ⟨g, 0, none⟩) (n + 1) cap) (n + 1) (ints (l ++ [y])) → w.grownBy w' v.ownBlock → (v.ownBlock = some g ∨ g = w.heap.size + 1) →
      wpList P ops Q rest (a.put o.dst (.slice (some ⟨g, 0, none⟩) (n + 1) cap)) w') : wpList P ops Q (o :: rest) a (w.alloc (.cells #[.int .i64 y] e)) :=
  wpList_push w hgd s x t ho base e i _ 1 8 ht hi hz hsize hby rfl (by decide) v n (ints l) hs hown [.int .i64 y] hx rfl (by simp [Value.oneCell']) (by unfold maxLen; omega) (by omega) hbase
    (fun g cap w' h1 h2 h3 => h g cap w' (by rw [ints_append]; exact h1) h2 h3)
theorem below_push {w0 w w' : World} {base n size : Nat} {e : TypeId} {v : Value} {xs : List Value} (hb : Below base w0 w) (hown : w.ownsRow base e size v n xs) (hg : w.grownBy w' v.ownBlock) (hB : base ≤ w.heap.size) : Below base w0 w' :=
  hb.grown hg hB fun k hk => (hown.lt k hk).1
theorem Dr.trans {a b c : World} (h : Dr a b) (k : Dr b c) : Dr a c := by obtain ⟨n, rfl⟩ := h; obtain ⟨m, rfl⟩ := k; exact Dr.mk2 _ _ _
theorem Dr.step {a b : World} (h : Dr a b) (n : Nat) : Dr a (b.drewN n) := h.trans (.mk1 _ _)
def Fr (B : Nat) (A : Option Addr) : Prop := ∀ ad, A = some ad → B ≤ ad.block
theorem Fr.none_ (B : Nat) : Fr B none := fun _ h => by cases h
theorem Fr.mono {B C : Nat} {A : Option Addr} (h : Fr C A) (hB : B ≤ C) : Fr B A := fun ad e => Nat.le_trans hB (h ad e)
theorem own_fresh {w : World} {base : Nat} {e : TypeId} {size n m c : Nat} {A : Option Addr} {xs : List Value} (h : w.ownsRow base e size (.slice A m c) n xs) : Fr base A := by
  intro ad hA
  subst hA
  exact (h.lt ad.block rfl).1
def Give (v : Value) (w : World) (e : Ending) (w' : World) : Prop := e = .returned v ∧ Ext w w'
theorem ret_int {k : IntKind} {a b : Int} (h : a = b) : Ending.returned (.int k a) = .returned (.int k b) := by rw [h]
open Go.RowKit Go.Shelf
theorem add_add4 (p : Addr) (i j : Nat) : (p.add i).add j = p.add (i + j) := by
  unfold Addr.add
  by_cases hi : i = 0
  · simp [hi]
  · by_cases hj : j = 0
    · simp [hi, hj]
    · simp [hi, hj]; omega
theorem cell_fk {w : World} {ad : Addr} {m j : Nat} {v : Value} (h : w.cell? (ad.add (m + j)) = some v) (hj : 0 < j) : w.cell? ⟨(ad.add m).block, (ad.add m).off + j, none⟩ = some v := by
  rw [← add_add4] at h
  generalize ad.add m = q at *
  unfold Addr.add at h
  rw [if_neg (by omega)] at h
  exact h
theorem set_get {w : World} {p : Addr} {v : Value} {u : Value} (h : w.cell? p = some u) : (w.setCell p v).cell? p = some v := World.cell?_setCell_same _ _ _ h
theorem set_keep {w : World} {p q : Addr} {v u : Value} (h : w.cell? q = some u) (hne : p ≠ q) : (w.setCell p v).cell? q = some u := by rw [World.cell?_setCell_other _ _ _ _ hne]; exact h
theorem off_ne {b i j : Nat} (h : i ≠ j) : (⟨b, i, none⟩ : Addr) ≠ ⟨b, j, none⟩ := fun e => h (by injection e)
section
variable {P : Program}
theorem run_copy_k (w : World) (dT sT ty elem : TypeId) (k g o dLen dCap : Nat) (a : Addr) (sLen sCap : Nat) (cur : List Value) (t : TypeId) (cs : List Value)
    (hu : P.underlying dT = some (.slice elem)) (hs : (P.info? elem).map (·.size) = some k)
    (hg : w.heap[g]? = some (.cells cur.toArray t (0, 0))) (hn : cs.length = Nat.min sLen dLen * k)
    (hsrc : ∀ j v, cs[j]? = some v → w.cell? (a.add j) = some v) (hfit : o + cs.length ≤ cur.length) (h1 : ∀ v ∈ cs, v.oneCell' = true) :
    (Builtin.copy_ #[dT, sT] ty #[.slice (some ⟨g, o, none⟩) dLen dCap, .slice (some a) sLen sCap]).run P w =
      .ok (goInt (Nat.min sLen dLen)) (w.setRow g (splice cur o cs).toArray) := by
  have hl := run_loadCells_list (P := P) w a cs hsrc
  have hst := run_storeCells_at P g o t cs 0 cur.toArray w hg (by simpa using hfit) h1
  cases hq : P.info? elem with
  | none => simp [hq] at hs
  | some i =>
    have hi : i.size = k := by simpa [hq] using hs
    simp [Builtin.copy_, run_underlying hu, Builtin.lenOf, Builtin.firstCells, sizeOf, typeInfo, hq, hi, ← hn, hl, hst, splice]
theorem grown_setRow0 (w : World) (g : Nat) (cs : Array Value) : w.grownBy (w.setRow g cs) (some g) :=
  ⟨rfl, rfl, rfl, by simp, fun k _ hk => setRow_other w g k cs (fun e => hk (by rw [e]))⟩
theorem ex_copy_k (w : World) (dT sT ty elem : TypeId) (k g o dLen dCap : Nat) (a : Addr) (sLen sCap : Nat) (cur : List Value) (t : TypeId) (cs : List Value)
    (hu : P.underlying dT = some (.slice elem)) (hs : (P.info? elem).map (·.size) = some k)
    (hg : Hid (w.heap[g]? = some (.cells cur.toArray t (0, 0)))) (m : Nat) (hm : Hid (Nat.min sLen dLen = m)) (hn : Hid (cs.length = m * k))
    (hsrc : ∀ j v, cs[j]? = some v → w.cell? (a.add j) = some v) (hfit : o + cs.length ≤ cur.length) (h1 : ∀ v ∈ cs, v.oneCell' = true) :
    ∃ w', (Builtin.copy_ #[dT, sT] ty #[.slice (some ⟨g, o, none⟩) dLen dCap, .slice (some a) sLen sCap]).run P w = .ok (.int .i64 m) w' ∧ Hid (w'.heap[g]? = some (.cells (splice cur o cs).toArray t (0, 0))) ∧ Hid (w.grownBy w' (some g)) := by
  have hm' := hm.out
  refine ⟨_, ?_, setRow_heap w g _ _ t _ hg.out, grown_setRow0 w g _⟩
  rw [run_copy_k w dT sT ty elem k g o dLen dCap a sLen sCap cur t cs hu hs hg.out (by rw [hm']; exact hn.out) hsrc hfit h1, hm']
  rfl
end
theorem row_cell {w : World} {g : Nat} {cur : List Value} {t : TypeId} (hg : w.heap[g]? = some (.cells cur.toArray t (0, 0))) (o j : Nat) {v : Value} (h : cur[o + j]? = some v) : w.cell? ((⟨g, o, none⟩ : Addr).add j) = some v := by
  have e : (⟨g, o, none⟩ : Addr).add j = ⟨g, o + j, none⟩ := by unfold Addr.add; split <;> simp_all
  rw [e, cell_of_row w g (o + j) cur.toArray t (0, 0) hg]
  simpa using h
section
variable {P : Program} {ops : Array Oper} {Q : Exit → Act → World → Prop} {md : Region.Mode} {S : World → Prop} {last : Nat}
def wpAnyJ (P : Program) (md : Region.Mode) (ops : Array Oper) (Q : Exit → Act → World → Prop) (S : World → Prop) (last : Nat) : Nat → Array Bool → Act → World → Prop
  | 0, listed, a, w => Region.ready md ops listed = [] ∧ Q .normal a w
  | fuel + 1, listed, a, w =>
    (Region.ready md ops listed = [] → Q .normal a w) ∧
    ∀ i ∈ Region.ready md ops listed, wpOp P ops Q i (fun a' w' => (i ≠ last → S w') ∧ wpAnyJ P md ops Q S last fuel (listed.setIfInBounds i true) a' w') a w
theorem wpAny_of_J : ∀ (fuel : Nat) (listed : Array Bool) (a : Act) (w : World), wpAnyJ P md ops Q S last fuel listed a w → wpAny P md ops Q fuel listed a w
  | 0, _, _, _, h => h
  | fuel + 1, _, _, _, h => ⟨h.1, fun i hi => wpOp_mono (fun a' w' h' => wpAny_of_J fuel _ a' w' h'.2) (h.2 i hi)⟩
def waits (md : Region.Mode) (ops : Array Oper) (last i : Nat) : Bool := match ops[last]? with | some o => o.after.any fun e => Region.binds md e && e.on == i | none => false
theorem waits_spec {i : Nat} {listed : Array Bool} (h : waits md ops last i = true) (hi : i ∈ Region.ready md ops listed) : last ∉ Region.ready md ops listed := by
  intro hl
  obtain ⟨_, ol, hol, hall⟩ := mem_ready.1 hl
  unfold waits at h
  rw [hol] at h
  obtain ⟨e, he, hb⟩ := Array.any_eq_true'.1 h
  simp only [Bool.and_eq_true, beq_iff_eq] at hb
  have h1 := hall e he hb.1
  have h0 := (mem_ready.1 hi).1
  rw [hb.2] at h1
  rcases Nat.lt_or_ge i listed.size with h' | h'
  · simp [h'] at h0 h1; rw [h0] at h1; cases h1
  · simp [Array.getElem?_eq_none h'] at h1
theorem wpAnyJ_first {i : Nat} {oi : Oper} {v : Value} (hi : ops[i]? = some oi) (hsel : ∀ (j : Nat) (o : Oper) cs b, ops[j]? = some o → o.op ≠ .select cs b)
    (hQ : ∀ c a w, Q (.panic c) (a.put oi.dst v) w → Q (.panic c) a w) (hw : waits md ops last i = true) :
    ∀ (fuel : Nat) (listed : Array Bool) (a : Act) (w : World),
      (∀ j oj, ops[j]? = some oj → j ≠ i → listed.getD j true = false → (∀ e ∈ oj.after, Region.binds md e = true → e.on ≠ i) → oi.apart ops oj = true) →
      i ∈ Region.ready md ops listed → YieldsIf P ops S oi v a → S w →
      wpAnyJ P md ops Q S last fuel (listed.setIfInBounds i true) (a.put oi.dst v) w → wpAnyJ P md ops Q S last (fuel + 1) listed a w := by
  intro fuel
  induction fuel with
  | zero =>
    intro listed a w _ hr hy hS H
    refine ⟨fun h => (by rw [h] at hr; cases hr), fun j hj => ?_⟩
    by_cases hji : j = i
    · subst hji; exact hy.wpOp hi hS ⟨fun _ => hS, H⟩
    · have := ready_mono hj hji
      rw [H.1] at this
      cases this
  | succ fuel ih =>
    intro listed a w hfree hr hy hS H
    refine ⟨fun h => (by rw [h] at hr; cases hr), fun j hj => ?_⟩
    by_cases hji : j = i
    · subst hji; exact hy.wpOp hi hS ⟨fun _ => hS, H⟩
    · have h1 := H.2 j (ready_mono hj hji)
      obtain ⟨hjun, oj, hoj, hall⟩ := mem_ready.1 hj
      have hjl : j ≠ last := fun e => waits_spec hw hr (e ▸ hj)
      have hnot : ∀ e ∈ oj.after, Region.binds md e = true → e.on ≠ i := fun e he hb heq => by
        have h1 := hall e he hb
        have h0 := (mem_ready.1 hr).1
        rw [heq] at h1
        rcases Nat.lt_or_ge i listed.size with h' | h'
        · simp [h'] at h0 h1; rw [h0] at h1; cases h1
        · simp [Array.getElem?_eq_none h'] at h1
      have h2 := wpOp_putIf hoj (hfree j oj hoj hji hjun hnot) (fun cs b => hsel i oi cs b hi) (fun cs b => hsel j oj cs b hoj) hQ hy h1
      have hfree' : ∀ k ok, ops[k]? = some ok → k ≠ i → (listed.setIfInBounds j true).getD k true = false →
          (∀ e ∈ ok.after, Region.binds md e = true → e.on ≠ i) → oi.apart ops ok = true := fun k ok hk hki hun hno => by
        refine hfree k ok hk hki ?_ hno
        by_cases hjk : j = k
        · subst hjk; exact hjun
        · rw [getD_set_ne true hjk] at hun; exact hun
      refine wpOp_mono (fun a' w' h3 => ⟨h3.2.1, ih (listed.setIfInBounds j true) a' w' hfree' (ready_mono hr (Ne.symm hji)) h3.1 (h3.2.1 hjl) ?_⟩) h2
      rw [Array.setIfInBounds_comm _ _ hji]
      exact h3.2.2
theorem J_take (i : Nat) {oi : Oper} {v : Value} {fuel : Nat} {listed : Array Bool} {a : Act} {w : World} (hi : ops[i]? = some oi)
    (hs : Region.noSelect ops = true) (hf : Region.free md ops listed i = true) (hr : (Region.ready md ops listed).contains i = true) (hw : waits md ops last i = true)
    (hQ : ∀ c a w, Q (.panic c) (a.put oi.dst v) w → Q (.panic c) a w) (hy : YieldsIf P ops S oi v a) (hS : S w)
    (h : wpAnyJ P md ops Q S last fuel (listed.setIfInBounds i true) (a.put oi.dst v) w) : wpAnyJ P md ops Q S last (fuel + 1) listed a w :=
  wpAnyJ_first hi (Region.noSelect_spec hs) hQ hw fuel listed a w (Region.free_spec hi hf) (by simpa using hr) hy hS h
theorem JT (i : Nat) {oi : Oper} {v : Value} {fuel : Nat} {listed : Array Bool} {a : Act} {w : World} (hS : S w) (hy : ∀ w, S w → (execOp a.eval oi).run P w = .ok (.value v) w)
    (h : wpAnyJ P md ops Q S last fuel (listed.setIfInBounds i true) (a.put oi.dst v) w) (hi : ops[i]? = some oi := by exact rfl) (hs : Region.noSelect ops = true := by kernel_rfl) (hf : Region.free md ops listed i = true := by kernel_rfl) (hr : (Region.ready md ops listed).contains i = true := by kernel_rfl)
    (hw : waits md ops last i = true := by kernel_rfl) (hQ : ∀ c a w, Q (.panic c) (a.put oi.dst v) w → Q (.panic c) a w := by exact fun _ _ _ h => h) (hg : Region.wanted oi (yielded ops a.tmps) = true := by exact rfl) : wpAnyJ P md ops Q S last (fuel + 1) listed a w := J_take i hi hs hf hr hw hQ (Or.inl ⟨hg, hy⟩) hS h
theorem J_one (i : Nat) {o : Oper} {fuel : Nat} {listed : Array Bool} {a : Act} {w : World} (hi : ops[i]? = some o) (hr : Region.ready md ops listed = [i])
    (h : ∀ K, (∀ a' w', (i ≠ last → S w') ∧ wpAnyJ P md ops Q S last fuel (listed.setIfInBounds i true) a' w' → K a' w') → if Region.wanted o (yielded ops a.tmps) = true then Oper.wp P o a w K Q else K (a.put o.dst undef) w) : wpAnyJ P md ops Q S last (fuel + 1) listed a w := by
  refine ⟨fun h0 => absurd (hr ▸ h0) (by simp), fun j hj => ?_⟩
  rw [hr, List.mem_singleton] at hj
  subst hj
  have h1 := h _ (fun _ _ h => h)
  unfold wpOp
  simp only [hi]
  split
  · rename_i hw; rw [if_pos hw] at h1; exact .inl h1
  · rename_i hw; rw [if_neg hw] at h1; exact h1
theorem J_done {fuel : Nat} {listed : Array Bool} {a : Act} {w : World} (hr : Region.ready md ops listed = []) (h : Q .normal a w) : wpAnyJ P md ops Q S last fuel listed a w := by
  cases fuel with
  | zero => exact ⟨hr, h⟩
  | succ n => exact ⟨fun _ => h, by rw [hr]; simp⟩
end
def OnlyOn (Q : Exit → Act → World → Prop) : Exit → Act → World → Prop
  | .panic _, _, _ => False
  | .outgrown, _, _ => False
  | e, a, w => Q e a w
theorem OnlyOn.imp {Q : Exit → Act → World → Prop} : ∀ (e : Exit) (a : Act) (w : World), OnlyOn Q e a w → Q e a w := fun e a w h => by
  cases e <;> first | exact h | exact (h : False).elim
theorem OnlyOn.normal {Q : Exit → Act → World → Prop} {a : Act} {w : World} (h : Q .normal a w) : OnlyOn Q .normal a w := h
theorem region_J {P : Program} {id : Nat} {ops : Array Oper} {Q : Exit → Act → World → Prop} (S : World → Prop) (last : Nat) {a : Act} {w : World} (hm : P.follows .mixedOrders = true)
    (h : wpAnyJ P .any ops (OnlyOn Q) S last ops.size (Array.replicate ops.size false) a w.drew) : (Code.region id ops true).wp P Q a w :=
  Code.wp_mono OnlyOn.imp (wp_region_any hm (wpAny_of_J _ _ _ _ h))
section
variable {P : Program} {ops : Array Oper} {Q : Exit → Act → World → Prop} {md : Region.Mode} {S : World → Prop} {last : Nat}
theorem wpAnyJ_firstO {i : Nat} {oi : Oper} {v : Value} (hi : ops[i]? = some oi) (hsel : ∀ (j : Nat) (o : Oper) cs b, ops[j]? = some o → o.op ≠ .select cs b)
    (hQ : ∀ c a w, Q (.panic c) (a.put oi.dst v) w → Q (.panic c) a w) (hw : ops.size ≤ last) :
    ∀ (fuel : Nat) (listed : Array Bool) (a : Act) (w : World),
      (∀ j oj, ops[j]? = some oj → j ≠ i → listed.getD j true = false → (∀ e ∈ oj.after, Region.binds md e = true → e.on ≠ i) → oi.apart ops oj = true) →
      i ∈ Region.ready md ops listed → YieldsIf P ops S oi v a → S w →
      wpAnyJ P md ops Q S last fuel (listed.setIfInBounds i true) (a.put oi.dst v) w → wpAnyJ P md ops Q S last (fuel + 1) listed a w := by
  intro fuel
  induction fuel with
  | zero =>
    intro listed a w _ hr hy hS H
    refine ⟨fun h => (by rw [h] at hr; cases hr), fun j hj => ?_⟩
    by_cases hji : j = i
    · subst hji; exact hy.wpOp hi hS ⟨fun _ => hS, H⟩
    · have := ready_mono hj hji
      rw [H.1] at this
      cases this
  | succ fuel ih =>
    intro listed a w hfree hr hy hS H
    refine ⟨fun h => (by rw [h] at hr; cases hr), fun j hj => ?_⟩
    by_cases hji : j = i
    · subst hji; exact hy.wpOp hi hS ⟨fun _ => hS, H⟩
    · have h1 := H.2 j (ready_mono hj hji)
      obtain ⟨hjun, oj, hoj, hall⟩ := mem_ready.1 hj
      have hjl : j ≠ last := fun e => by
        have := (Array.getElem?_eq_some_iff.1 hoj).1
        omega
      have hnot : ∀ e ∈ oj.after, Region.binds md e = true → e.on ≠ i := fun e he hb heq => by
        have h1 := hall e he hb
        have h0 := (mem_ready.1 hr).1
        rw [heq] at h1
        rcases Nat.lt_or_ge i listed.size with h' | h'
        · simp [h'] at h0 h1; rw [h0] at h1; cases h1
        · simp [Array.getElem?_eq_none h'] at h1
      have h2 := wpOp_putIf hoj (hfree j oj hoj hji hjun hnot) (fun cs b => hsel i oi cs b hi) (fun cs b => hsel j oj cs b hoj) hQ hy h1
      have hfree' : ∀ k ok, ops[k]? = some ok → k ≠ i → (listed.setIfInBounds j true).getD k true = false →
          (∀ e ∈ ok.after, Region.binds md e = true → e.on ≠ i) → oi.apart ops ok = true := fun k ok hk hki hun hno => by
        refine hfree k ok hk hki ?_ hno
        by_cases hjk : j = k
        · subst hjk; exact hjun
        · rw [getD_set_ne true hjk] at hun; exact hun
      refine wpOp_mono (fun a' w' h3 => ⟨h3.2.1, ih (listed.setIfInBounds j true) a' w' hfree' (ready_mono hr (Ne.symm hji)) h3.1 (h3.2.1 hjl) ?_⟩) h2
      rw [Array.setIfInBounds_comm _ _ hji]
      exact h3.2.2
theorem J_takeO (i : Nat) {oi : Oper} {v : Value} {fuel : Nat} {listed : Array Bool} {a : Act} {w : World} (hi : ops[i]? = some oi)
    (hs : Region.noSelect ops = true) (hf : Region.free md ops listed i = true) (hr : (Region.ready md ops listed).contains i = true) (hw : decide (ops.size ≤ last) = true)
    (hQ : ∀ c a w, Q (.panic c) (a.put oi.dst v) w → Q (.panic c) a w) (hy : YieldsIf P ops S oi v a) (hS : S w)
    (h : wpAnyJ P md ops Q S last fuel (listed.setIfInBounds i true) (a.put oi.dst v) w) : wpAnyJ P md ops Q S last (fuel + 1) listed a w :=
  wpAnyJ_firstO hi (Region.noSelect_spec hs) hQ (of_decide_eq_true hw) fuel listed a w (Region.free_spec hi hf) (by simpa using hr) hy hS h
theorem JO (i : Nat) {oi : Oper} {v : Value} {fuel : Nat} {listed : Array Bool} {a : Act} {w : World} (hS : S w) (hy : ∀ w, S w → (execOp a.eval oi).run P w = .ok (.value v) w)
    (h : wpAnyJ P md ops Q S last fuel (listed.setIfInBounds i true) (a.put oi.dst v) w) (hi : ops[i]? = some oi := by exact rfl) (hs : Region.noSelect ops = true := by kernel_rfl) (hf : Region.free md ops listed i = true := by kernel_rfl) (hr : (Region.ready md ops listed).contains i = true := by kernel_rfl)
    (hw : decide (ops.size ≤ last) = true := by kernel_rfl) (hQ : ∀ c a w, Q (.panic c) (a.put oi.dst v) w → Q (.panic c) a w := by exact fun _ _ _ h => h) (hg : Region.wanted oi (yielded ops a.tmps) = true := by exact rfl) : wpAnyJ P md ops Q S last (fuel + 1) listed a w := J_takeO i hi hs hf hr hw hQ (Or.inl ⟨hg, hy⟩) hS h
end
section
variable {P : Program} {ops : Array Oper} {Q : Exit → Act → World → Prop} {md : Region.Mode} {S : World → Prop} {last : Nat}
theorem J_two (i j : Nat) {o o' : Oper} {fuel : Nat} {listed : Array Bool} {a : Act} {w : World} (hi : ops[i]? = some o) (hj : ops[j]? = some o') (hr : Region.ready md ops listed = [i, j])
    (h : ∀ K, (∀ a' w', (i ≠ last → S w') ∧ wpAnyJ P md ops Q S last fuel (listed.setIfInBounds i true) a' w' → K a' w') → if Region.wanted o (yielded ops a.tmps) = true then Oper.wp P o a w K Q else K (a.put o.dst undef) w)
    (h' : ∀ K, (∀ a' w', (j ≠ last → S w') ∧ wpAnyJ P md ops Q S last fuel (listed.setIfInBounds j true) a' w' → K a' w') → if Region.wanted o' (yielded ops a.tmps) = true then Oper.wp P o' a w K Q else K (a.put o'.dst undef) w) : wpAnyJ P md ops Q S last (fuel + 1) listed a w := by
  refine ⟨fun h0 => absurd (hr ▸ h0) (by simp), fun k hk => ?_⟩
  rw [hr, List.mem_cons, List.mem_singleton] at hk
  rcases hk with rfl | rfl
  · have h1 := h _ (fun _ _ h => h)
    unfold wpOp
    simp only [hi]
    split
    · rename_i hw; rw [if_pos hw] at h1; exact .inl h1
    · rename_i hw; rw [if_neg hw] at h1; exact h1
  · have h1 := h' _ (fun _ _ h => h)
    unfold wpOp
    simp only [hj]
    split
    · rename_i hw; rw [if_pos hw] at h1; exact .inl h1
    · rename_i hw; rw [if_neg hw] at h1; exact h1
end
theorem step_run {P : Program} {ops : Array Oper} {o : Oper} {a : Act} {w w' : World} {K : Act → World → Prop} {Q : Exit → Act → World → Prop} {E : Prop} (hgd : o.guard = none) (v : Value)
    (hr : ((execOp a.eval o).run P w) = .ok (.value v) w') (h : K (a.put o.dst v) w') : if Region.wanted o (yielded ops a.tmps) = true then Oper.wp P o a w K Q else E := by
  have hw : Region.wanted o (yielded ops a.tmps) = true := by simp [Region.wanted, hgd]
  rw [if_pos hw]
  unfold Oper.wp
  rw [hr]
  exact h
theorem ex_append {P : Program} {o : Oper} {a : Act} {w w' : World} (s x : Operand) (t tn : TypeId) (ho : o.op = .call { callee := .builtin .append, args := #[s, x], argTypes := #[t, tn] }) (vs vx : Value) (hs : a.eval s = vs) (hx : a.eval x = vx)
    (v' : Value) (hr : (Builtin.append_ #[t, tn] o.type #[vs, vx]).run P w = .ok v' w') : (execOp a.eval o).run P w = .ok (.value v') w' := by
  unfold execOp
  simp only [ho, resolve, invoke, builtin, Sem.run_bind, Sem.run_pure, Result.andThen_ok, List.map_toArray, List.map_cons, List.map_nil, hs, hx, hr]
theorem zero_cells_1 (z : Array Value) : (Builtin.zeroCells z 1).toList = z.toList := by
  apply List.ext_getElem
  · simp [Builtin.zeroCells]
  · intro i h1 h2
    simp at h2
    simp [Builtin.zeroCells, Nat.mod_eq_of_lt h2, h2]
theorem ex_clear_1 {P : Program} (w : World) (t ty elem : TypeId) (g o c : Nat) (cur : List Value) (T : TypeId) (z : Value) (zs : List Value) (hu : P.underlying t = some (.slice elem)) (hz : ∀ w, (zeroValue elem).run P w = .ok z w) (hzs : z.cells.toList = zs)
    (hg : Hid (w.heap[g]? = some (.cells cur.toArray T (0, 0)))) (hfit : o + zs.length ≤ cur.length) (h1 : ∀ v ∈ zs, v.oneCell' = true) :
    ∃ w', (Builtin.clear_ #[t] ty #[.slice (some ⟨g, o, none⟩) 1 c]).run P w = .ok (.tuple #[]) w' ∧ Hid (w'.heap[g]? = some (.cells (splice cur o zs).toArray T (0, 0))) ∧ Hid (w.grownBy w' (some g)) := by
  refine ⟨w.setRow g (splice cur o zs).toArray, ?_, setRow_heap w g _ _ T _ hg.out, grown_setRow0 w g _⟩
  have hst := run_storeCells_at P g o T zs 0 cur.toArray w hg.out (by simpa using hfit) h1
  simp [Builtin.clear_, run_underlying hu, hz, zero_cells_1, hzs, hst, splice]
theorem ex_append_row {P : Program} (w : World) (t ty e : TypeId) (k : Nat) (hu : P.underlying t = some (.slice e)) (hs : (P.info? e).map (·.size) = some k) (g n cap : Nat) (cur : List Value) (hg : Hid (w.heap[g]? = some (.cells cur.toArray e (0, 0))))
    (a : Addr) (m c : Nat) (news : List Value) (hl : news.length = m * k) (hnews : ∀ j u, news[j]? = some u → w.cell? (a.add j) = some u) (h1 : ∀ u ∈ news, u.oneCell' = true) (hroom : n + m ≤ cap) (hfit : n * k + news.length ≤ cur.length) :
    ∃ w', (Builtin.append_ #[t, t] ty #[.slice (some ⟨g, 0, none⟩) n cap, .slice (some a) m c]).run P w = .ok (.slice (some ⟨g, 0, none⟩) (n + m) cap) w' ∧ Hid (w'.heap[g]? = some (.cells (splice cur (n * k) news).toArray e (0, 0))) ∧ Hid (w.grownBy w' (some g)) := by
  cases hq : P.info? e with
  | none => simp [hq] at hs
  | some i =>
    have hi : i.size = k := by simpa [hq] using hs
    subst hi
    refine ⟨w.setRow g (splice cur (n * i.size) news).toArray, ?_, setRow_heap w g _ _ e _ hg.out, grown_setRow0 w g _⟩
    rw [run_append_room w t ty e i hu hq g n cap cur.toArray hg.out a m c news hl hnews h1 hroom (by simpa using hfit)]
    simp [splice, List.append_assoc]
theorem run_append_nilsrc {P : Program} (w : World) (base : Nat) (t ty e : TypeId) (i : TypeInfo) (size : Nat) (ht : P.underlying t = some (.slice e)) (hi : P.info? e = some i)
    (v : Value) (n : Nat) (xs : List Value) (hown : w.ownsRow base e size v n xs) (c : Nat) : (Builtin.append_ #[t, t] ty #[v, .slice none 0 c]).run P w = .ok v w := by
  rcases hown.2 with ⟨rfl, rfl⟩ | ⟨g, cap, cur, rfl, _, _, hnc, _⟩
  · simp [Builtin.append_, run_underlying ht, sizeOf, typeInfo, hi, Builtin.lenOf, Builtin.firstCells]
  · simp [Builtin.append_, run_underlying ht, sizeOf, typeInfo, hi, Builtin.lenOf, Builtin.firstCells, hnc, storeCells]
theorem wpList_appendAny {P : Program} (w : World) {ops : Array Oper} {rest : List Oper} {o : Oper} {a : Act} {Q : Exit → Act → World → Prop} (hgd : o.guard = none) (s x : Operand) (t : TypeId)
    (ho : o.op = .call { callee := .builtin .append, args := #[s, x], argTypes := #[t, t] })
    (base : Nat) (e : TypeId) (i : TypeInfo) (z : Value) (size bytes : Nat) (ht : P.underlying t = some (.slice e)) (hi : P.info? e = some i) (hz : i.zero = some z)
    (hsize : i.size = size) (hby : i.bytes = bytes) (hzs : z.cells.size = size) (hsz : 0 < size)
    (v : Value) (n : Nat) (xs : List Value) (hs : a.eval s = v) (hown : w.ownsRow base e size v n xs)
    (A : Option Addr) (m c : Nat) (es : List Value) (hx : a.eval x = .slice A m c) (hr : Rd w size A m c es) (h1 : ∀ u ∈ es, u.oneCell' = true)
    (h63 : n + m ≤ maxLen) (hbytes : (n + m) * bytes ≤ 140737488355328) (hbase : base ≤ w.heap.size)
    (h : ∀ v' w', w'.ownsRow base e size v' (n + m) (xs ++ es) → w.grownBy w' v.ownBlock → wpList P ops Q rest (a.put o.dst v') w') : wpList P ops Q (o :: rest) a w := by
  rcases A with _ | ad
  · have hm : m = 0 := by
      rcases Nat.eq_zero_or_pos m with h0 | h0
      · exact h0
      · obtain ⟨ad, h, _⟩ := hr.2.2.2 h0
        cases h
    subst hm
    have hn : es = [] := List.eq_nil_of_length_eq_zero (by simpa using hr.1)
    subst hn
    refine wpList_plain hgd fun K hK => ?_
    have hrun := run_append_nilsrc (P := P) w base t o.type e i size ht hi v n xs hown c
    unfold Oper.wp
    simp [execOp, ho, resolve, invoke, builtin, hs, hx, hrun, Result.andThen]
    exact hK _ _ (h v w (by simpa using hown) (World.grownBy.refl w _))
  · refine wpList_append_own w hgd s x t ho base e i z size bytes ht hi hz hsize hby hzs hsz v n xs hs hown ad m c es hx hr.1 ?_ h1 h63 hbytes hbase fun v' w' h2 h3 _ => h v' w' h2 h3
    intro j u hu
    rcases Nat.eq_zero_or_pos m with h0 | h0
    · subst h0
      have hn : es = [] := List.eq_nil_of_length_eq_zero (by simpa using hr.1)
      subst hn
      simp at hu
    · obtain ⟨ad', e', hc⟩ := hr.2.2.2 h0
      injection e' with e'
      subst e'
      exact hc j u hu
theorem own_rd {w : World} {v : Value} {b n k : Nat} {t : TypeId} {xs : List Value} (h : w.ownsRow b t k v n xs) : ∃ A c, v = .slice A n c ∧ Rd w k A n c xs := by
  rcases h.2 with ⟨hv, h0⟩ | ⟨g', cap, cur, hv, _⟩
  · refine ⟨none, 0, by rw [hv, h0], ?_⟩
    have : v = .slice none n 0 := by rw [hv, h0]
    rw [this] at h
    exact Rd.of_own h
  · refine ⟨_, _, hv, ?_⟩
    rw [hv] at h
    exact Rd.of_own h
theorem own_none {w : World} {b n c k : Nat} {t : TypeId} {xs : List Value} (h : w.ownsRow b t k (.slice none n c) n xs) : n = 0 ∧ c = 0 ∧ xs = [] := by
  rcases h.2 with ⟨hv, h0⟩ | ⟨g', cap, cur, hv, _⟩
  · injection hv with _ e1 e2
    refine ⟨h0, e2, ?_⟩
    have := h.1
    rw [h0, Nat.zero_mul] at this
    exact List.eq_nil_of_length_eq_zero this
  · injection hv with e1
    cases e1
section
variable {g : Nat} {w w' : World}
theorem own_set {e : TypeId} {b n sz : Nat} {v : Value} {xs : List Value} (h : w.ownsRow b e sz v n xs) (hne : v.ownBlock ≠ some g) (i : Nat) (u : Value) : (w.setCell ⟨g, i, none⟩ u).ownsRow b e sz v n xs :=
  h.kept (row := some g) ⟨rfl, rfl, rfl, by simp [World.setCell], fun k _ hk => Below.heap_setCell _ _ _ _ (fun e => hk (by simp [e]))⟩ (Or.inr hne)
end
theorem ext_push {w w1 w2 : World} {n size : Nat} {e : TypeId} {v : Value} {xs : List Value} (hx : Ext w w1) (hown : w1.ownsRow w.heap.size e size v n xs) (hg : w1.grownBy w2 v.ownBlock) : Ext w w2 := below_push hx hown hg hx.size
theorem own_baseK {w : World} {b b' n k : Nat} {e : TypeId} {v : Value} {xs : List Value} (h : w.ownsRow b e k v n xs) (hb : b' ≤ b) : w.ownsRow b' e k v n xs := by
  refine ⟨h.1, ?_⟩
  rcases h.2 with h2 | ⟨g, cap, cur, e1, e2, e3, e4⟩
  · exact .inl h2
  · exact .inr ⟨g, cap, cur, e1, by omega, e3, e4⟩
theorem own_freshB {w : World} {b n k : Nat} {e : TypeId} {v : Value} {xs : List Value} (h : w.ownsRow b e k v n xs) : ∀ g, v.ownBlock = some g → b ≤ g := fun g hg => (h.lt g hg).1
theorem own_setK {w : World} {B g n c o sz : Nat} {t : TypeId} {u : Value} {xs : List Value} (h : w.ownsRow B t sz (.slice (some ⟨g, 0, none⟩) n c) n xs) : (w.setCell ⟨g, o, none⟩ u).ownsRow B t sz (.slice (some ⟨g, 0, none⟩) n c) n (xs.set o u) := by
  have hl := h.1
  rcases h.2 with ⟨hv, _⟩ | ⟨g', cap, cur, hv, hB, hg, hn, hc, hs, ht⟩
  · cases hv
  · injection hv with e1 _ e3
    injection e1 with e1
    injection e1 with e1
    subst e1 e3
    refine ⟨by rw [List.length_set]; exact hl, .inr ⟨g, c, cur.setIfInBounds o u, rfl, hB, ?_, hn, hc, by simpa using hs, ?_⟩⟩
    · simp [World.setCell, Array.getElem?_modify, hg]
    · rw [Array.toList_setIfInBounds, List.take_set, ht]
theorem own_sliceK {w : World} {b n sz : Nat} {e : TypeId} {v : Value} {xs : List Value} (h : w.ownsRow b e sz v n xs) (hn : 0 < n) : ∃ (g c : Nat), v = .slice (some ⟨g, 0, none⟩) n c ∧ b ≤ g ∧ g < w.heap.size ∧ n ≤ c ∧ c ≤ 9223372036854775807 ∧ ∀ o, w.frozen? ⟨g, o, none⟩ = false := by
  rcases h.2 with ⟨_, h0⟩ | ⟨g, cap, cur, rfl, hB, hg, h1, h2, _⟩
  · omega
  · exact ⟨g, cap, rfl, hB, (Array.getElem?_eq_some_iff.1 hg).1, h1, h2, fun o => Lib.frozen_of_heap hg o⟩
theorem u8_lt {a b : UInt8} : a < b ↔ a.toNat < b.toNat := UInt8.lt_iff_toNat_lt
theorem less_cmp : ∀ a b : List UInt8, Op.bytesLess a b = decide (Lib.compareBytes a b < 0)
  | [], [] => rfl
  | _ :: _, [] => rfl
  | [], _ :: _ => rfl
  | a :: x, b :: y => by
    unfold Op.bytesLess Lib.compareBytes
    rw [less_cmp x y]
    by_cases h : a < b
    · simp [h]
    · by_cases h2 : b < a
      · have hne : ¬ a = b := by intro e; subst e; exact absurd h2 h
        simp [h, h2, hne]
      · have he : a = b := UInt8.toNat_inj.1 (by rw [u8_lt] at h h2; omega)
        subst he
        simp [h]
theorem cmp_refl : ∀ a : List UInt8, Lib.compareBytes a a = 0
  | [] => rfl
  | a :: x => by unfold Lib.compareBytes; rw [if_neg (by rw [u8_lt]; omega), if_neg (by rw [u8_lt]; omega), cmp_refl x]
theorem cmp_same (a : UInt8) (x y : List UInt8) : Lib.compareBytes (a :: x) (a :: y) = Lib.compareBytes x y := by
  rw [Lib.compareBytes, if_neg (by rw [u8_lt]; omega), if_neg (by rw [u8_lt]; omega)]
theorem cmp_lt {a b : UInt8} (h : a.toNat < b.toNat) (x y : List UInt8) : Lib.compareBytes (a :: x) (b :: y) = -1 := by unfold Lib.compareBytes; rw [if_pos (u8_lt.2 h)]
theorem cmp_gt {a b : UInt8} (h : b.toNat < a.toNat) (x y : List UInt8) : Lib.compareBytes (a :: x) (b :: y) = 1 := by unfold Lib.compareBytes; rw [if_neg (by rw [u8_lt]; omega), if_pos (u8_lt.2 h)]
theorem cmp_anti : ∀ a b : List UInt8, Lib.compareBytes a b = - Lib.compareBytes b a
  | [], [] => rfl
  | [], _ :: _ => rfl
  | _ :: _, [] => rfl
  | a :: x, b :: y => by
    have ih := cmp_anti x y
    by_cases h1 : a.toNat < b.toNat
    · rw [cmp_lt h1, cmp_gt h1]
    · by_cases h2 : b.toNat < a.toNat
      · rw [cmp_gt h2, cmp_lt h2]
        decide
      · obtain rfl : a = b := UInt8.toNat_inj.1 (by omega)
        rw [cmp_same, cmp_same]
        exact ih
theorem cmp_zero : ∀ {a b : List UInt8}, Lib.compareBytes a b = 0 → a = b
  | [], [], _ => rfl
  | [], _ :: _, h => by simp [Lib.compareBytes] at h
  | _ :: _, [], h => by simp [Lib.compareBytes] at h
  | a :: x, b :: y, h => by
    by_cases h1 : a.toNat < b.toNat
    · rw [cmp_lt h1] at h; cases h
    · by_cases h2 : b.toNat < a.toNat
      · rw [cmp_gt h2] at h; cases h
      · obtain rfl : a = b := UInt8.toNat_inj.1 (by omega)
        rw [cmp_same] at h
        rw [cmp_zero h]
theorem cmp_trans : ∀ {a b c : List UInt8}, Lib.compareBytes a b < 0 → Lib.compareBytes b c < 0 → Lib.compareBytes a c < 0
  | _, [], [], _, h => absurd h (by decide)
  | [], [], _ :: _, h, _ => absurd h (by decide)
  | _ :: _, [], _, h, _ => by simp [Lib.compareBytes] at h
  | _, _ :: _, [], _, h => by simp [Lib.compareBytes] at h
  | [], _ :: _, _ :: _, _, _ => by simp [Lib.compareBytes]
  | a :: x, b :: y, c :: z, h1, h2 => by
    by_cases q1 : a.toNat < b.toNat
    · by_cases q2 : c.toNat < b.toNat
      · rw [cmp_gt q2] at h2; exact absurd h2 (by decide)
      · rw [cmp_lt (by omega)]; decide
    · by_cases q3 : b.toNat < a.toNat
      · rw [cmp_gt q3] at h1; exact absurd h1 (by decide)
      · obtain rfl : a = b := UInt8.toNat_inj.1 (by omega)
        rw [cmp_same] at h1
        by_cases q2 : c.toNat < a.toNat
        · rw [cmp_gt q2] at h2; exact absurd h2 (by decide)
        · by_cases q4 : a.toNat < c.toNat
          · rw [cmp_lt q4]; decide
          · obtain rfl : a = c := UInt8.toNat_inj.1 (by omega)
            rw [cmp_same] at h2 ⊢
            exact cmp_trans h1 h2
theorem str_ext {a b : ByteArray} (h : a.data.toList = b.data.toList) : a = b := by
  obtain ⟨⟨a⟩⟩ := a
  obtain ⟨⟨b⟩⟩ := b
  simp at h
  rw [h]
structure Te where
  key : ByteArray
  no : Int
def cmpN (a b : Int) : Int := if a < b then -1 else if b < a then 1 else 0
def cmpK (a b : ByteArray) : Int := Lib.compareBytes a.data.toList b.data.toList
def cmpT (a b : Te) : Int := if cmpK a.key b.key = 0 then cmpN a.no b.no else cmpK a.key b.key
theorem cmpN_anti (a b : Int) : cmpN a b = - cmpN b a := by unfold cmpN; split <;> split <;> (try split) <;> omega
theorem cmpN_lt {a b : Int} : cmpN a b < 0 ↔ a < b := by unfold cmpN; split <;> (try split) <;> omega
theorem cmpN_zero {a b : Int} : cmpN a b = 0 ↔ a = b := by unfold cmpN; split <;> (try split) <;> omega
theorem cmpK_refl (a : ByteArray) : cmpK a a = 0 := cmp_refl _
theorem cmpK_zero {a b : ByteArray} : cmpK a b = 0 ↔ a = b := ⟨fun h => str_ext (cmp_zero h), fun h => h ▸ cmpK_refl a⟩
theorem cmpK_anti (a b : ByteArray) : cmpK a b = - cmpK b a := cmp_anti _ _
theorem cmpT_refl (a : Te) : cmpT a a = 0 := by unfold cmpT; rw [if_pos (cmpK_refl _)]; exact cmpN_zero.2 rfl
theorem cmpT_anti (a b : Te) : cmpT a b = - cmpT b a := by
  unfold cmpT
  rw [cmpK_anti a.key b.key, cmpN_anti a.no b.no]
  by_cases h : cmpK b.key a.key = 0
  · rw [if_pos h, if_pos (by omega)]
  · rw [if_neg h, if_neg (by omega)]
theorem cmpT_zero {a b : Te} : cmpT a b = 0 ↔ a = b := by
  constructor
  · intro h
    unfold cmpT at h
    by_cases q : cmpK a.key b.key = 0
    · rw [if_pos q] at h
      obtain ⟨k, r⟩ := a
      obtain ⟨k', r'⟩ := b
      have e1 : k = k' := cmpK_zero.1 q
      have e2 : r = r' := cmpN_zero.1 h
      rw [e1, e2]
    · rw [if_neg q] at h; exact absurd h q
  · rintro rfl; exact cmpT_refl a
theorem cmpT_trans {a b c : Te} (h1 : cmpT a b < 0) (h2 : cmpT b c < 0) : cmpT a c < 0 := by
  unfold cmpT at *
  by_cases q1 : cmpK a.key b.key = 0
  · rw [if_pos q1] at h1
    rw [cmpK_zero.1 q1]
    by_cases q2 : cmpK b.key c.key = 0
    · rw [if_pos q2] at h2 ⊢
      rw [cmpN_lt] at *
      omega
    · rw [if_neg q2] at h2 ⊢; exact h2
  · rw [if_neg q1] at h1
    by_cases q2 : cmpK b.key c.key = 0
    · rw [← cmpK_zero.1 q2, if_neg q1]; exact h1
    · rw [if_neg q2] at h2
      have h3 : cmpK a.key c.key < 0 := cmp_trans h1 h2
      rw [if_neg (by omega)]
      exact h3
def Srt (l : List Te) : Prop := l.Pairwise (fun a b => cmpT a b < 0)
theorem srt_app {a b : List Te} : Srt (a ++ b) ↔ Srt a ∧ Srt b ∧ ∀ x ∈ a, ∀ y ∈ b, cmpT x y < 0 := List.pairwise_append
theorem srt_cons {a : Te} {b : List Te} : Srt (a :: b) ↔ (∀ y ∈ b, cmpT a y < 0) ∧ Srt b := List.pairwise_cons
def insT : List Te → Te → List Te
  | [], e => [e]
  | x :: l, e => if cmpT x e < 0 then x :: insT l e else e :: x :: l
def delT : List Te → Te → List Te
  | [], _ => []
  | x :: l, e => if cmpT x e = 0 then l else x :: delT l e
def rankT (l : List Te) (e : Te) : Nat := l.countP (fun x => decide (cmpT x e < 0))
theorem insT_app {a b : List Te} {e : Te} (h : ∀ x ∈ a, cmpT x e < 0) : insT (a ++ b) e = a ++ insT b e := by
  induction a with
  | nil => rfl
  | cons x a ih =>
    rw [List.cons_append, insT, if_pos (h x (by simp)), ih (fun y hy => h y (List.mem_cons_of_mem _ hy))]
    rfl
theorem insT_app2 {a b : List Te} {e : Te} (h : ∀ x ∈ b, cmpT e x < 0) : insT (a ++ b) e = insT a e ++ b := by
  induction a with
  | nil =>
    cases b with
    | nil => rfl
    | cons y b =>
      have := h y (by simp)
      show insT (y :: b) e = e :: y :: b
      rw [insT, if_neg (by rw [cmpT_anti]; omega)]
  | cons x a ih =>
    rw [List.cons_append, insT, insT, ih]
    by_cases q : cmpT x e < 0
    · rw [if_pos q, if_pos q]; rfl
    · rw [if_neg q, if_neg q]; rfl
theorem delT_app {a b : List Te} {e : Te} (h : ∀ x ∈ a, cmpT x e ≠ 0) : delT (a ++ b) e = a ++ delT b e := by
  induction a with
  | nil => rfl
  | cons x a ih =>
    rw [List.cons_append, delT, if_neg (h x (by simp)), ih (fun y hy => h y (List.mem_cons_of_mem _ hy))]
    rfl
theorem delT_app2 {a b : List Te} {e : Te} (h : e ∈ a) : delT (a ++ b) e = delT a e ++ b := by
  induction a with
  | nil => cases h
  | cons x a ih =>
    rw [List.cons_append, delT, delT]
    by_cases q : cmpT x e = 0
    · rw [if_pos q, if_pos q]
    · rw [if_neg q, if_neg q, ih (by
        rcases List.mem_cons.1 h with rfl | h
        · exact absurd (cmpT_refl _) q
        · exact h)]
      rfl
theorem mem_ins {l : List Te} {e x : Te} : x ∈ insT l e ↔ x = e ∨ x ∈ l := by
  induction l with
  | nil => simp [insT]
  | cons y l ih =>
    unfold insT
    split
    · rw [List.mem_cons, ih, List.mem_cons]
      constructor
      · rintro (h | h | h)
        · exact .inr (.inl h)
        · exact .inl h
        · exact .inr (.inr h)
      · rintro (h | h | h)
        · exact .inr (.inl h)
        · exact .inl h
        · exact .inr (.inr h)
    · rw [List.mem_cons]
theorem srt_ins {l : List Te} {e : Te} (h : Srt l) (hn : e ∉ l) : Srt (insT l e) := by
  induction l with
  | nil => exact List.pairwise_singleton _ _
  | cons y l ih =>
    obtain ⟨h1, h2⟩ := srt_cons.1 h
    unfold insT
    by_cases q : cmpT y e < 0
    · rw [if_pos q]
      refine srt_cons.2 ⟨fun x hx => ?_, ih h2 (fun hm => hn (List.mem_cons_of_mem _ hm))⟩
      rcases mem_ins.1 hx with rfl | hx
      · exact q
      · exact h1 x hx
    · rw [if_neg q]
      have hne : cmpT y e ≠ 0 := fun e0 => hn (by rw [cmpT_zero.1 e0]; simp)
      have hey : cmpT e y < 0 := by rw [cmpT_anti]; omega
      refine srt_cons.2 ⟨fun x hx => ?_, h⟩
      rcases List.mem_cons.1 hx with rfl | hx
      · exact hey
      · exact cmpT_trans hey (h1 x hx)
theorem del_sub {l : List Te} {e x : Te} (h : x ∈ delT l e) : x ∈ l := by
  induction l with
  | nil => cases h
  | cons y l ih =>
    unfold delT at h
    split at h
    · exact List.mem_cons_of_mem _ h
    · rcases List.mem_cons.1 h with rfl | h
      · simp
      · exact List.mem_cons_of_mem _ (ih h)
theorem srt_del {l : List Te} {e : Te} (h : Srt l) : Srt (delT l e) := by
  induction l with
  | nil => exact List.Pairwise.nil
  | cons y l ih =>
    obtain ⟨h1, h2⟩ := srt_cons.1 h
    unfold delT
    split
    · exact h2
    · exact srt_cons.2 ⟨fun x hx => h1 x (del_sub hx), ih h2⟩
theorem len_ins (l : List Te) (e : Te) : (insT l e).length = l.length + 1 := by
  induction l with
  | nil => rfl
  | cons y l ih => unfold insT; split <;> simp [ih]
theorem len_del {l : List Te} {e : Te} (h : e ∈ l) : (delT l e).length + 1 = l.length := by
  induction l with
  | nil => cases h
  | cons y l ih =>
    unfold delT
    by_cases q : cmpT y e = 0
    · rw [if_pos q]; simp
    · rw [if_neg q]
      have := ih (by
        rcases List.mem_cons.1 h with rfl | h
        · exact absurd (cmpT_refl _) q
        · exact h)
      simp only [List.length_cons]
      omega
theorem rank_cut {l : List Te} (h : Srt l) (e : Te) : rankT l e ≤ l.length ∧ (∀ x ∈ l.take (rankT l e), cmpT x e < 0) ∧ (∀ x ∈ l.drop (rankT l e), ¬ cmpT x e < 0) := by
  induction l with
  | nil => exact ⟨Nat.le_refl _, fun x hx => (by cases hx), fun x hx => (by cases hx)⟩
  | cons y l ih =>
    obtain ⟨h1, h2⟩ := srt_cons.1 h
    obtain ⟨i1, i2, i3⟩ := ih h2
    by_cases q : cmpT y e < 0
    · have hr : rankT (y :: l) e = rankT l e + 1 := by unfold rankT; rw [List.countP_cons_of_pos (by simpa using q)]
      rw [hr]
      refine ⟨by simp; omega, fun x hx => ?_, fun x hx => i3 x (by simpa using hx)⟩
      rw [List.take_succ_cons] at hx
      rcases List.mem_cons.1 hx with rfl | hx
      · exact q
      · exact i2 x hx
    · have h0 : ∀ x ∈ l, ¬ cmpT x e < 0 := fun x hx hc => q (cmpT_trans (h1 x hx) hc)
      have hr : rankT (y :: l) e = 0 := by
        unfold rankT
        rw [List.countP_eq_zero]
        intro x hx
        rcases List.mem_cons.1 hx with rfl | hx
        · simpa using q
        · simpa using h0 x hx
      rw [hr]
      refine ⟨Nat.zero_le _, fun x hx => (by cases hx), fun x hx => ?_⟩
      rw [List.drop_zero] at hx
      rcases List.mem_cons.1 hx with rfl | hx
      · exact q
      · exact h0 x hx
theorem ins_cut {l : List Te} (h : Srt l) (e : Te) : insT l e = l.take (rankT l e) ++ e :: l.drop (rankT l e) := by
  obtain ⟨h1, h2, h3⟩ := rank_cut h e
  conv => lhs; rw [← List.take_append_drop (rankT l e) l]
  rw [insT_app h2]
  congr 1
  cases hd : l.drop (rankT l e) with
  | nil => rfl
  | cons y t =>
    rw [hd] at h3
    rw [insT, if_neg (h3 y (by simp))]
inductive BT where
  | nd (l : List Te) (ks : List BT) : BT
instance : Inhabited BT := ⟨.nd [] []⟩
def BT.l : BT → List Te | .nd l _ => l
def BT.ks : BT → List BT | .nd _ ks => ks
def tlW : List Te → List (List Te) → List Te
  | [], _ => []
  | x :: l, [] => x :: l
  | x :: l, m :: ms => x :: (m ++ tlW l ms)
def wvp : List Te → List (List Te) → List Te
  | x :: l, m :: ms => m ++ x :: wvp l ms
  | _, _ => []
def wv (l : List Te) : List (List Te) → List Te
  | [] => l
  | m :: ms => m ++ tlW l ms
def flat : Nat → BT → List Te
  | 0, .nd l _ => l
  | h + 1, .nd l ks => wv l (ks.map (flat h))
theorem wv_app : ∀ {l1 l2 : List Te} {m1 : List (List Te)} {m : List Te} {m2 : List (List Te)}, l1.length = m1.length → wv (l1 ++ l2) (m1 ++ m :: m2) = wvp l1 m1 ++ (m ++ tlW l2 m2)
  | [], l2, [], m, m2, _ => rfl
  | [], l2, _ :: _, m, m2, h => by cases h
  | _ :: _, l2, [], m, m2, h => by cases h
  | x :: l1, l2, n :: m1, m, m2, h => by
    have ih := wv_app (l1 := l1) (l2 := l2) (m1 := m1) (m := m) (m2 := m2) (by simpa using h)
    have e : wv (x :: l1 ++ l2) (n :: m1 ++ m :: m2) = n ++ x :: wv (l1 ++ l2) (m1 ++ m :: m2) := by
      cases m1 <;> rfl
    rw [e, ih, wvp]
    simp
theorem flat_cut {h : Nat} {l1 l2 : List Te} {k1 : List BT} {K : BT} {k2 : List BT} (hl : l1.length = k1.length) : flat (h + 1) (.nd (l1 ++ l2) (k1 ++ K :: k2)) = wvp l1 (k1.map (flat h)) ++ (flat h K ++ tlW l2 (k2.map (flat h))) := by
  rw [flat, List.map_append, List.map_cons]
  exact wv_app (by simpa using hl)
theorem wvp_lt {e : Te} : ∀ {l : List Te} {ms : List (List Te)}, Srt (wvp l ms) → (∀ y ∈ l, cmpT y e < 0) → ∀ x ∈ wvp l ms, cmpT x e < 0
  | [], _, _, _, x, hx => by cases hx
  | _ :: _, [], _, _, x, hx => by cases hx
  | y :: l, m :: ms, hs, hl, x, hx => by
    rw [wvp] at hs hx
    obtain ⟨s1, s2, s3⟩ := srt_app.1 hs
    have hy := hl y (by simp)
    rcases List.mem_append.1 hx with h | h
    · exact cmpT_trans (s3 x h y (by simp)) hy
    · rcases List.mem_cons.1 h with rfl | h
      · exact hy
      · exact wvp_lt (srt_cons.1 s2).2 (fun z hz => hl z (List.mem_cons_of_mem _ hz)) x h
theorem tlW_gt {e : Te} {l : List Te} {ms : List (List Te)} (hs : Srt (tlW l ms)) (hl : ∀ y ∈ l, cmpT e y < 0) : ∀ x ∈ tlW l ms, cmpT e x < 0 := by
  intro x hx
  cases l with
  | nil => cases hx
  | cons y l =>
    have hy := hl y (by simp)
    have hh : ∃ t, tlW (y :: l) ms = y :: t := by cases ms <;> exact ⟨_, rfl⟩
    obtain ⟨t, ht⟩ := hh
    rw [ht] at hs hx
    rcases List.mem_cons.1 hx with rfl | h
    · exact hy
    · exact cmpT_trans hy ((srt_cons.1 hs).1 x h)
theorem tlW_sub {l : List Te} {ms : List (List Te)} : ∀ {y : Te}, y ∈ l → y ∈ tlW l ms := by
  induction l generalizing ms with
  | nil => intro y h; cases h
  | cons z l ih =>
    intro y h
    cases ms with
    | nil => exact h
    | cons m ms =>
      rw [tlW]
      rcases List.mem_cons.1 h with rfl | h
      · simp
      · exact List.mem_cons_of_mem _ (List.mem_append_right _ (ih h))
def memT (l : List Te) (e : Te) : Bool := l.any (fun x => cmpT x e == 0)
theorem memT_iff {l : List Te} {e : Te} : memT l e = true ↔ e ∈ l := by
  unfold memT
  rw [List.any_eq_true]
  constructor
  · rintro ⟨x, hx, h⟩
    rw [beq_iff_eq, cmpT_zero] at h
    exact h ▸ hx
  · intro h
    exact ⟨e, h, by rw [beq_iff_eq]; exact cmpT_refl e⟩
theorem memT_app (a b : List Te) (e : Te) : memT (a ++ b) e = (memT a e || memT b e) := List.any_append
theorem memT_lt {l : List Te} {e : Te} (h : ∀ x ∈ l, cmpT x e < 0) : memT l e = false := by
  cases q : memT l e with
  | false => rfl
  | true => have := h e (memT_iff.1 q); rw [cmpT_refl] at this; exact absurd this (by decide)
theorem memT_gt {l : List Te} {e : Te} (h : ∀ x ∈ l, cmpT e x < 0) : memT l e = false := by
  cases q : memT l e with
  | false => rfl
  | true => have := h e (memT_iff.1 q); rw [cmpT_refl] at this; exact absurd this (by decide)
theorem memT_false {l : List Te} {e : Te} : memT l e = false ↔ e ∉ l := by
  rw [← memT_iff]; simp
theorem list_cut {α : Type} {l : List α} {i : Nat} (hi : i < l.length) : l = l.take i ++ l[i] :: l.drop (i + 1) := by
  conv => lhs; rw [← List.take_append_drop i l]
  rw [List.drop_eq_getElem_cons hi]
def Shp : Nat → BT → Prop
  | 0, .nd _ ks => ks = []
  | h + 1, .nd l ks => ks.length = l.length + 1 ∧ ∀ k ∈ ks, 2 ≤ k.l.length ∧ k.l.length ≤ 4 ∧ Shp h k
theorem node_cut {h : Nat} {l : List Te} {ks : List BT} (hs : Shp (h + 1) (.nd l ks)) {i : Nat} (hi : i ≤ l.length) : ∃ K, ks[i]? = some K ∧ ks = ks.take i ++ K :: ks.drop (i + 1) ∧ (ks.take i).length = i ∧ (l.take i).length = i ∧ (ks.drop (i + 1)).length = (l.drop i).length := by
  have hk : i < ks.length := by rw [hs.1]; omega
  refine ⟨ks[i], List.getElem?_eq_getElem hk, list_cut hk, by rw [List.length_take]; omega, by rw [List.length_take]; omega, ?_⟩
  rw [List.length_drop, List.length_drop, hs.1]
  omega
theorem node_lt {h : Nat} {l : List Te} {ks : List BT} (hs : Shp (h + 1) (.nd l ks)) (hS : Srt (flat (h + 1) (.nd l ks))) (e : Te) : Srt l ∧ ∃ K, ks[rankT l e]? = some K ∧
    flat (h + 1) (.nd l ks) = wvp (l.take (rankT l e)) ((ks.take (rankT l e)).map (flat h)) ++ (flat h K ++ tlW (l.drop (rankT l e)) ((ks.drop (rankT l e + 1)).map (flat h))) ∧
    (∀ x ∈ wvp (l.take (rankT l e)) ((ks.take (rankT l e)).map (flat h)), cmpT x e < 0) ∧ (e ∉ l → ∀ x ∈ tlW (l.drop (rankT l e)) ((ks.drop (rankT l e + 1)).map (flat h)), cmpT e x < 0) ∧ Srt (flat h K) := by
  have hl : Srt l := by
    -- every entry of the node stands among all of them, in its order
    have key : ∀ (l : List Te) (ms : List (List Te)), Srt (tlW l ms) → Srt l := by
      intro l
      induction l with
      | nil => intro ms _; exact List.Pairwise.nil
      | cons y l ih =>
        intro ms h
        cases ms with
        | nil => exact h
        | cons m ms =>
          rw [tlW] at h
          obtain ⟨h1, h2⟩ := srt_cons.1 h
          obtain ⟨_, h3, _⟩ := srt_app.1 h2
          exact srt_cons.2 ⟨fun x hx => h1 x (List.mem_append_right _ (tlW_sub hx)), ih ms h3⟩
    obtain ⟨K, _, hk, _⟩ := node_cut hs (Nat.zero_le _)
    have := flat_cut (h := h) (l1 := []) (l2 := l) (k1 := []) (K := K) (k2 := ks.drop 1) rfl
    rw [show ks = [] ++ K :: ks.drop 1 from hk] at hS
    rw [show l = [] ++ l from rfl, this] at hS
    exact key l _ (srt_app.1 (srt_app.1 hS).2.1).2.1
  obtain ⟨r1, r2, r3⟩ := rank_cut hl e
  obtain ⟨K, hK, hk, h1, h2, h3⟩ := node_cut hs r1
  have hf := flat_cut (h := h) (l1 := l.take (rankT l e)) (l2 := l.drop (rankT l e)) (k1 := ks.take (rankT l e)) (K := K) (k2 := ks.drop (rankT l e + 1)) (by rw [h1, h2])
  rw [List.take_append_drop, ← hk] at hf
  rw [hf] at hS
  obtain ⟨s1, s2, s3⟩ := srt_app.1 hS
  obtain ⟨s4, s5, s6⟩ := srt_app.1 s2
  refine ⟨hl, K, hK, hf, wvp_lt s1 r2, fun hne => tlW_gt s5 (fun y hy => ?_), s4⟩
  have h4 := r3 y hy
  have h5 : cmpT y e ≠ 0 := fun e0 => hne (by rw [← cmpT_zero.1 e0]; exact List.mem_of_mem_drop hy)
  rw [cmpT_anti]
  omega
theorem mem_node {h : Nat} {l : List Te} {ks : List BT} (hs : Shp (h + 1) (.nd l ks)) (hS : Srt (flat (h + 1) (.nd l ks))) (e : Te) : ∃ K, ks[rankT l e]? = some K ∧ memT (flat (h + 1) (.nd l ks)) e = (memT l e || memT (flat h K) e) := by
  obtain ⟨hl, K, hK, hf, hA, hB, _⟩ := node_lt hs hS e
  refine ⟨K, hK, ?_⟩
  rw [hf, memT_app, memT_app, memT_lt hA, Bool.false_or]
  by_cases q : e ∈ l
  · rw [memT_iff.2 q, Bool.true_or]
    obtain ⟨r1, r2, r3⟩ := rank_cut hl e
    have hd : e ∈ l.drop (rankT l e) := by
      have h0 : e ∈ l.take (rankT l e) ++ l.drop (rankT l e) := by rw [List.take_append_drop]; exact q
      rcases List.mem_append.1 h0 with h1 | h1
      · have := r2 e h1; rw [cmpT_refl] at this; exact absurd this (by decide)
      · exact h1
    rw [memT_iff.2 (tlW_sub hd), Bool.or_true]
  · rw [memT_gt (hB q), memT_false.2 q, Bool.or_false, Bool.false_or]
def splitT (l : List Te) (ks : List BT) (i : Nat) (K : BT) : BT :=
  .nd (l.take i ++ K.l.getD (K.l.length / 2) ⟨⟨#[]⟩, 0⟩ :: l.drop i)
    (ks.take i ++ .nd (K.l.take (K.l.length / 2)) (K.ks.take (K.l.length / 2 + 1)) :: .nd (K.l.drop (K.l.length / 2 + 1)) (K.ks.drop (K.l.length / 2 + 1)) :: ks.drop (i + 1))
def putT : Nat → BT → Te → BT
  | 0, .nd l ks, e => .nd (insT l e) ks
  | h + 1, .nd l ks, e => if 4 < (putT h (ks.getD (rankT l e) default) e).l.length then splitT l ks (rankT l e) (putT h (ks.getD (rankT l e) default) e) else .nd l (ks.set (rankT l e) (putT h (ks.getD (rankT l e) default) e))
theorem flat_halves {h : Nat} {K : BT} (hs : Shp h K) {m : Nat} (hm : m < K.l.length) : flat h K = flat h (.nd (K.l.take m) (K.ks.take (m + 1))) ++ K.l.getD m ⟨⟨#[]⟩, 0⟩ :: flat h (.nd (K.l.drop (m + 1)) (K.ks.drop (m + 1))) ∧ Shp h (.nd (K.l.take m) (K.ks.take (m + 1))) ∧ Shp h (.nd (K.l.drop (m + 1)) (K.ks.drop (m + 1))) := by
  obtain ⟨l, ks⟩ := K
  have hm' : m < l.length := hm
  have hg : l.getD m ⟨⟨#[]⟩, 0⟩ = l[m] := by simp [List.getD, hm']
  show flat h (.nd l ks) = flat h (.nd (l.take m) (ks.take (m + 1))) ++ l.getD m ⟨⟨#[]⟩, 0⟩ :: flat h (.nd (l.drop (m + 1)) (ks.drop (m + 1))) ∧ _
  rw [hg]
  cases h with
  | zero =>
    have hk : ks = [] := hs
    subst hk
    exact ⟨list_cut hm', rfl, rfl⟩
  | succ h =>
    have hk : ks.length = l.length + 1 := hs.1
    obtain ⟨K1, e1, c1, d1, d2, _⟩ := node_cut hs (i := m) (by omega)
    obtain ⟨K2, e2, c2, d3, d4, d5⟩ := node_cut hs (i := m + 1) (by omega)
    have t1 : ks.take (m + 1) = ks.take m ++ K1 :: [] := by
      rw [List.take_add_one, e1]
      rfl
    have t2 : ks.drop (m + 1) = K2 :: ks.drop (m + 1 + 1) := by
      have hlt : m + 1 < ks.length := by omega
      rw [List.drop_eq_getElem_cons hlt]
      rw [List.getElem?_eq_getElem hlt] at e2
      rw [Option.some.inj e2]
    refine ⟨?_, ⟨?_, fun k hk2 => hs.2 k (List.mem_of_mem_take hk2)⟩, ⟨?_, fun k hk2 => hs.2 k (List.mem_of_mem_drop hk2)⟩⟩
    · have f1 := flat_cut (h := h) (l1 := l.take (m + 1)) (l2 := l.drop (m + 1)) (k1 := ks.take (m + 1)) (K := K2) (k2 := ks.drop (m + 1 + 1)) (by rw [d3, d4])
      rw [List.take_append_drop, ← c2] at f1
      have f2 := flat_cut (h := h) (l1 := l.take m) (l2 := []) (k1 := ks.take m) (K := K1) (k2 := []) (by rw [d1, d2])
      have f3 := flat_cut (h := h) (l1 := []) (l2 := l.drop (m + 1)) (k1 := []) (K := K2) (k2 := ks.drop (m + 1 + 1)) rfl
      rw [List.append_nil] at f2
      rw [← t1] at f2
      rw [List.nil_append, List.nil_append, ← t2] at f3
      rw [f1, f2, f3]
      have wv1 : ∀ {l1 : List Te} {m1 : List (List Te)} {x : Te} {m : List Te}, l1.length = m1.length → wvp (l1 ++ [x]) (m1 ++ [m]) = wvp l1 m1 ++ (m ++ [x]) := by
        intro l1
        induction l1 with
        | nil => intro m1 x m hl; cases m1 with
          | nil => rfl
          | cons _ _ => cases hl
        | cons y l1 ih => intro m1 x m hl; cases m1 with
          | nil => cases hl
          | cons n m1 =>
            rw [List.cons_append, List.cons_append, wvp, wvp, ih (by simpa using hl)]
            simp
      rw [List.take_succ_eq_append_getElem hm', t1, List.map_append, List.map_cons, List.map_nil, wv1 (by rw [List.length_map, d1, d2])]
      simp [tlW, wvp]
    · show (ks.take (m + 1)).length = (l.take m).length + 1
      rw [List.length_take, List.length_take]; omega
    · show (ks.drop (m + 1)).length = (l.drop (m + 1)).length + 1
      rw [List.length_drop, List.length_drop]; omega
theorem splitT_ok {h : Nat} {l : List Te} {ks : List BT} {i : Nat} {K : BT} (hs : Shp (h + 1) (.nd l ks)) (hi : i ≤ l.length) (hK : Shp h K) (h5 : K.l.length = 5) : Shp (h + 1) (splitT l ks i K) ∧ flat (h + 1) (splitT l ks i K) = wvp (l.take i) ((ks.take i).map (flat h)) ++ (flat h K ++ tlW (l.drop i) ((ks.drop (i + 1)).map (flat h))) := by
  obtain ⟨_, _, c1, d1, d2, d3⟩ := node_cut hs hi
  obtain ⟨f1, s1, s2⟩ := flat_halves hK (m := K.l.length / 2) (by omega)
  have hk := hs.1
  unfold splitT
  refine ⟨⟨?_, fun k hk2 => ?_⟩, ?_⟩
  · simp only [List.length_append, List.length_cons, List.length_drop, List.length_take]
    omega
  · rcases List.mem_append.1 hk2 with h1 | h1
    · exact hs.2 k (List.mem_of_mem_take h1)
    · rcases List.mem_cons.1 h1 with rfl | h1
      · refine ⟨?_, ?_, s1⟩
        · show 2 ≤ (K.l.take (K.l.length / 2)).length
          rw [List.length_take]; omega
        · show (K.l.take (K.l.length / 2)).length ≤ 4
          rw [List.length_take]; omega
      · rcases List.mem_cons.1 h1 with rfl | h1
        · refine ⟨?_, ?_, s2⟩
          · show 2 ≤ (K.l.drop (K.l.length / 2 + 1)).length
            rw [List.length_drop]; omega
          · show (K.l.drop (K.l.length / 2 + 1)).length ≤ 4
            rw [List.length_drop]; omega
        · exact hs.2 k (List.mem_of_mem_drop h1)
  · rw [flat_cut (by rw [d1, d2]), f1]
    have e : ∀ (x : Te) (l : List Te) (m : List Te) (ms : List (List Te)), tlW (x :: l) (m :: ms) = x :: (m ++ tlW l ms) := fun _ _ _ _ => rfl
    rw [List.map_cons, e]
    simp
theorem putT_ok : ∀ (h : Nat) (T : BT) (e : Te), Shp h T → Srt (flat h T) → e ∉ flat h T → Shp h (putT h T e) ∧ flat h (putT h T e) = insT (flat h T) e ∧ T.l.length ≤ (putT h T e).l.length ∧ (putT h T e).l.length ≤ T.l.length + 1
  | 0, .nd l ks, e, hs, hS, hn => ⟨hs, rfl, by show l.length ≤ (insT l e).length; rw [len_ins]; omega, by show (insT l e).length ≤ l.length + 1; rw [len_ins]; omega⟩
  | h + 1, .nd l ks, e, hs, hS, hn => by
    obtain ⟨hl, K, hK, hf, hA, hB, hSK⟩ := node_lt hs hS e
    obtain ⟨r1, _, _⟩ := rank_cut hl e
    have hel : e ∉ l := fun hm => hn (by
      obtain ⟨K0, _, hk0, _⟩ := node_cut hs (Nat.zero_le _)
      have := flat_cut (h := h) (l1 := []) (l2 := l) (k1 := []) (K := K0) (k2 := ks.drop 1) rfl
      rw [List.nil_append, List.nil_append] at this
      rw [show ks = K0 :: ks.drop 1 from hk0, this]
      exact List.mem_append_right _ (List.mem_append_right _ (tlW_sub hm)))
    have hgK : ks.getD (rankT l e) default = K := by simp [List.getD, hK]
    have hmK : K ∈ ks := List.mem_of_getElem? hK
    obtain ⟨k1, k2, k3⟩ := hs.2 K hmK
    have hnK : e ∉ flat h K := fun hm => hn (by rw [hf]; exact List.mem_append_right _ (List.mem_append_left _ hm))
    obtain ⟨p1, p2, p3, p4⟩ := putT_ok h K e k3 hSK hnK
    obtain ⟨_, _, c1, d1, d2, d3⟩ := node_cut hs r1
    have hins : insT (flat (h + 1) (.nd l ks)) e = wvp (l.take (rankT l e)) ((ks.take (rankT l e)).map (flat h)) ++ (insT (flat h K) e ++ tlW (l.drop (rankT l e)) ((ks.drop (rankT l e + 1)).map (flat h))) := by
      rw [hf, insT_app hA, insT_app2 (hB hel)]
    unfold putT
    rw [hgK, hins]
    by_cases q : 4 < (putT h K e).l.length
    · rw [if_pos q]
      obtain ⟨s1, s2⟩ := splitT_ok hs r1 p1 (by omega)
      refine ⟨s1, by rw [s2, p2], ?_, ?_⟩ <;> show _ ≤ _ <;> simp only [splitT, BT.l, List.length_append, List.length_cons, List.length_take, List.length_drop] <;> omega
    · rw [if_neg q]
      have hset : ks.set (rankT l e) (putT h K e) = ks.take (rankT l e) ++ putT h K e :: ks.drop (rankT l e + 1) := by
        rw [List.set_eq_take_append_cons_drop, if_pos (by have := hs.1; omega)]
      refine ⟨⟨by rw [List.length_set]; exact hs.1, fun k hk => ?_⟩, ?_, Nat.le_refl _, Nat.le_succ _⟩
      · rw [hset] at hk
        rcases List.mem_append.1 hk with h1 | h1
        · exact hs.2 k (List.mem_of_mem_take h1)
        · rcases List.mem_cons.1 h1 with rfl | h1
          · exact ⟨by omega, by omega, p1⟩
          · exact hs.2 k (List.mem_of_mem_drop h1)
      · rw [hset]
        have := flat_cut (h := h) (l1 := l.take (rankT l e)) (l2 := l.drop (rankT l e)) (k1 := ks.take (rankT l e)) (K := putT h K e) (k2 := ks.drop (rankT l e + 1)) (by rw [d1, d2])
        rw [List.take_append_drop] at this
        rw [this, p2]
open Go.RowKit Go.Shelf
theorem isNaN_any (a : Int) (w : World) : Calls Tryz.prog 97 #[.int .i64 a] w fun e w' => e = .returned (.bool false) ∧ w = w' := by
  have h : (a != a) = false := by simp
  go_enter Tryz.func97, Tryz.ntmps97
  go_wp2
  go_ret
  exact ⟨rfl, rfl⟩
theorem cmpCompare_any (a b : Int) (w : World) : Calls Tryz.prog 76 #[.int .i64 a, .int .i64 b] w fun e w' => e = .returned (.int .i64 (cmpN a b)) ∧ w = w' := by
  by_cases h1 : a < b
  · have d1 : decide (a < b) = true := by simpa using h1
    have Fin : Hid (cmpN a b = -1) := by unfold Hid cmpN; rw [if_pos h1]
    clear h1
    go_enter Tryz.func76, Tryz.ntmps76
    go_wp2_with fail
    refine (isNaN_any _ _).mono ?_
    rintro e w' ⟨rfl, rfl⟩
    go_wp2_with fail
    refine (isNaN_any _ _).mono ?_
    rintro e w' ⟨rfl, rfl⟩
    go_wp2
    go_ret
    exact ⟨ret_int Fin.out.symm, rfl⟩
  · have d1 : decide (a < b) = false := by simpa using h1
    by_cases h2 : b < a
    · have d2 : decide (b < a) = true := by simpa using h2
      have Fin : Hid (cmpN a b = 1) := by unfold Hid cmpN; rw [if_neg h1, if_pos h2]
      clear h1 h2
      go_enter Tryz.func76, Tryz.ntmps76
      go_wp2_with fail
      refine (isNaN_any _ _).mono ?_
      rintro e w' ⟨rfl, rfl⟩
      go_wp2_with fail
      refine (isNaN_any _ _).mono ?_
      rintro e w' ⟨rfl, rfl⟩
      go_wp2
      go_ret
      exact ⟨ret_int Fin.out.symm, rfl⟩
    · have d2 : decide (b < a) = false := by simpa using h2
      have Fin : Hid (cmpN a b = 0) := by unfold Hid cmpN; rw [if_neg h1, if_neg h2]
      clear h1 h2
      go_enter Tryz.func76, Tryz.ntmps76
      go_wp2_with fail
      refine (isNaN_any _ _).mono ?_
      rintro e w' ⟨rfl, rfl⟩
      go_wp2_with fail
      refine (isNaN_any _ _).mono ?_
      rintro e w' ⟨rfl, rfl⟩
      go_wp2
      go_ret
      exact ⟨ret_int Fin.out.symm, rfl⟩
theorem cmpStr_any (a b : ByteArray) (w : World) :
    Calls Tryz.prog 96 #[.string a, .string b] w fun e w' => e = .returned (.int .i64 (cmpK a b)) ∧ w = w' := by
  go_enter Tryz.func96, Tryz.ntmps96
  go_wp2
  rw [run_callFunc_extern Tryz.func110 (by kernel_rfl) (by kernel_rfl) (by kernel_rfl) (e := Extern.BytealgCompare.compare) (by kernel_rfl), Lib.run_compareString]
  simp only [Result.andThen]
  rw [Oper.upon_value]
  go_wp2
  go_ret
  exact ⟨rfl, rfl⟩
theorem sCompare_any (a b : ByteArray) (w : World) :
    Calls Tryz.prog 75 #[.string a, .string b] w fun e w' => e = .returned (.int .i64 (cmpK a b)) ∧ w = w' := by
  go_enter Tryz.func75, Tryz.ntmps75
  go_wp2_with (go_at_call 96; refine (cmpStr_any _ _ _).mono ?_; rintro e w' ⟨rfl, rfl⟩)
  go_ret
  exact ⟨rfl, rfl⟩
theorem cmpOr_any (x y z : Int) (q : Nat) (w : World) (h0 : w.cell? ⟨q, 0, none⟩ = some (.int .i64 x)) (h1 : w.cell? ⟨q, 1, none⟩ = some (.int .i64 y)) (hz : Hid (z = if x = 0 then y else x)) : Calls Tryz.prog 74 #[.slice (some ⟨q, 0, none⟩) 2 2] w fun e w' => e = .returned (.int .i64 z) ∧ w = w' := by
  have lq := World.block_lt_of_cell? w _ h0
  dsimp only at lq
  go_enter Tryz.func74, Tryz.ntmps74
  go_wp2
  go_loopw [8] (fun i wr => ∃ k : Nat, k ≤ 2 ∧ i = .int .i64 k ∧ w = wr ∧ Hid (0 < k → x = 0) ∧ Hid (1 < k → y = 0)) (fun i _ => 2 - (intOf i).toNat)
  case atStart => exact ⟨0, by omega, rfl, rfl, fun h => by omega, fun h => by omega⟩
  case round =>
    obtain ⟨k, hk, rfl, rfl, hx, hy⟩ := hrel
    rcases (by omega : k = 0 ∨ k = 1 ∨ k = 2) with rfl | rfl | rfl
    · by_cases e0 : x = 0
      · subst e0
        have hx2 : Hid (0 < 1 → (0 : Int) = 0) := fun _ => rfl
        have hy2 : Hid (1 < 1 → y = 0) := fun h => by omega
        clear hx hy
        go_wp2
        go_roundw
        case rel => exact ⟨1, by omega, by go_num, by simp, by unfold Hid; simp, hy2⟩
        case measure => simp [intOf]
      · have d0 : (x != 0) = true := by simpa using e0
        have Fin : Hid (z = x) := hz.out.trans (if_neg e0)
        clear e0 hx hy hz
        go_wp2
        go_ret
        exact ⟨ret_int Fin.out.symm, rfl⟩
    · obtain rfl := hx.out (by omega)
      by_cases e0 : y = 0
      · subst e0
        have hx2 : Hid (0 < 2 → (0 : Int) = 0) := fun _ => rfl
        clear hx hy
        go_wp2
        go_roundw
        case rel => exact ⟨2, by omega, by go_num, by simp, by unfold Hid; simp, by unfold Hid; simp⟩
        case measure => simp [intOf]
      · have d0 : (y != 0) = true := by simpa using e0
        have Fin : Hid (z = y) := hz.out.trans (if_pos rfl)
        clear e0 hx hy hz
        go_wp2
        go_ret
        exact ⟨ret_int Fin.out.symm, rfl⟩
    · obtain rfl := hx.out (by omega)
      obtain rfl := hy.out (by omega)
      have Fin : Hid (z = 0) := hz.out.trans (if_pos rfl)
      clear hx hy hz
      go_wp2
      go_ret
      exact ⟨ret_int Fin.out.symm, rfl⟩
theorem compare_any (a b : Te) (w : World) : Calls Tryz.prog 59 #[.agg #[.string a.key, .int .i64 a.no], .agg #[.string b.key, .int .i64 b.no]] w (Give (.int .i64 (cmpT a b)) w) := by
  have ha := heap_alloc_new w (.cells #[.string a.key, .int .i64 a.no] 83)
  have hxa := (Ext.refl w).alloc_right (.cells #[.string a.key, .int .i64 a.no] 83)
  have z0 : (w.alloc (.cells #[.string a.key, .int .i64 a.no] 83)).cell? ⟨w.heap.size, 0, none⟩ = some (.string a.key) := by rw [Lib.cell_of_heap ha]; rfl
  have z1 : (w.alloc (.cells #[.string a.key, .int .i64 a.no] 83)).cell? ⟨w.heap.size, 1, none⟩ = some (.int .i64 a.no) := by rw [Lib.cell_of_heap ha]; rfl
  have hb := heap_alloc_new (w.alloc (.cells #[.string a.key, .int .i64 a.no] 83)) (.cells #[.string b.key, .int .i64 b.no] 83)
  have hxb := (Ext.refl (w.alloc (.cells #[.string a.key, .int .i64 a.no] 83))).alloc_right (.cells #[.string b.key, .int .i64 b.no] 83)
  have z2 : ((w.alloc (.cells #[.string a.key, .int .i64 a.no] 83)).alloc (.cells #[.string b.key, .int .i64 b.no] 83)).cell? ⟨(w.alloc (.cells #[.string a.key, .int .i64 a.no] 83)).heap.size, 0, none⟩ = some (.string b.key) := by rw [Lib.cell_of_heap hb]; rfl
  have z3 : ((w.alloc (.cells #[.string a.key, .int .i64 a.no] 83)).alloc (.cells #[.string b.key, .int .i64 b.no] 83)).cell? ⟨(w.alloc (.cells #[.string a.key, .int .i64 a.no] 83)).heap.size, 1, none⟩ = some (.int .i64 b.no) := by rw [Lib.cell_of_heap hb]; rfl
  replace z0 := hxb.cell z0
  replace z1 := hxb.cell z1
  have hx1 := hid (hxa.trans hxb)
  rw [World.size_alloc] at z2 z3
  have hc : Hid (cmpT a b = if cmpK a.key b.key = 0 then cmpN a.no b.no else cmpK a.key b.key) := rfl
  generalize cmpT a b = Z at *
  clear ha hb hxa hxb
  go_enter Tryz.func59, Tryz.ntmps59
  go_upto_region 1 with fail
  generalize w.heap.size + 1 = q at *
  generalize w.heap.size = p at *
  have I0 : (fun w' : World => w'.cell? ⟨p, 0, none⟩ = some (.string a.key) ∧ w'.cell? ⟨p, 1, none⟩ = some (.int .i64 a.no) ∧ w'.cell? ⟨q, 0, none⟩ = some (.string b.key) ∧ w'.cell? ⟨q, 1, none⟩ = some (.int .i64 b.no)) ((w.alloc (.cells #[.string a.key, .int .i64 a.no] 83)).alloc (.cells #[.string b.key, .int .i64 b.no] 83)).drew := ⟨z0, z1, z2, z3⟩
  replace hx1 := hid (hx1.out.drew_right)
  refine region_J (fun w' : World => w'.cell? ⟨p, 0, none⟩ = some (.string a.key) ∧ w'.cell? ⟨p, 1, none⟩ = some (.int .i64 a.no) ∧ w'.cell? ⟨q, 0, none⟩ = some (.string b.key) ∧ w'.cell? ⟨q, 1, none⟩ = some (.int .i64 b.no)) 13 (by kernel_rfl) ?_
  clear z0 z1 z2 z3
  generalize ((w.alloc (.cells #[.string a.key, .int .i64 a.no] 83)).alloc (.cells #[.string b.key, .int .i64 b.no] 83)).drew = w2 at *
  refine JO 0 (v := ?vc0) I0 ?yc0 ?rc0
  case yc0 => (intro w h; obtain ⟨_, _, _, _⟩ := h; go_simp; with_reducible rfl)
  simp only [Act.put, lyA, lyB, lyC, lyD, lyE, lyF]
  refine JO 1 (v := ?vc1) I0 ?yc1 ?rc1
  case yc1 => (intro w h; obtain ⟨_, _, _, _⟩ := h; go_simp; with_reducible rfl)
  simp only [Act.put, lyA, lyB, lyC, lyD, lyE, lyF]
  refine JO 2 (v := ?vc2) I0 ?yc2 ?rc2
  case yc2 => (intro w h; obtain ⟨_, _, _, _⟩ := h; go_simp; with_reducible rfl)
  simp only [Act.put, lyA, lyB, lyC, lyD, lyE, lyF]
  refine JO 3 (v := ?vc3) I0 ?yc3 ?rc3
  case yc3 => (intro w h; obtain ⟨_, _, _, _⟩ := h; go_simp; with_reducible rfl)
  simp only [Act.put, lyA, lyB, lyC, lyD, lyE, lyF]
  refine JO 5 (v := ?vc5) I0 ?yc5 ?rc5
  case yc5 => (intro w h; obtain ⟨_, _, _, _⟩ := h; go_simp; with_reducible rfl)
  simp only [Act.put, lyA, lyB, lyC, lyD, lyE, lyF]
  refine JO 6 (v := ?vc6) I0 ?yc6 ?rc6
  case yc6 => (intro w h; obtain ⟨_, _, _, _⟩ := h; go_simp; with_reducible rfl)
  simp only [Act.put, lyA, lyB, lyC, lyD, lyE, lyF]
  refine JO 7 (v := ?vc7) I0 ?yc7 ?rc7
  case yc7 => (intro w h; obtain ⟨_, _, _, _⟩ := h; go_simp; with_reducible rfl)
  simp only [Act.put, lyA, lyB, lyC, lyD, lyE, lyF]
  refine JO 8 (v := ?vc8) I0 ?yc8 ?rc8
  case yc8 => (intro w h; obtain ⟨_, _, _, _⟩ := h; go_simp; with_reducible rfl)
  simp only [Act.put, lyA, lyB, lyC, lyD, lyE, lyF]
  refine J_one 4 rfl (by kernel_rfl) (fun K hK => ?_)
  go_simp
  refine (sCompare_any _ _ _).mono ?_
  rintro e w' ⟨rfl, rfl⟩
  refine hK _ _ ⟨fun _ => I0, ?_⟩
  clear hK K
  try simp only [Act.put, lyA, lyB, lyC, lyD, lyE, lyF]
  refine J_one 9 rfl (by kernel_rfl) (fun K hK => ?_)
  go_simp
  refine (cmpCompare_any _ _ _).mono ?_
  rintro e w' ⟨rfl, rfl⟩
  refine hK _ _ ⟨fun _ => I0, ?_⟩
  clear hK K
  try simp only [Act.put, lyA, lyB, lyC, lyD, lyE, lyF]
  refine J_one 10 rfl (by kernel_rfl) (fun K hK => ?_)
  go_simp
  have I1 : (fun w' : World => w'.cell? ⟨p, 0, none⟩ = some (.string a.key) ∧ w'.cell? ⟨p, 1, none⟩ = some (.int .i64 a.no) ∧ w'.cell? ⟨q, 0, none⟩ = some (.string b.key) ∧ w'.cell? ⟨q, 1, none⟩ = some (.int .i64 b.no)) (w2.alloc (.cells #[.int .i64 (cmpK a.key b.key), .int .i64 (cmpN a.no b.no)] 3)) := ⟨((Ext.refl w2).alloc_right _).cell I0.1, ((Ext.refl w2).alloc_right _).cell I0.2.1, ((Ext.refl w2).alloc_right _).cell I0.2.2.1, ((Ext.refl w2).alloc_right _).cell I0.2.2.2⟩
  have hx2 := hid (hx1.out.alloc_right (.cells #[.int .i64 (cmpK a.key b.key), .int .i64 (cmpN a.no b.no)] 3))
  have y0 : (w2.alloc (.cells #[.int .i64 (cmpK a.key b.key), .int .i64 (cmpN a.no b.no)] 3)).cell? ⟨w2.heap.size, 0, none⟩ = some (.int .i64 (cmpK a.key b.key)) := by rw [Lib.cell_of_heap (heap_alloc_new w2 _)]; rfl
  have y1 : (w2.alloc (.cells #[.int .i64 (cmpK a.key b.key), .int .i64 (cmpN a.no b.no)] 3)).cell? ⟨w2.heap.size, 1, none⟩ = some (.int .i64 (cmpN a.no b.no)) := by rw [Lib.cell_of_heap (heap_alloc_new w2 _)]; rfl
  generalize w2.heap.size = r at *
  generalize w2.alloc (.cells #[.int .i64 (cmpK a.key b.key), .int .i64 (cmpN a.no b.no)] 3) = w3 at *
  refine hK _ _ ⟨fun _ => I1, ?_⟩
  clear hK K
  try simp only [Act.put, lyA, lyB, lyC, lyD, lyE, lyF]
  refine J_one 11 rfl (by kernel_rfl) (fun K hK => ?_)
  go_simp
  refine (cmpOr_any _ _ _ _ _ y0 y1 hc).mono ?_
  rintro e w' ⟨rfl, rfl⟩
  refine hK _ _ ⟨fun _ => I1, ?_⟩
  clear hK K
  try simp only [Act.put, lyA, lyB, lyC, lyD, lyE, lyF]
  refine J_one 12 rfl (by kernel_rfl) (fun K hK => ?_)
  go_simp
  refine hK _ _ ⟨fun _ => I1, ?_⟩
  clear hK K
  try simp only [Act.put, lyD, lyE, lyF]
  refine J_done (by kernel_rfl) (OnlyOn.normal ?_)
  go_wp2
  go_ret
  exact ⟨rfl, hx2.out⟩
end Go.Proofs.YtpijfiaecicpfaaGreat
