/-
  Bytes turned for an order, and numbers with their highest byte first: the program and the reference; Contracts that were proved for another law's share, for this one; DERIVED: THE SHELF's CONTRACTS AT THIS DUMP, IN PLAIN WORDS (tools/lay-plain.mjs out of 'YtjjikkhhlpikbaaGreatDoorSh.lean', which tools/lay-shelf.mjs wrote): THE SAME DECLARATIONS UNDER THE SAME NAMES: 'import', 'namespace', 'open', 'def', 'theorem' AND NOTHING ELSE: no command of the shelf's: FOR A HAND-IN. Each laying: the table of numbers ('.._ren') and one theorem, a field a fact of the dump's own or the kernel's comparison; each contract: ONE APPLICATION; Keys of values: bytes of numbers, escaped texts, what they are turned to, and the values of them. No program in sight; Words for worlds and slices that the walks of this claim use: a world that extends another one, a slice that reads as a list, a row of the call's own. No program in sight.
-/
import Derived.WalkKit
import Derived.WalkLawsBesides
import Derived.Deep.QuietTactic
import Derived.BigQuiet
import Derived.Deep.Draws
import Derived.Deep.AppendLies
import Derived.Lib.Strings
import Derived.Lib.ReplaceLaws
import Derived.Test.YtjjikkhhlpikbaaGreatDoorProg
import Derived.ChangeKeysEq
import Derived.Lib.Bytealg
import Derived.Shelf.Vars
import Derived.Laws.Concat
import Derived.Laws.IdiomStrings
import Derived.OwnWalk
import Derived.Lib.Slices
import Derived.Lib.Walk
import Derived.Laws.MakeOwn
import Derived.Shelf.Strings.Builder1
import Derived.Shelf.Strings.Builder2
import Derived.Shelf.Small.Strs
import Derived.Shelf.Small.Wraps
import Derived.Shelf.Strings.BuilderF
import Derived.Shelf.Strings.BuilderK
import Derived.Shelf.Utf8.RuneCount
import Derived.Shelf.Strings.Builder2Cap
import Derived.Shelf.Strings.Search1
import Derived.Shelf.Strings.Search2
import Derived.Shelf.Strings.Search3
import Derived.Shelf.Strings.Count
import Derived.Shelf.LaysM
import Derived.Shelf.Strings.Shaped
import Derived.Shelf.Strings.Split
import Derived.Shelf.Strings.Replace
import Derived.Shelf.Strings.SplitShaped
import Derived.Shelf.Unicode.Decode
import Derived.Shelf.Strings.RuneCount
import Derived.Shelf.Unicode.DecodeSlow
import Derived.Shelf.Unicode.DecodeAny
import Derived.Ground.Names2Prog
import Derived.Shelf.Slices.SearchI
set_option maxRecDepth 100000
set_option maxHeartbeats 40000000
set_option linter.unusedVariables false
set_option linter.unusedSimpArgs false
namespace Go.Proofs.YtjjikkhhlpikbaaGreatDoor
open Go.RowKit
theorem lyA {α : Type} {xs : List α} {i : Nat} (h : i < xs.toArray.size) : xs.toArray[i] = xs[i] := rfl
theorem lyB {α : Type} (a : α) (bs : List α) (h : 0 < (a :: bs).length) : getElem (a :: bs) 0 h = a := rfl
theorem lyC {α : Type} (a : α) (bs : List α) (i : Nat) (h : i + 1 < (a :: bs).length) : getElem (a :: bs) (i + 1) h = getElem bs i (Nat.lt_of_succ_lt_succ h) := rfl
theorem lyD {α : Type} (l : List α) (i : Nat) (a : α) : l.toArray.setIfInBounds i a = (l.set i a).toArray := List.setIfInBounds_toArray l i a
theorem lyE {α : Type} {x : α} {xs : List α} {a : α} : (x :: xs).set 0 a = a :: xs := rfl
theorem lyF {α : Type} {x : α} {xs : List α} {i : Nat} {a : α} : (x :: xs).set (i + 1) a = x :: xs.set i a := rfl
theorem block_add (a : Addr) (n : Nat) : (a.add n).block = a.block := by unfold Addr.add; split <;> rfl
theorem add_add (a : Addr) (i j : Nat) : (a.add i).add j = a.add (i + j) := by
  unfold Addr.add
  by_cases hi : i = 0 <;> by_cases hj : j = 0 <;> simp [hi, hj, Nat.add_assoc]
theorem hid {p : Prop} (h : p) : Hid p := h
def Ext (w w' : World) : Prop := Below w.heap.size w w'
theorem Ext.refl (w : World) : Ext w w := Below.refl _ _
theorem Ext.drewN (w : World) (n : Nat) : Ext w (w.drewN n) := ⟨rfl, rfl, rfl, Nat.le_refl _, fun _ _ => rfl⟩
theorem Ext.trans {a b c : World} (h : Ext a b) (k : Ext b c) : Ext a c := Below.trans h (Below.mono k h.size)
theorem Ext.size {a b : World} (h : Ext a b) : a.heap.size ≤ b.heap.size := Below.size h
theorem Ext.below {a b c : World} {B : Nat} (h : Below B a b) (k : Ext b c) (hB : B ≤ b.heap.size) : Below B a c := h.trans (Below.mono k hB)
theorem Ext.block {a b : World} (h : Ext a b) {k : Nat} (hk : k < a.heap.size) : b.heap[k]? = a.heap[k]? := Below.block h k hk
theorem Ext.cell {a b : World} (h : Ext a b) {p : Addr} {v : Value} (hc : a.cell? p = some v) : b.cell? p = some v :=
  (World.cell?_of_block (h.block (World.block_lt_of_cell? a p hc))).trans hc
theorem Ext.frozen {a b : World} (h : Ext a b) {p : Addr} (hp : p.block < a.heap.size) : b.frozen? p = a.frozen? p := World.frozen?_of_block (h.block hp)
theorem Ext.drewN_right {a b : World} (h : Ext a b) (n : Nat) : Ext a (b.drewN n) := h.trans (.drewN b n)
theorem Ext.drew_right {a b : World} (h : Ext a b) : Ext a b.drew := h.trans (.drewN b 1)
theorem Ext.alloc_right {a b : World} (h : Ext a b) (o : Obj) : Ext a (b.alloc o) := Below.alloc h h.size o
theorem Ext.own {w w' : World} (h : Ext w w') {base : Nat} {e : TypeId} {size : Nat} {v : Value} {n : Nat} {xs : List Value} (ho : w.ownsRow base e size v n xs) : w'.ownsRow base e size v n xs := by
  have hb : Below w.heap.size w w' := h
  exact ho.kept (row := none) ⟨hb.os, hb.tape, hb.output, hb.size, fun k hk _ => hb.block k hk⟩ (by cases v.ownBlock <;> simp)
def Rd (w : World) (size : Nat) (A : Option Addr) (n c : Nat) (xs : List Value) : Prop :=
  xs.length = n * size ∧ n ≤ c ∧ c ≤ maxLen ∧ (0 < n → ∃ ad, A = some ad ∧ ∀ j u, xs[j]? = some u → w.cell? (ad.add j) = some u)
section
variable {w w' : World} {size n c : Nat} {A : Option Addr} {xs : List Value}
theorem Rd.none_ (w : World) (size : Nat) : Rd w size none 0 0 [] := ⟨by simp, by simp, by simp, fun h => absurd h (by omega)⟩
theorem Rd.max (h : Rd w size A n c xs) : n ≤ 9223372036854775807 ∧ n ≤ c ∧ c ≤ 9223372036854775807 := by
  have h1 := h.2.1
  have h2 := h.2.2.1
  unfold maxLen at h2
  omega
theorem Rd.keep (h : Rd w size A n c xs) (hk : ∀ p v, w.cell? p = some v → w'.cell? p = some v) : Rd w' size A n c xs :=
  ⟨h.1, h.2.1, h.2.2.1, fun hn => by
    obtain ⟨ad, e, hc⟩ := h.2.2.2 hn
    exact ⟨ad, e, fun j u hu => hk _ _ (hc j u hu)⟩⟩
theorem Rd.ext (h : Rd w size A n c xs) (hb : Ext w w') : Rd w' size A n c xs := h.keep fun _ _ hc => hb.cell hc
theorem Rd.below (h : Rd w size A n c xs) (hb : Below w.heap.size w w') : Rd w' size A n c xs := h.ext hb
theorem Rd.drewN (h : Rd w size A n c xs) (k : Nat) : Rd (w.drewN k) size A n c xs := h
theorem Rd.alloc (h : Rd w size A n c xs) (o : Obj) : Rd (w.alloc o) size A n c xs := h.ext ((Ext.refl w).alloc_right o)
theorem Rd.cut (h : Rd w size A n c xs) {k : Nat} (hk : k ≤ n) :
    Rd w size (if c = k then A else A.map (·.add (k * size))) (n - k) (c - k) (xs.drop (k * size)) := by
  have h1 := h.2.1
  have h2 := h.2.2.1
  refine ⟨by rw [List.length_drop, h.1, Nat.sub_mul], by omega, by omega, fun hn => ?_⟩
  obtain ⟨ad, rfl, hcell⟩ := h.2.2.2 (by omega)
  rw [if_neg (by omega)]
  refine ⟨ad.add (k * size), rfl, fun j u hu => ?_⟩
  rw [add_add]
  exact hcell _ u (by rw [← hu, List.getElem?_drop])
theorem Rd.of_own {base : Nat} {e : TypeId} (h : w.ownsRow base e size (.slice A n c) n xs) : Rd w size A n c xs := by
  have h2 := h.2
  refine ⟨h.1, ?_, ?_, fun hn => ?_⟩
  · rcases h2 with ⟨_, rfl⟩ | ⟨g, cap, cur, hv, _, _, hcap, hm, _⟩
    · simp
    · injection hv with _ _ hc; omega
  · rcases h2 with ⟨hv, rfl⟩ | ⟨g, cap, cur, hv, _, _, hcap, hm, _⟩
    · injection hv with _ _ hc; simp [hc]
    · injection hv with _ _ hc; omega
  · rcases h2 with ⟨_, rfl⟩ | ⟨g, cap, cur, hv, _⟩
    · omega
    · have hA : A = some ⟨g, 0, none⟩ := by injection hv
      subst hA
      exact ⟨_, rfl, h.cells (g := g) rfl⟩
end
theorem own_drewN {w : World} {base : Nat} {e : TypeId} {size : Nat} {v : Value} {n : Nat} {xs : List Value} (h : w.ownsRow base e size v n xs) (k : Nat) : (w.drewN k).ownsRow base e size v n xs := h
def cellv (w : World) (a : Addr) : Value := (w.cell? a).getD undef
def There (w : World) (b n : Nat) : Prop := ∀ o, o < n → (∃ u, w.cell? ⟨b, o, none⟩ = some u) ∧ w.frozen? ⟨b, o, none⟩ = false
section
variable {w w' : World} {b n : Nat}
theorem There.cell (h : There w b n) {o : Nat} (ho : o < n) : w.cell? ⟨b, o, none⟩ = some (cellv w ⟨b, o, none⟩) := by
  obtain ⟨u, hu⟩ := (h o ho).1
  simp [cellv, hu]
theorem There.free (h : There w b n) {o : Nat} (ho : o < n) : w.frozen? ⟨b, o, none⟩ = false := (h o ho).2
theorem There.ext (h : There w b n) (hx : Ext w w') : There w' b n := fun o ho => by
  obtain ⟨u, hu⟩ := (h o ho).1
  refine ⟨⟨u, hx.cell hu⟩, ?_⟩
  rw [hx.frozen (World.block_lt_of_cell? w _ hu)]
  exact (h o ho).2
theorem There.drew (h : There w b n) : There w.drew b n := h
theorem There.set (h : There w b n) (p : Addr) (v : Value) : There (w.setCell p v) b n := fun o ho => by
  obtain ⟨u, hu⟩ := (h o ho).1
  refine ⟨?_, by rw [World.frozen?_setCell]; exact (h o ho).2⟩
  by_cases e : p = ⟨b, o, none⟩
  · exact ⟨v, by rw [e]; exact World.cell?_setCell_same (u := u) _ _ _ hu⟩
  · exact ⟨u, by rw [World.cell?_setCell_other _ _ _ _ e]; exact hu⟩
theorem There.new (w : World) (cs : Array Value) (t : TypeId) (hn : n ≤ cs.size) : There (w.alloc (.cells cs t)) w.heap.size n := fun o ho => by
  refine ⟨⟨cs[o]'(by omega), ?_⟩, ?_⟩
  · rw [cell_of_row _ w.heap.size o cs t (0, 0) (heap_alloc_new w _)]
    simp
  · have := heap_alloc_new w (.cells cs t)
    unfold World.frozen?
    rw [this]
    simp
theorem Ext.set (h : Ext w w') {p : Addr} (hp : w.heap.size ≤ p.block) (v : Value) : Ext w (w'.setCell p v) := Below.setCell h hp v
theorem cell_far {p q : Addr} {v u : Value} (h : w.cell? q = some u) (hne : p.block ≠ q.block) : (w.setCell p v).cell? q = some u := by
  rw [World.cell?_setCell_other _ _ _ _ (fun e => hne (by rw [e]))]; exact h
end
def ints (l : List Int) : List Value := l.map (Value.int .i64)
theorem ints_append (l m : List Int) : ints (l ++ m) = ints l ++ ints m := by simp [ints]
theorem ints_drop (l : List Int) (k : Nat) : (ints l).drop k = ints (l.drop k) := by simp [ints]
theorem ints_one (l : List Int) : ∀ u ∈ ints l, u.oneCell' = true := by
  intro u hu
  obtain ⟨_, _, rfl⟩ := List.mem_map.1 hu
  rfl
def lenOf : Value → Nat | .slice _ n _ => n | _ => 0
def nth (l : List Int) (k : Nat) : Int := l.getD k 0
theorem nth_lt {l : List Int} {k : Nat} (h : k < l.length) : nth l k = l[k] := by simp [nth, h]
def RdI (w : World) (A : Option Addr) (n c : Nat) (l : List Int) : Prop := Rd w 1 A n c (ints l)
section
variable {w w' : World} {n c : Nat} {A : Option Addr} {l : List Int}
theorem RdI.len (h : RdI w A n c l) : l.length = n := by have := h.1; simpa [ints] using this
theorem RdI.max (h : RdI w A n c l) : n ≤ 9223372036854775807 ∧ n ≤ c ∧ c ≤ 9223372036854775807 := Rd.max h
theorem RdI.at_ (h : RdI w A n c l) {k : Nat} (hk : k < n) :
    ∃ ad, A = some ad ∧ w.cell? (ad.add k) = some (.int .i64 (nth l k)) := by
  obtain ⟨ad, hA, hc⟩ := h.2.2.2 (by omega)
  have hl := h.len
  exact ⟨ad, hA, hc k _ (by simp [ints, nth, List.getD, hl, hk])⟩
theorem RdI.cells {ad : Addr} (h : RdI w (some ad) n c l) {k : Nat} (hk : k < n) : w.cell? (ad.add k) = some (.int .i64 (nth l k)) := by
  obtain ⟨ad', hA, hc⟩ := h.at_ hk
  injection hA with hA
  subst hA
  exact hc
theorem RdI.ext (h : RdI w A n c l) (hb : Ext w w') : RdI w' A n c l := Rd.ext h hb
theorem RdI.drewN (h : RdI w A n c l) (k : Nat) : RdI (w.drewN k) A n c l := h
theorem RdI.alloc (h : RdI w A n c l) (o : Obj) : RdI (w.alloc o) A n c l := Rd.alloc h o
theorem RdI.nil (w : World) : RdI w none 0 0 [] := Rd.none_ w 1
theorem RdI.cut (h : RdI w A n c l) {k : Nat} (hk : k ≤ n) :
    RdI w (if c = k then A else A.map (·.add k)) (n - k) (c - k) (l.drop k) := by
  have := Rd.cut h hk
  rw [Nat.mul_one, ints_drop] at this
  exact this
theorem RdI.of_own {base : Nat} {e : TypeId} (h : w.ownsRow base e 1 (.slice A n c) n (ints l)) : RdI w A n c l := Rd.of_own h
end
theorem own_form {w : World} {base : Nat} {e : TypeId} {size n : Nat} {v : Value} {xs : List Value} (h : w.ownsRow base e size v n xs) : ∃ A c, v = .slice A n c ∧ n ≤ c := by
  rcases h.2 with ⟨rfl, rfl⟩ | ⟨g, cap, cur, rfl, _, _, hcap, _⟩
  · exact ⟨none, 0, rfl, Nat.le_refl _⟩
  · exact ⟨_, cap, rfl, hcap⟩
def Dr (w w' : World) : Prop := ∃ n, w' = w.drewN n
theorem Dr.refl (w : World) : Dr w w := ⟨0, rfl⟩
theorem Dr.mk1 (w : World) (n : Nat) : Dr w (w.drewN n) := ⟨n, rfl⟩
theorem Dr.mk2 (w : World) (n m : Nat) : Dr w ((w.drewN n).drewN m) := ⟨_, World.drewN_drewN _ _ _⟩
theorem Dr.ext {w w' : World} (h : Dr w w') : Ext w w' := by obtain ⟨n, rfl⟩ := h; exact Ext.drewN _ _
theorem ret_bool {a b : Bool} (h : a = b) : Ending.returned (.bool a) = .returned (.bool b) := by rw [h]
theorem wpList_push {P : Program} (w : World) {ops : Array Oper} {rest : List Oper} {o : Oper} {a : Act} {Q : Exit → Act → World → Prop} (hgd : o.guard = none) (s x : Operand) (t : TypeId)
    (ho : o.op = .call { callee := .builtin .append, args := #[s, x], argTypes := #[t, t] })
    (base : Nat) (e : TypeId) (i : TypeInfo) (z : Value) (size bytes : Nat) (ht : P.underlying t = some (.slice e)) (hi : P.info? e = some i) (hz : i.zero = some z)
    (hsize : i.size = size) (hby : i.bytes = bytes) (hzs : z.cells.size = size) (hsz : 0 < size)
    (v : Value) (n : Nat) (xs : List Value) (hs : a.eval s = v) (hown : w.ownsRow base e size v n xs)
    (es : List Value) (hx : a.eval x = .slice (some ⟨w.heap.size, 0, none⟩) 1 1) (hl : es.length = size) (h1 : ∀ u ∈ es, u.oneCell' = true)
    (h63 : n + 1 ≤ maxLen) (hbytes : (n + 1) * bytes ≤ 140737488355328) (hbase : base ≤ w.heap.size)
    (h : ∀ g cap w', w'.ownsRow base e size (.slice (some ⟨g, 0, none⟩) (n + 1) cap) (n + 1) (xs ++ es) → w.grownBy w' v.ownBlock → (v.ownBlock = some g ∨ g = w.heap.size + 1) →
      wpList P ops Q rest (a.put o.dst (.slice (some ⟨g, 0, none⟩) (n + 1) cap)) w') : wpList P ops Q (o :: rest) a (w.alloc (.cells es.toArray e)) := by
  refine wpList_append_lies _ hgd s x t ho base e i z size bytes ht hi hz hsize hby hzs hsz v n xs hs (hown.alloc _) ⟨w.heap.size, 0, none⟩ 1 1 es hx (by omega) ?_ h1 (by omega) h63 hbytes (by simp; omega) (w.heap.size + 1) (by simp) ?_
  · intro j u hu
    have hadd : (⟨w.heap.size, 0, none⟩ : Addr).add j = ⟨w.heap.size, j, none⟩ := by unfold Addr.add; split <;> simp_all
    rw [hadd, cell_of_row _ w.heap.size j es.toArray e (0, 0) (heap_alloc_new w _)]
    simpa using hu
  · intro g cap w' hown' hgrow hat hlt
    refine h g cap w' hown' ⟨hgrow.os, hgrow.tape, hgrow.output, ?_, fun k hk hne => ?_⟩ hat
    · have := hgrow.size; simp at this; omega
    · rw [hgrow.block k (by simp; omega) hne]
      exact Below.heap_alloc w _ k hk
theorem wpList_pushI {P : Program} (w : World) {ops : Array Oper} {rest : List Oper} {o : Oper} {a : Act} {Q : Exit → Act → World → Prop} (hgd : o.guard = none) (s x : Operand) (t : TypeId)
    (ho : o.op = .call { callee := .builtin .append, args := #[s, x], argTypes := #[t, t] })
    (base : Nat) (e : TypeId) (i : TypeInfo) (ht : P.underlying t = some (.slice e)) (hi : P.info? e = some i) (hz : i.zero = some (.int .i64 0))
    (hsize : i.size = 1) (hby : i.bytes = 8)
    (v : Value) (n : Nat) (l : List Int) (hs : a.eval s = v) (hown : w.ownsRow base e 1 v n (ints l)) (y : Int) (hx : a.eval x = .slice (some ⟨w.heap.size, 0, none⟩) 1 1)
    (hn : n ≤ 10000000) (hbase : base ≤ w.heap.size)
    (h : ∀ g cap w', w'.ownsRow base e 1 (.slice (some ⟨g, 0, none⟩) (n + 1) cap) (n + 1) (ints (l ++ [y])) → w.grownBy w' v.ownBlock → (v.ownBlock = some g ∨ g = w.heap.size + 1) →
      wpList P ops Q rest (a.put o.dst (.slice (some ⟨g, 0, none⟩) (n + 1) cap)) w') : wpList P ops Q (o :: rest) a (w.alloc (.cells #[.int .i64 y] e)) :=
  wpList_push w hgd s x t ho base e i _ 1 8 ht hi hz hsize hby rfl (by decide) v n (ints l) hs hown [.int .i64 y] hx rfl (by simp [Value.oneCell']) (by unfold maxLen; omega) (by omega) hbase
    (fun g cap w' h1 h2 h3 => h g cap w' (by rw [ints_append]; exact h1) h2 h3)
theorem below_push {w0 w w' : World} {base n size : Nat} {e : TypeId} {v : Value} {xs : List Value} (hb : Below base w0 w) (hown : w.ownsRow base e size v n xs) (hg : w.grownBy w' v.ownBlock) (hB : base ≤ w.heap.size) : Below base w0 w' :=
  hb.grown hg hB fun k hk => (hown.lt k hk).1
theorem Dr.trans {a b c : World} (h : Dr a b) (k : Dr b c) : Dr a c := by obtain ⟨n, rfl⟩ := h; obtain ⟨m, rfl⟩ := k; exact Dr.mk2 _ _ _
theorem Dr.step {a b : World} (h : Dr a b) (n : Nat) : Dr a (b.drewN n) := h.trans (.mk1 _ _)
def Fr (B : Nat) (A : Option Addr) : Prop := ∀ ad, A = some ad → B ≤ ad.block
theorem Fr.none_ (B : Nat) : Fr B none := fun _ h => by cases h
theorem Fr.mono {B C : Nat} {A : Option Addr} (h : Fr C A) (hB : B ≤ C) : Fr B A := fun ad e => Nat.le_trans hB (h ad e)
theorem own_fresh {w : World} {base : Nat} {e : TypeId} {size n m c : Nat} {A : Option Addr} {xs : List Value} (h : w.ownsRow base e size (.slice A m c) n xs) : Fr base A := by
  intro ad hA
  subst hA
  exact (h.lt ad.block rfl).1
theorem Rd.far {w : World} {size n c : Nat} {A : Option Addr} {xs : List Value} (h : Rd w size A n c xs) {B : Nat} (hf : Fr B A) {p : Addr} (hp : p.block < B) (v : Value) : Rd (w.setCell p v) size A n c xs :=
  ⟨h.1, h.2.1, h.2.2.1, fun hn => by
    obtain ⟨ad, e, hc⟩ := h.2.2.2 hn
    exact ⟨ad, e, fun j u hu => cell_far (hc j u hu) (by rw [block_add]; have := hf ad e; omega)⟩⟩
theorem RdI.far {w : World} {n c : Nat} {A : Option Addr} {l : List Int} (h : RdI w A n c l) {B : Nat} (hf : Fr B A) {p : Addr} (hp : p.block < B) (v : Value) : RdI (w.setCell p v) A n c l := Rd.far h hf hp v
def Give (v : Value) (w : World) (e : Ending) (w' : World) : Prop := e = .returned v ∧ Ext w w'
theorem ret_int {k : IntKind} {a b : Int} (h : a = b) : Ending.returned (.int k a) = .returned (.int k b) := by rw [h]
end Go.Proofs.YtjjikkhhlpikbaaGreatDoor
namespace Go.Proofs.YtjjikkhhlpikbaaGreatDoor.Ky
def bOf (x : Int) : UInt8 := UInt8.ofNat x.toNat
theorem bOf_val (x : Int) (h0 : 0 ≤ x) (h1 : x ≤ 255) : ((bOf x).toNat : Int) = x := by
  unfold bOf
  rw [UInt8.toNat_ofNat']
  omega
def bth (l : List UInt8) (k : Nat) : Int := ((l.getD k 0).toNat : Int)
theorem bth_in (l : List UInt8) (k : Nat) : 0 ≤ bth l k ∧ bth l k ≤ 255 := by unfold bth; have := (l.getD k 0).toNat_lt; omega
def strB (l : List UInt8) : ByteArray := ⟨l.toArray⟩
theorem strB_toList (l : List UInt8) : (strB l).toList = l := by rw [ByteArray.toList_eq]; rfl
theorem strB_id (s : ByteArray) : strB s.toList = s := by rw [ByteArray.toList_eq]; rfl
theorem strB_size (l : List UInt8) : (strB l).size = l.length := by simp [strB, ByteArray.size]
theorem strB_add (a b : List UInt8) : strB a ++ strB b = strB (a ++ b) := by
  apply ByteArray.ext
  simp [strB]
theorem len_toList (s : ByteArray) : s.toList.length = s.size := by rw [ByteArray.toList_eq]; rfl
theorem ext_str (s : ByteArray) (a b : Nat) : s.extract a b = strB ((s.toList.drop a).take (b - a)) := by
  rw [Lib.extract_eq, ByteArray.toList_eq]
  rfl
theorem str_ext {s t : ByteArray} (h : s.toList = t.toList) : s = t := by rw [← strB_id s, h, strB_id]
def swL (a b : List UInt8) : List UInt8 → List UInt8
  | [] => []
  | x :: l => if h : a ≠ [] ∧ a.isPrefixOf (x :: l) = true then b ++ swL a b ((x :: l).drop a.length) else x :: swL a b l
termination_by l => l.length
decreasing_by
  · have := List.length_pos_iff.2 h.1
    rw [List.length_drop]
    simp
    omega
  · simp
variable {a b : List UInt8}
theorem swL_nil : swL a b [] = [] := by rw [swL]
theorem swL_hit {l : List UInt8} (ha : a ≠ []) (hl : l ≠ []) (h : a.isPrefixOf l = true) : swL a b l = b ++ swL a b (l.drop a.length) := by
  obtain ⟨x, t, rfl⟩ := List.exists_cons_of_ne_nil hl
  rw [swL, dif_pos ⟨ha, h⟩]
theorem swL_miss {x : UInt8} {l : List UInt8} (h : a.isPrefixOf (x :: l) = false) : swL a b (x :: l) = x :: swL a b l := by
  rw [swL, dif_neg (fun q => by rw [h] at q; cases q.2)]
theorem occ_zero (l : List UInt8) : Lib.occAt l a 0 = a.isPrefixOf l := by unfold Lib.occAt; rw [List.drop_zero]
theorem swL_skip : ∀ (i : Nat) (l : List UInt8), i ≤ l.length → Lib.NoOcc l a i → swL a b l = l.take i ++ swL a b (l.drop i)
  | 0, l, _, _ => by simp
  | i + 1, [], h, _ => by simp at h
  | i + 1, x :: l, h, hn => by
    have h0 := hn 0 (by omega)
    rw [occ_zero] at h0
    rw [swL_miss h0, swL_skip i l (by simpa using h) (fun j hj => by have := hn (j + 1) (by omega); simpa [Lib.occAt] using this)]
    simp
theorem swL_same : ∀ (n : Nat) (l : List UInt8), l.length ≤ n → swL a a l = l
  | 0, l, h => by
    have : l = [] := List.eq_nil_of_length_eq_zero (by omega)
    rw [this, swL_nil]
  | n + 1, [], _ => swL_nil
  | n + 1, x :: l, h => by
    by_cases hp : a ≠ [] ∧ a.isPrefixOf (x :: l) = true
    · rw [swL, dif_pos hp]
      have hl := List.length_pos_iff.2 hp.1
      rw [swL_same n _ (by rw [List.length_drop]; simp at h ⊢; omega)]
      have := List.prefix_iff_eq_append.1 (List.isPrefixOf_iff_prefix.1 hp.2)
      exact this
    · rw [swL, dif_neg hp, swL_same n l (by simpa using h)]
theorem rep_swL (ha : a ≠ []) : ∀ (n : Nat) (l : List UInt8), l.length ≤ n → Lib.replaceK a b (Lib.count l a) l = swL a b l
  | n, l, hn => by
    rcases Lib.index_spec l a with ⟨hi, hno⟩ | ⟨i, hi, hle, hoc, hno⟩
    · rw [Lib.count_miss hi]
      show l = _
      rw [swL_skip l.length l (Nat.le_refl _) (fun j hj => hno j (by omega)), List.take_length, List.drop_length, swL_nil, List.append_nil]
    · have hr := Lib.index_room l a (by omega)
      have hpos := List.length_pos_iff.2 ha
      rw [Lib.count_hit ha hi, Nat.add_comm 1, Lib.replaceK_hit a b _ l i hi, swL_skip i l hle hno]
      have hd : l.drop i ≠ [] := by
        intro e
        have := congrArg List.length e
        rw [List.length_drop] at this
        simp at this
        omega
      rw [swL_hit ha hd (by unfold Lib.occAt at hoc; exact hoc), List.drop_drop, List.append_assoc]
      cases n with
      | zero => omega
      | succ n => rw [rep_swL ha n (l.drop (i + a.length)) (by rw [List.length_drop]; omega)]
theorem all_swL (ha : a ≠ []) (l : List UInt8) : Lib.replaceAll l a b = swL a b l := by
  unfold Lib.replaceAll Lib.replace
  by_cases e : a = b
  · subst e
    rw [if_pos (by simp), swL_same l.length l (Nat.le_refl _)]
  · rw [if_neg (by simpa using e)]
    have : Lib.replaceNum l a (-1) = Lib.count l a := by unfold Lib.replaceNum; rw [if_pos (Or.inl (by decide))]
    rw [this, rep_swL ha l.length l (Nat.le_refl _)]
end Go.Proofs.YtjjikkhhlpikbaaGreatDoor.Ky
namespace Go.Proofs.YtjjikkhhlpikbaaGreatDoor.Ky
def byo (n : Nat) : UInt8 := UInt8.ofNat n
theorem byo_val {n : Nat} (h : n < 256) : (byo n).toNat = n := by unfold byo; rw [UInt8.toNat_ofNat']; omega
def highL (n : Nat) : Nat → List UInt8
  | 0 => []
  | k + 1 => highL (n / 256) k ++ [byo (n % 256)]
theorem highL_len (k : Nat) : ∀ n, (highL n k).length = k := by
  induction k with
  | zero => intro n; rfl
  | succ k ih => intro n; rw [highL, List.length_append, ih]; rfl
def escL : List UInt8 → List UInt8
  | [] => []
  | b :: l => if b = 0 then 0 :: 1 :: escL l else b :: escL l
theorem esc_cons (b : UInt8) (l : List UInt8) : escL (b :: l) = if b = 0 then 0 :: 1 :: escL l else b :: escL l := rfl
theorem escL_len (l : List UInt8) : (escL l).length ≤ 2 * l.length := by
  induction l with
  | nil => simp [escL]
  | cons x l ih => unfold escL; split <;> simp <;> omega
def turnL (l : List UInt8) : List UInt8 := l.map fun b => byo (255 - b.toNat)
end Go.Proofs.YtjjikkhhlpikbaaGreatDoor.Ky
namespace Go.Proofs.YtjjikkhhlpikbaaGreatDoor.Ky
open Go.RowKit
def Give2 (x y : Int) (w : World) (e : Ending) (w' : World) : Prop := e = .returned (.tuple #[.int .i64 x, .int .i64 y]) ∧ Ext w w'
def isDayB (n : Int) : Bool := decide (0 ≤ n) && decide (n ≤ 3652059)
theorem isDay_any (n : Int) (w : World) : Calls Tryz.prog 45 #[.int .i64 n] w fun e w' => e = .returned (.bool (isDayB n)) ∧ w = w' := by
  rcases Bool.eq_false_or_eq_true (decide (0 ≤ n)) with h1 | h1 <;> rcases Bool.eq_false_or_eq_true (decide (n ≤ 3652059)) with h2 | h2
  all_goals have Fin := hid (show isDayB n = _ by unfold isDayB; rw [h1, h2])
  all_goals go_enter Tryz.func45, Tryz.ntmps45
  all_goals go_wp2
  all_goals go_ret
  all_goals exact ⟨ret_bool (by rw [Fin.out]; rfl), rfl⟩
def vV (k n : Int) (s : ByteArray) : Value := .agg #[.int .i64 k, .int .i64 n, .string s]
def isNumB (n : Int) : Bool := decide (-1000000000000000 ≤ n) && decide (n ≤ 1000000000000000)
theorem isNum_iff {n : Int} : isNumB n = true ↔ -1000000000000000 ≤ n ∧ n ≤ 1000000000000000 := by unfold isNumB; simp
theorem isNum_any (n : Int) (w : World) : Calls Tryz.prog 44 #[.int .i64 n] w fun e w' => e = .returned (.bool (isNumB n)) ∧ w = w' := by
  rcases Bool.eq_false_or_eq_true (decide (-1000000000000000 ≤ n)) with h1 | h1 <;> rcases Bool.eq_false_or_eq_true (decide (n ≤ 1000000000000000)) with h2 | h2
  all_goals have Fin := hid (show isNumB n = _ by unfold isNumB; rw [h1, h2])
  all_goals go_enter Tryz.func44, Tryz.ntmps44
  all_goals go_wp2
  all_goals go_ret
  all_goals exact ⟨ret_bool (by rw [Fin.out]; rfl), rfl⟩
def isV (k n : Int) (s : ByteArray) : Bool :=
  if k = 4 then decide (n = 0) else if s.size ≠ 0 then false else
  if k = 0 then decide (n = 0) else if k = 1 then decide (n = 0 ∨ n = 1) else if k = 2 then isNumB n else if k = 3 then isDayB n else false
theorem empty_iff (s : ByteArray) : s.toList.isEmpty = decide (s.size = 0) := by
  rw [← len_toList]
  cases s.toList <;> simp
theorem isValue_any (k n : Int) (s : ByteArray) (w : World) : Calls Tryz.prog 17 #[vV k n s] w (Give (.bool (isV k n s)) w) := by
  unfold vV
  by_cases k4 : k = 4
  · subst k4
    by_cases n0 : n = 0
    · subst n0
      have Fin : Hid (isV 4 0 s = true) := by unfold Hid isV; simp
      go_enter Tryz.func17, Tryz.ntmps17
      go_wp2
      go_ret
      exact ⟨ret_bool Fin.out.symm, (Ext.refl w).alloc_right _⟩
    · have d : (n != 0) = true := by simpa using n0
      have Fin : Hid (isV 4 n s = false) := by unfold Hid isV; simp [n0]
      clear n0
      go_enter Tryz.func17, Tryz.ntmps17
      go_wp2
      go_ret
      exact ⟨ret_bool Fin.out.symm, (Ext.refl w).alloc_right _⟩
  · have d4 : (k != 4) = true := by simpa using k4
    have e4 : (k == 4) = false := by simpa using k4
    rcases Bool.eq_false_or_eq_true (s.toList.isEmpty) with hs | hs
    · have hz : s.size = 0 := by have := empty_iff s; rw [hs] at this; simpa using this.symm
      have hv : Hid (isV k n s = if k = 0 then decide (n = 0) else if k = 1 then decide (n = 0 ∨ n = 1) else if k = 2 then isNumB n else if k = 3 then isDayB n else false) := by unfold Hid isV; rw [if_neg k4, if_neg (by simpa using hz)]
      have hs1 : s.toList = [] := by simpa using hs
      have hs2 : (!s.toList.isEmpty) = false := by rw [hs]; rfl
      clear hz k4
      by_cases k0 : k = 0
      · subst k0
        have Fin : Hid (isV 0 n s = (n == 0)) := by unfold Hid; rw [hv.out]; rfl
        go_enter Tryz.func17, Tryz.ntmps17
        go_wp2
        go_ret
        exact ⟨ret_bool Fin.out.symm, (Ext.refl w).alloc_right _⟩
      · have d0 : (k == 0) = false := by simpa using k0
        by_cases k1 : k = 1
        · subst k1
          rcases Bool.eq_false_or_eq_true (n == 0) with n0 | n0 <;> rcases Bool.eq_false_or_eq_true (n == 1) with n1 | n1
          all_goals have Fin := hid (show isV 1 n s = (n == 0 || n == 1) by rw [hv.out]; simp; rcases Decidable.em (n = 0) with h | h <;> rcases Decidable.em (n = 1) with h' | h' <;> simp [h, h'])
          all_goals go_enter Tryz.func17, Tryz.ntmps17
          all_goals go_wp2
          all_goals go_ret
          all_goals exact ⟨ret_bool (by rw [Fin.out, n0, n1]; rfl), (Ext.refl w).alloc_right _⟩
        · have d1 : (k == 1) = false := by simpa using k1
          by_cases k2 : k = 2
          · subst k2
            have Fin : Hid (isV 2 n s = isNumB n) := by unfold Hid; rw [hv.out]; rfl
            go_enter Tryz.func17, Tryz.ntmps17
            go_wp2_with fail
            refine (isNum_any _ _).mono ?_
            rintro e w' ⟨rfl, rfl⟩
            go_wp2
            go_ret
            exact ⟨ret_bool Fin.out.symm, (Ext.refl w).alloc_right _⟩
          · have d2 : (k == 2) = false := by simpa using k2
            by_cases k3 : k = 3
            · subst k3
              have Fin : Hid (isV 3 n s = isDayB n) := by unfold Hid; rw [hv.out]; rfl
              go_enter Tryz.func17, Tryz.ntmps17
              go_wp2_with fail
              refine (isDay_any _ _).mono ?_
              rintro e w' ⟨rfl, rfl⟩
              go_wp2
              go_ret
              exact ⟨ret_bool Fin.out.symm, (Ext.refl w).alloc_right _⟩
            · have d3 : (k == 3) = false := by simpa using k3
              have Fin : Hid (isV k n s = false) := by unfold Hid; rw [hv.out, if_neg k0, if_neg k1, if_neg k2, if_neg k3]
              clear k0 k1 k2 k3
              go_enter Tryz.func17, Tryz.ntmps17
              go_wp2
              go_ret
              exact ⟨ret_bool Fin.out.symm, (Ext.refl w).alloc_right _⟩
    · have hz : s.size ≠ 0 := by have := empty_iff s; rw [hs] at this; simpa using this.symm
      have hs2 : (!s.toList.isEmpty) = true := by rw [hs]; rfl
      have Fin : Hid (isV k n s = false) := by unfold Hid isV; rw [if_neg k4, if_pos hz]
      clear hz k4
      go_enter Tryz.func17, Tryz.ntmps17
      go_wp2
      go_ret
      exact ⟨ret_bool Fin.out.symm, (Ext.refl w).alloc_right _⟩
def valE (k n : Int) (s : ByteArray) : Int := if 2048 < s.size then 3 else if isV k n s then 0 else 1
theorem Validate_any (k n : Int) (s : ByteArray) (w : World) : Calls Tryz.prog 7 #[vV k n s] w (Give (.int .i64 (valE k n s)) w) := by
  unfold vV
  by_cases hb : 2048 < s.size
  · have e1 : decide ((2048 : Int) < (s.size : Int)) = true := by simp; omega
    have Fin : Hid (valE k n s = 3) := by unfold Hid valE; rw [if_pos hb]
    clear hb
    go_enter Tryz.func7, Tryz.ntmps7
    go_wp2
    go_ret
    exact ⟨ret_int Fin.out.symm, (Ext.refl w).alloc_right _⟩
  · have e1 : decide ((2048 : Int) < (s.size : Int)) = false := by simp; omega
    rcases Bool.eq_false_or_eq_true (isV k n s) with hv | hv
    · have Fin : Hid (valE k n s = 0) := by unfold Hid valE; rw [if_neg hb, if_pos hv]
      clear hb
      go_enter Tryz.func7, Tryz.ntmps7
      go_wp2_with fail
      refine (isValue_any k n s _).mono ?_
      rintro e w1 ⟨rfl, hx⟩
      go_wp2
      go_ret
      exact ⟨ret_int Fin.out.symm, ((Ext.refl w).alloc_right _).trans hx⟩
    · have Fin : Hid (valE k n s = 1) := by unfold Hid valE; rw [if_neg hb, if_neg (by rw [hv]; simp)]
      clear hb
      go_enter Tryz.func7, Tryz.ntmps7
      go_wp2_with fail
      refine (isValue_any k n s _).mono ?_
      rintro e w1 ⟨rfl, hx⟩
      go_wp2
      go_ret
      exact ⟨ret_int Fin.out.symm, ((Ext.refl w).alloc_right _).trans hx⟩
def bothE (k n : Int) (s : ByteArray) (k' n' : Int) (s' : ByteArray) : Int := if valE k n s ≠ 0 then valE k n s else valE k' n' s'
theorem set_get {w : World} {p : Addr} {v : Value} {u : Value} (h : w.cell? p = some u) : (w.setCell p v).cell? p = some v := World.cell?_setCell_same _ _ _ h
theorem set_keep {w : World} {p q : Addr} {v u : Value} (h : w.cell? q = some u) (hne : p ≠ q) : (w.setCell p v).cell? q = some u := by rw [World.cell?_setCell_other _ _ _ _ hne]; exact h
theorem off_ne {b i j : Nat} (h : i ≠ j) : (⟨b, i, none⟩ : Addr) ≠ ⟨b, j, none⟩ := fun e => h (by injection e)
theorem put3 {w : World} {b : Nat} (t : There w b 3) (v0 v1 v2 : Value) :
    (((w.setCell ⟨b, 0, none⟩ v0).setCell ⟨b, 1, none⟩ v1).setCell ⟨b, 2, none⟩ v2).cell? ⟨b, 0, none⟩ = some v0 ∧
    (((w.setCell ⟨b, 0, none⟩ v0).setCell ⟨b, 1, none⟩ v1).setCell ⟨b, 2, none⟩ v2).cell? ⟨b, 1, none⟩ = some v1 ∧
    (((w.setCell ⟨b, 0, none⟩ v0).setCell ⟨b, 1, none⟩ v1).setCell ⟨b, 2, none⟩ v2).cell? ⟨b, 2, none⟩ = some v2 :=
  ⟨set_keep (set_keep (set_get (t.cell (o := 0) (by omega))) (off_ne (by decide))) (off_ne (by decide)),
   set_keep (set_get ((t.set _ _).cell (o := 1) (by omega))) (off_ne (by decide)),
   set_get (((t.set _ _).set _ _).cell (o := 2) (by omega))⟩
end Go.Proofs.YtjjikkhhlpikbaaGreatDoor.Ky
namespace Go.Proofs.YtjjikkhhlpikbaaGreatDoor.Ky
open Go.RowKit
def cmpI (a b : Int) : Int := if a < b then -1 else if b < a then 1 else 0
theorem rCmpI_any (a b : Int) (w : World) : Calls Tryz.prog 24 #[.int .i64 a, .int .i64 b] w fun e w' => e = .returned (.int .i64 (cmpI a b)) ∧ w = w' := by
  by_cases h1 : a < b
  · have d1 : decide (a < b) = true := by simpa using h1
    have Fin : Hid (cmpI a b = -1) := by unfold Hid cmpI; rw [if_pos h1]
    clear h1
    go_enter Tryz.func24, Tryz.ntmps24
    go_wp2
    go_ret
    exact ⟨ret_int Fin.out.symm, rfl⟩
  · have d1 : decide (a < b) = false := by simpa using h1
    by_cases h2 : b < a
    · have d2 : decide (b < a) = true := by simpa using h2
      have Fin : Hid (cmpI a b = 1) := by unfold Hid cmpI; rw [if_neg h1, if_pos h2]
      clear h1 h2
      go_enter Tryz.func24, Tryz.ntmps24
      go_wp2
      go_ret
      exact ⟨ret_int Fin.out.symm, rfl⟩
    · have d2 : decide (b < a) = false := by simpa using h2
      have Fin : Hid (cmpI a b = 0) := by unfold Hid cmpI; rw [if_neg h1, if_neg h2]
      clear h1 h2
      go_enter Tryz.func24, Tryz.ntmps24
      go_wp2
      go_ret
      exact ⟨ret_int Fin.out.symm, rfl⟩
def cmpO (k n : Int) (s : ByteArray) (k' n' : Int) (s' : ByteArray) : Int :=
  if bothE k n s k' n' s' ≠ 0 then 0 else if k ≠ k' ∨ k = 0 then 0 else if k = 4 then Lib.compareBytes s.toList s'.toList else cmpI n n'
def cmpE (k n : Int) (s : ByteArray) (k' n' : Int) (s' : ByteArray) : Int :=
  if bothE k n s k' n' s' ≠ 0 then bothE k n s k' n' s' else if k ≠ k' ∨ k = 0 then 6 else 0
theorem val_size {k n : Int} {s : ByteArray} (h : valE k n s = 0) : s.size ≤ 2048 := by
  unfold valE at h
  split at h
  · cases h
  · omega
theorem both_size {k n k' n' : Int} {s s' : ByteArray} (h : bothE k n s k' n' s' = 0) : s.size ≤ 2048 ∧ s'.size ≤ 2048 := by
  unfold bothE at h
  split at h
  · rename_i h1; exact absurd h h1
  · rename_i h1; exact ⟨val_size (by simpa using h1), val_size h⟩
theorem str_add (a b : ByteArray) (h : a.size + b.size ≤ 9223372036854775807) (wx : World) : (Op.stringOp .add a b).run Tryz.prog wx = .ok (.string (a ++ b)) wx := run_string_add_sum wx a b h
theorem ml_cell {w : World} (h : w.ShapedOpen Tryz.prog) : ∃ m, w.cell? ⟨0, 0, none⟩ = some (.int .i64 m) :=
  cell_of_shapedOpen_int (t := 3) (zero := #[.int .i64 0]) h (of_decide_eq_true (by kernel_rfl)) (by kernel_rfl) (by kernel_rfl) (by kernel_rfl) (by kernel_rfl) Tryz.underlying3
def ML (w : World) : Prop := ∃ m, w.cell? ⟨0, 0, none⟩ = some (.int .i64 m)
theorem ML.ext {w w' : World} (h : ML w) (hx : Ext w w') : ML w' := by obtain ⟨m, hm⟩ := h; exact ⟨m, hx.cell hm⟩
def GiveSE (s : ByteArray) (x : Int) (w : World) (e : Ending) (w' : World) : Prop := e = .returned (.tuple #[.string s, .int .i64 x]) ∧ Ext w w'
theorem GiveSE.mk (s : ByteArray) (x : Int) {w w' : World} (h : Ext w w') : GiveSE s x w (.returned (.tuple #[.string s, .int .i64 x])) w' := ⟨rfl, h⟩
theorem val_is {k n : Int} {s : ByteArray} (h : valE k n s = 0) : isV k n s = true := by
  unfold valE at h
  split at h
  · cases h
  · split at h
    · assumption
    · cases h
theorem val_kinds {k n : Int} {s : ByteArray} (h : valE k n s = 0) : k = 0 ∨ (k = 1 ∧ (n = 0 ∨ n = 1)) ∨ (k = 2 ∧ isNumB n = true) ∨ (k = 3 ∧ isDayB n = true) ∨ k = 4 := by
  have hv := val_is h
  unfold isV at hv
  by_cases k4 : k = 4
  · omega
  rw [if_neg k4] at hv
  split at hv
  · cases hv
  by_cases k0 : k = 0
  · omega
  rw [if_neg k0] at hv
  by_cases k1 : k = 1
  · rw [if_pos k1] at hv
    exact Or.inr (Or.inl ⟨k1, by simpa using hv⟩)
  rw [if_neg k1] at hv
  by_cases k2 : k = 2
  · rw [if_pos k2] at hv
    exact Or.inr (Or.inr (Or.inl ⟨k2, hv⟩))
  rw [if_neg k2] at hv
  by_cases k3 : k = 3
  · rw [if_pos k3] at hv
    exact Or.inr (Or.inr (Or.inr (Or.inl ⟨k3, hv⟩)))
  rw [if_neg k3] at hv
  cases hv
end Go.Proofs.YtjjikkhhlpikbaaGreatDoor.Ky
namespace Go.Proofs.YtjjikkhhlpikbaaGreatDoor.Pg
open Go.RowKit
def withinB (x lo hi : Int) : Bool := decide (lo ≤ x) && decide (x ≤ hi)
def isCapS (x p : Int) : Bool := withinB x 65 90 || (decide (p = 1) && withinB x 192 222 && x != 215) || (decide (p = 2) && withinB x 128 159)
def isSmallA (x p : Int) : Bool := withinB x 97 122 || (decide (p = 1) && withinB x 224 254 && x != 247) || (decide (p = 2) && withinB x 160 175)
def isSmallB (x p : Int) : Bool := decide (p = 2) && withinB x 224 239
def isSmallS (x p : Int) : Bool := isSmallA x p || isSmallB x p
def upS_ (x p : Int) : Int := if isSmallA x p then x - 32 else if isSmallB x p then x - 80 else x
def isLetS (x p : Int) : Bool := isSmallS x p || isCapS x p
def Pg (p : Int) : Prop := p = 0 ∨ p = 1 ∨ p = 2
theorem ret_bb {a b : Bool} {x y : Int} (h : x = y) (h' : a = b) : Ending.returned (.tuple #[.int .u8 x, .bool a]) = .returned (.tuple #[.int .u8 y, .bool b]) := by rw [h, h']
theorem within_any (x lo hi : Int) (w : World) : Calls Tryz.prog 139 #[.int .u8 x, .int .u8 lo, .int .u8 hi] w fun e w' => e = .returned (.bool (withinB x lo hi)) ∧ w = w' := by
  by_cases h1 : lo ≤ x
  · by_cases h2 : x ≤ hi
    · have d1 : decide (lo ≤ x) = true := by simpa using h1
      have d2 : decide (x ≤ hi) = true := by simpa using h2
      have Fin : Hid (withinB x lo hi = true) := by simp [Hid, withinB, h1, h2]
      go_enter Tryz.func139, Tryz.ntmps139
      go_wp2
      go_ret
      exact ⟨ret_bool Fin.out.symm, rfl⟩
    · have d1 : decide (lo ≤ x) = true := by simpa using h1
      have d2 : decide (x ≤ hi) = false := by simpa using h2
      have Fin : Hid (withinB x lo hi = false) := by simp [Hid, withinB]; omega
      go_enter Tryz.func139, Tryz.ntmps139
      go_wp2
      go_ret
      exact ⟨ret_bool Fin.out.symm, rfl⟩
  · have d1 : decide (lo ≤ x) = false := by simpa using h1
    have Fin : Hid (withinB x lo hi = false) := by simp [Hid, withinB]; omega
    go_enter Tryz.func139, Tryz.ntmps139
    go_wp2
    go_ret
    exact ⟨ret_bool Fin.out.symm, rfl⟩
theorem isCap_any (x p : Int) (hp : Pg p) (w : World) : Calls Tryz.prog 138 #[.int .u8 x, .int .i64 p] w fun e w' => e = .returned (.bool (isCapS x p)) ∧ w = w' := by
  rcases hp with rfl | rfl | rfl
  · rcases Bool.eq_false_or_eq_true (withinB x 65 90) with h1 | h1
    · go_enter Tryz.func138, Tryz.ntmps138
      go_wp2_with (go_at_call 139; refine (within_any _ _ _ _).mono ?_; rintro e w' ⟨rfl, rfl⟩)
      go_ret
      exact ⟨ret_bool (by simp [isCapS, h1]), rfl⟩
    · go_enter Tryz.func138, Tryz.ntmps138
      go_wp2_with (go_at_call 139; refine (within_any _ _ _ _).mono ?_; rintro e w' ⟨rfl, rfl⟩)
      go_ret
      exact ⟨ret_bool (by simp [isCapS, h1]), rfl⟩
  · rcases Bool.eq_false_or_eq_true (withinB x 65 90) with h1 | h1
    · rcases Bool.eq_false_or_eq_true (withinB x 192 222) with h2 | h2
      · rcases Bool.eq_false_or_eq_true (x != 215) with h3 | h3
        · go_enter Tryz.func138, Tryz.ntmps138
          go_wp2_with (go_at_call 139; refine (within_any _ _ _ _).mono ?_; rintro e w' ⟨rfl, rfl⟩)
          go_ret
          exact ⟨ret_bool (by simp [isCapS, h1, h2, h3]), rfl⟩
        · go_enter Tryz.func138, Tryz.ntmps138
          go_wp2_with (go_at_call 139; refine (within_any _ _ _ _).mono ?_; rintro e w' ⟨rfl, rfl⟩)
          go_ret
          exact ⟨ret_bool (by simp [isCapS, h1, h2, h3]), rfl⟩
      · rcases Bool.eq_false_or_eq_true (x != 215) with h3 | h3
        · go_enter Tryz.func138, Tryz.ntmps138
          go_wp2_with (go_at_call 139; refine (within_any _ _ _ _).mono ?_; rintro e w' ⟨rfl, rfl⟩)
          go_ret
          exact ⟨ret_bool (by simp [isCapS, h1, h2, h3]), rfl⟩
        · go_enter Tryz.func138, Tryz.ntmps138
          go_wp2_with (go_at_call 139; refine (within_any _ _ _ _).mono ?_; rintro e w' ⟨rfl, rfl⟩)
          go_ret
          exact ⟨ret_bool (by simp [isCapS, h1, h2, h3]), rfl⟩
    · rcases Bool.eq_false_or_eq_true (withinB x 192 222) with h2 | h2
      · rcases Bool.eq_false_or_eq_true (x != 215) with h3 | h3
        · go_enter Tryz.func138, Tryz.ntmps138
          go_wp2_with (go_at_call 139; refine (within_any _ _ _ _).mono ?_; rintro e w' ⟨rfl, rfl⟩)
          go_ret
          exact ⟨ret_bool (by simp [isCapS, h1, h2, h3]), rfl⟩
        · go_enter Tryz.func138, Tryz.ntmps138
          go_wp2_with (go_at_call 139; refine (within_any _ _ _ _).mono ?_; rintro e w' ⟨rfl, rfl⟩)
          go_ret
          exact ⟨ret_bool (by simp [isCapS, h1, h2, h3]), rfl⟩
      · rcases Bool.eq_false_or_eq_true (x != 215) with h3 | h3
        · go_enter Tryz.func138, Tryz.ntmps138
          go_wp2_with (go_at_call 139; refine (within_any _ _ _ _).mono ?_; rintro e w' ⟨rfl, rfl⟩)
          go_ret
          exact ⟨ret_bool (by simp [isCapS, h1, h2, h3]), rfl⟩
        · go_enter Tryz.func138, Tryz.ntmps138
          go_wp2_with (go_at_call 139; refine (within_any _ _ _ _).mono ?_; rintro e w' ⟨rfl, rfl⟩)
          go_ret
          exact ⟨ret_bool (by simp [isCapS, h1, h2, h3]), rfl⟩
  · rcases Bool.eq_false_or_eq_true (withinB x 65 90) with h1 | h1
    · rcases Bool.eq_false_or_eq_true (withinB x 128 159) with h4 | h4
      · go_enter Tryz.func138, Tryz.ntmps138
        go_wp2_with (go_at_call 139; refine (within_any _ _ _ _).mono ?_; rintro e w' ⟨rfl, rfl⟩)
        go_ret
        exact ⟨ret_bool (by simp [isCapS, h1, h4]), rfl⟩
      · go_enter Tryz.func138, Tryz.ntmps138
        go_wp2_with (go_at_call 139; refine (within_any _ _ _ _).mono ?_; rintro e w' ⟨rfl, rfl⟩)
        go_ret
        exact ⟨ret_bool (by simp [isCapS, h1, h4]), rfl⟩
    · rcases Bool.eq_false_or_eq_true (withinB x 128 159) with h4 | h4
      · go_enter Tryz.func138, Tryz.ntmps138
        go_wp2_with (go_at_call 139; refine (within_any _ _ _ _).mono ?_; rintro e w' ⟨rfl, rfl⟩)
        go_ret
        exact ⟨ret_bool (by simp [isCapS, h1, h4]), rfl⟩
      · go_enter Tryz.func138, Tryz.ntmps138
        go_wp2_with (go_at_call 139; refine (within_any _ _ _ _).mono ?_; rintro e w' ⟨rfl, rfl⟩)
        go_ret
        exact ⟨ret_bool (by simp [isCapS, h1, h4]), rfl⟩
theorem cap_any (x p : Int) (hp : Pg p) (w : World) (h0 : 0 ≤ x) (h255 : x ≤ 255) : Calls Tryz.prog 137 #[.int .u8 x, .int .i64 p] w fun e w' => e = .returned (.tuple #[.int .u8 (upS_ x p), .bool (isSmallS x p)]) ∧ w = w' := by
  rcases hp with rfl | rfl | rfl
  · rcases Bool.eq_false_or_eq_true (withinB x 97 122) with h1 | h1
    · go_enter Tryz.func137, Tryz.ntmps137
      go_wp2_with (go_at_call 139; refine (within_any _ _ _ _).mono ?_; rintro e w' ⟨rfl, rfl⟩)
      go_ret2
      exact ⟨ret_bb (by simp [upS_, isSmallA, isSmallB, h1]; try (simp [withinB] at h1; omega)) (by simp [isSmallS, isSmallA, isSmallB, h1]), rfl⟩
    · go_enter Tryz.func137, Tryz.ntmps137
      go_wp2_with (go_at_call 139; refine (within_any _ _ _ _).mono ?_; rintro e w' ⟨rfl, rfl⟩)
      go_ret2
      exact ⟨ret_bb (by simp [upS_, isSmallA, isSmallB, h1]; try (simp [withinB] at h1; omega)) (by simp [isSmallS, isSmallA, isSmallB, h1]), rfl⟩
  · rcases Bool.eq_false_or_eq_true (withinB x 97 122) with h1 | h1
    · rcases Bool.eq_false_or_eq_true (withinB x 224 254) with h2 | h2
      · rcases Bool.eq_false_or_eq_true (x != 247) with h3 | h3
        · go_enter Tryz.func137, Tryz.ntmps137
          go_wp2_with (go_at_call 139; refine (within_any _ _ _ _).mono ?_; rintro e w' ⟨rfl, rfl⟩)
          go_ret2
          exact ⟨ret_bb (by simp [upS_, isSmallA, isSmallB, h1, h2, h3]; try (simp [withinB] at h1 h2 h3; omega)) (by simp [isSmallS, isSmallA, isSmallB, h1, h2, h3]), rfl⟩
        · go_enter Tryz.func137, Tryz.ntmps137
          go_wp2_with (go_at_call 139; refine (within_any _ _ _ _).mono ?_; rintro e w' ⟨rfl, rfl⟩)
          go_ret2
          exact ⟨ret_bb (by simp [upS_, isSmallA, isSmallB, h1, h2, h3]; try (simp [withinB] at h1 h2 h3; omega)) (by simp [isSmallS, isSmallA, isSmallB, h1, h2, h3]), rfl⟩
      · rcases Bool.eq_false_or_eq_true (x != 247) with h3 | h3
        · go_enter Tryz.func137, Tryz.ntmps137
          go_wp2_with (go_at_call 139; refine (within_any _ _ _ _).mono ?_; rintro e w' ⟨rfl, rfl⟩)
          go_ret2
          exact ⟨ret_bb (by simp [upS_, isSmallA, isSmallB, h1, h2, h3]; try (simp [withinB] at h1 h2 h3; omega)) (by simp [isSmallS, isSmallA, isSmallB, h1, h2, h3]), rfl⟩
        · go_enter Tryz.func137, Tryz.ntmps137
          go_wp2_with (go_at_call 139; refine (within_any _ _ _ _).mono ?_; rintro e w' ⟨rfl, rfl⟩)
          go_ret2
          exact ⟨ret_bb (by simp [upS_, isSmallA, isSmallB, h1, h2, h3]; try (simp [withinB] at h1 h2 h3; omega)) (by simp [isSmallS, isSmallA, isSmallB, h1, h2, h3]), rfl⟩
    · rcases Bool.eq_false_or_eq_true (withinB x 224 254) with h2 | h2
      · rcases Bool.eq_false_or_eq_true (x != 247) with h3 | h3
        · go_enter Tryz.func137, Tryz.ntmps137
          go_wp2_with (go_at_call 139; refine (within_any _ _ _ _).mono ?_; rintro e w' ⟨rfl, rfl⟩)
          go_ret2
          exact ⟨ret_bb (by simp [upS_, isSmallA, isSmallB, h1, h2, h3]; try (simp [withinB] at h1 h2 h3; omega)) (by simp [isSmallS, isSmallA, isSmallB, h1, h2, h3]), rfl⟩
        · go_enter Tryz.func137, Tryz.ntmps137
          go_wp2_with (go_at_call 139; refine (within_any _ _ _ _).mono ?_; rintro e w' ⟨rfl, rfl⟩)
          go_ret2
          exact ⟨ret_bb (by simp [upS_, isSmallA, isSmallB, h1, h2, h3]; try (simp [withinB] at h1 h2 h3; omega)) (by simp [isSmallS, isSmallA, isSmallB, h1, h2, h3]), rfl⟩
      · rcases Bool.eq_false_or_eq_true (x != 247) with h3 | h3
        · go_enter Tryz.func137, Tryz.ntmps137
          go_wp2_with (go_at_call 139; refine (within_any _ _ _ _).mono ?_; rintro e w' ⟨rfl, rfl⟩)
          go_ret2
          exact ⟨ret_bb (by simp [upS_, isSmallA, isSmallB, h1, h2, h3]; try (simp [withinB] at h1 h2 h3; omega)) (by simp [isSmallS, isSmallA, isSmallB, h1, h2, h3]), rfl⟩
        · go_enter Tryz.func137, Tryz.ntmps137
          go_wp2_with (go_at_call 139; refine (within_any _ _ _ _).mono ?_; rintro e w' ⟨rfl, rfl⟩)
          go_ret2
          exact ⟨ret_bb (by simp [upS_, isSmallA, isSmallB, h1, h2, h3]; try (simp [withinB] at h1 h2 h3; omega)) (by simp [isSmallS, isSmallA, isSmallB, h1, h2, h3]), rfl⟩
  · rcases Bool.eq_false_or_eq_true (withinB x 97 122) with h1 | h1
    · rcases Bool.eq_false_or_eq_true (withinB x 160 175) with h4 | h4
      · rcases Bool.eq_false_or_eq_true (withinB x 224 239) with h5 | h5
        · go_enter Tryz.func137, Tryz.ntmps137
          go_wp2_with (go_at_call 139; refine (within_any _ _ _ _).mono ?_; rintro e w' ⟨rfl, rfl⟩)
          go_ret2
          exact ⟨ret_bb (by simp [upS_, isSmallA, isSmallB, h1, h4, h5]; try (simp [withinB] at h1 h4 h5; omega)) (by simp [isSmallS, isSmallA, isSmallB, h1, h4, h5]), rfl⟩
        · go_enter Tryz.func137, Tryz.ntmps137
          go_wp2_with (go_at_call 139; refine (within_any _ _ _ _).mono ?_; rintro e w' ⟨rfl, rfl⟩)
          go_ret2
          exact ⟨ret_bb (by simp [upS_, isSmallA, isSmallB, h1, h4, h5]; try (simp [withinB] at h1 h4 h5; omega)) (by simp [isSmallS, isSmallA, isSmallB, h1, h4, h5]), rfl⟩
      · rcases Bool.eq_false_or_eq_true (withinB x 224 239) with h5 | h5
        · go_enter Tryz.func137, Tryz.ntmps137
          go_wp2_with (go_at_call 139; refine (within_any _ _ _ _).mono ?_; rintro e w' ⟨rfl, rfl⟩)
          go_ret2
          exact ⟨ret_bb (by simp [upS_, isSmallA, isSmallB, h1, h4, h5]; try (simp [withinB] at h1 h4 h5; omega)) (by simp [isSmallS, isSmallA, isSmallB, h1, h4, h5]), rfl⟩
        · go_enter Tryz.func137, Tryz.ntmps137
          go_wp2_with (go_at_call 139; refine (within_any _ _ _ _).mono ?_; rintro e w' ⟨rfl, rfl⟩)
          go_ret2
          exact ⟨ret_bb (by simp [upS_, isSmallA, isSmallB, h1, h4, h5]; try (simp [withinB] at h1 h4 h5; omega)) (by simp [isSmallS, isSmallA, isSmallB, h1, h4, h5]), rfl⟩
    · rcases Bool.eq_false_or_eq_true (withinB x 160 175) with h4 | h4
      · rcases Bool.eq_false_or_eq_true (withinB x 224 239) with h5 | h5
        · go_enter Tryz.func137, Tryz.ntmps137
          go_wp2_with (go_at_call 139; refine (within_any _ _ _ _).mono ?_; rintro e w' ⟨rfl, rfl⟩)
          go_ret2
          exact ⟨ret_bb (by simp [upS_, isSmallA, isSmallB, h1, h4, h5]; try (simp [withinB] at h1 h4 h5; omega)) (by simp [isSmallS, isSmallA, isSmallB, h1, h4, h5]), rfl⟩
        · go_enter Tryz.func137, Tryz.ntmps137
          go_wp2_with (go_at_call 139; refine (within_any _ _ _ _).mono ?_; rintro e w' ⟨rfl, rfl⟩)
          go_ret2
          exact ⟨ret_bb (by simp [upS_, isSmallA, isSmallB, h1, h4, h5]; try (simp [withinB] at h1 h4 h5; omega)) (by simp [isSmallS, isSmallA, isSmallB, h1, h4, h5]), rfl⟩
      · rcases Bool.eq_false_or_eq_true (withinB x 224 239) with h5 | h5
        · go_enter Tryz.func137, Tryz.ntmps137
          go_wp2_with (go_at_call 139; refine (within_any _ _ _ _).mono ?_; rintro e w' ⟨rfl, rfl⟩)
          go_ret2
          exact ⟨ret_bb (by simp [upS_, isSmallA, isSmallB, h1, h4, h5]; try (simp [withinB] at h1 h4 h5; omega)) (by simp [isSmallS, isSmallA, isSmallB, h1, h4, h5]), rfl⟩
        · go_enter Tryz.func137, Tryz.ntmps137
          go_wp2_with (go_at_call 139; refine (within_any _ _ _ _).mono ?_; rintro e w' ⟨rfl, rfl⟩)
          go_ret2
          exact ⟨ret_bb (by simp [upS_, isSmallA, isSmallB, h1, h4, h5]; try (simp [withinB] at h1 h4 h5; omega)) (by simp [isSmallS, isSmallA, isSmallB, h1, h4, h5]), rfl⟩
theorem isLet_any (x p : Int) (hp : Pg p) (w : World) (h0 : 0 ≤ x) (h255 : x ≤ 255) : Calls Tryz.prog 123 #[.int .u8 x, .int .i64 p] w fun e w' => e = .returned (.bool (isLetS x p)) ∧ w = w' := by
  rcases Bool.eq_false_or_eq_true (isSmallS x p) with h | h
  · go_enter Tryz.func123, Tryz.ntmps123
    go_wp2_with fail
    refine (cap_any _ _ hp _ h0 h255).mono ?_
    rintro e w' ⟨rfl, rfl⟩
    go_wp2_with fail
    go_ret
    exact ⟨ret_bool (by simp [isLetS, h]), rfl⟩
  · go_enter Tryz.func123, Tryz.ntmps123
    go_wp2_with fail
    refine (cap_any _ _ hp _ h0 h255).mono ?_
    rintro e w' ⟨rfl, rfl⟩
    go_wp2_with fail
    refine (isCap_any _ _ hp _).mono ?_
    rintro e w' ⟨rfl, rfl⟩
    go_wp2_with fail
    go_ret
    exact ⟨ret_bool (by simp [isLetS, h]), rfl⟩
theorem upper_any (x p : Int) (hp : Pg p) (w : World) (h0 : 0 ≤ x) (h255 : x ≤ 255) : Calls Tryz.prog 124 #[.int .u8 x, .int .i64 p] w fun e w' => e = .returned (.int .u8 (upS_ x p)) ∧ w = w' := by
  go_enter Tryz.func124, Tryz.ntmps124
  go_wp2_with fail
  refine (cap_any _ _ hp _ h0 h255).mono ?_
  rintro e w' ⟨rfl, rfl⟩
  go_wp2_with fail
  go_ret
  exact ⟨rfl, rfl⟩
def plainS (x : Int) : Int :=
  if withinB x 192 197 then 65 else if x == 199 then 67 else if withinB x 200 203 then 69 else if withinB x 204 207 then 73 else if x == 209 then 78 else
  if withinB x 210 214 then 79 else if withinB x 217 220 then 85 else if x == 221 then 89 else x
def weightS (x p c : Int) : Int := if c == 0 || !isLetS x p then x else if p == 1 then plainS (upS_ x p) else upS_ x p
theorem plain_any (x : Int) (w : World) : Calls Tryz.prog 125 #[.int .u8 x] w fun e w' => e = .returned (.int .u8 (plainS x)) ∧ w = w' := by
  rcases Bool.eq_false_or_eq_true (withinB x 192 197) with a1 | a1
  · go_enter Tryz.func125, Tryz.ntmps125
    go_wp2_with (go_at_call 139; refine (within_any _ _ _ _).mono ?_; rintro e w' ⟨rfl, rfl⟩)
    go_ret
    exact ⟨ret_int (by simp [plainS, a1]), rfl⟩
  · rcases Bool.eq_false_or_eq_true (x == 199) with a2 | a2
    · go_enter Tryz.func125, Tryz.ntmps125
      go_wp2_with (go_at_call 139; refine (within_any _ _ _ _).mono ?_; rintro e w' ⟨rfl, rfl⟩)
      go_ret
      exact ⟨ret_int (by simp [plainS, a1, a2]), rfl⟩
    · rcases Bool.eq_false_or_eq_true (withinB x 200 203) with a3 | a3
      · go_enter Tryz.func125, Tryz.ntmps125
        go_wp2_with (go_at_call 139; refine (within_any _ _ _ _).mono ?_; rintro e w' ⟨rfl, rfl⟩)
        go_ret
        exact ⟨ret_int (by simp [plainS, a1, a2, a3]), rfl⟩
      · rcases Bool.eq_false_or_eq_true (withinB x 204 207) with a4 | a4
        · go_enter Tryz.func125, Tryz.ntmps125
          go_wp2_with (go_at_call 139; refine (within_any _ _ _ _).mono ?_; rintro e w' ⟨rfl, rfl⟩)
          go_ret
          exact ⟨ret_int (by simp [plainS, a1, a2, a3, a4]), rfl⟩
        · rcases Bool.eq_false_or_eq_true (x == 209) with a5 | a5
          · go_enter Tryz.func125, Tryz.ntmps125
            go_wp2_with (go_at_call 139; refine (within_any _ _ _ _).mono ?_; rintro e w' ⟨rfl, rfl⟩)
            go_ret
            exact ⟨ret_int (by simp [plainS, a1, a2, a3, a4, a5]), rfl⟩
          · rcases Bool.eq_false_or_eq_true (withinB x 210 214) with a6 | a6
            · go_enter Tryz.func125, Tryz.ntmps125
              go_wp2_with (go_at_call 139; refine (within_any _ _ _ _).mono ?_; rintro e w' ⟨rfl, rfl⟩)
              go_ret
              exact ⟨ret_int (by simp [plainS, a1, a2, a3, a4, a5, a6]), rfl⟩
            · rcases Bool.eq_false_or_eq_true (withinB x 217 220) with a7 | a7
              · go_enter Tryz.func125, Tryz.ntmps125
                go_wp2_with (go_at_call 139; refine (within_any _ _ _ _).mono ?_; rintro e w' ⟨rfl, rfl⟩)
                go_ret
                exact ⟨ret_int (by simp [plainS, a1, a2, a3, a4, a5, a6, a7]), rfl⟩
              · rcases Bool.eq_false_or_eq_true (x == 221) with a8 | a8
                · go_enter Tryz.func125, Tryz.ntmps125
                  go_wp2_with (go_at_call 139; refine (within_any _ _ _ _).mono ?_; rintro e w' ⟨rfl, rfl⟩)
                  go_ret
                  exact ⟨ret_int (by simp [plainS, a1, a2, a3, a4, a5, a6, a7, a8]), rfl⟩
                · go_enter Tryz.func125, Tryz.ntmps125
                  go_wp2_with (go_at_call 139; refine (within_any _ _ _ _).mono ?_; rintro e w' ⟨rfl, rfl⟩)
                  go_ret
                  exact ⟨ret_int (by simp [plainS, a1, a2, a3, a4, a5, a6, a7, a8]), rfl⟩
theorem upS_rng {x p : Int} (h0 : 0 ≤ x) (h255 : x ≤ 255) : 0 ≤ upS_ x p ∧ upS_ x p ≤ 255 := by
  unfold upS_
  split
  · rename_i h; simp [isSmallA, withinB] at h; omega
  · split
    · rename_i h; simp [isSmallB, withinB] at h; omega
    · omega
theorem weight_any (x p c : Int) (hp : Pg p) (w : World) (h0 : 0 ≤ x) (h255 : x ≤ 255) : Calls Tryz.prog 91 #[.int .u8 x, .int .i64 p, .int .i64 c] w fun e w' => e = .returned (.int .u8 (weightS x p c)) ∧ w = w' := by
  rcases Bool.eq_false_or_eq_true (c == 0) with hc | hc
  · go_enter Tryz.func91, Tryz.ntmps91
    go_wp2_with fail
    go_ret
    exact ⟨ret_int (by simp [weightS, hc]), rfl⟩
  · rcases Bool.eq_false_or_eq_true (isLetS x p) with hl | hl
    · rcases Bool.eq_false_or_eq_true (p == 1) with h1 | h1
      · go_enter Tryz.func91, Tryz.ntmps91
        go_wp2_with fail
        refine (isLet_any _ _ hp _ h0 h255).mono ?_
        rintro e w' ⟨rfl, rfl⟩
        go_wp2_with fail
        refine (upper_any _ _ hp _ h0 h255).mono ?_
        rintro e w' ⟨rfl, rfl⟩
        go_wp2_with fail
        refine (plain_any _ _).mono ?_
        rintro e w' ⟨rfl, rfl⟩
        go_wp2_with fail
        go_ret
        exact ⟨ret_int (by simp [weightS, hc, hl, h1]), rfl⟩
      · go_enter Tryz.func91, Tryz.ntmps91
        go_wp2_with fail
        refine (isLet_any _ _ hp _ h0 h255).mono ?_
        rintro e w' ⟨rfl, rfl⟩
        go_wp2_with fail
        refine (upper_any _ _ hp _ h0 h255).mono ?_
        rintro e w' ⟨rfl, rfl⟩
        go_wp2_with fail
        go_ret
        exact ⟨ret_int (by simp [weightS, hc, hl, h1]), rfl⟩
    · go_enter Tryz.func91, Tryz.ntmps91
      go_wp2_with fail
      refine (isLet_any _ _ hp _ h0 h255).mono ?_
      rintro e w' ⟨rfl, rfl⟩
      go_wp2_with fail
      go_ret
      exact ⟨ret_int (by simp [weightS, hl]), rfl⟩
def strs (l : List ByteArray) : List Value := l.map Value.string
def RdS (w : World) (A : Option Addr) (n c : Nat) (l : List ByteArray) : Prop := Rd w 1 A n c (strs l)
def sth (l : List ByteArray) (k : Nat) : ByteArray := l.getD k ByteArray.empty
section
variable {w w' : World} {n c : Nat} {A : Option Addr} {l : List ByteArray}
theorem RdS.len (h : RdS w A n c l) : l.length = n := by have := h.1; simpa [strs] using this
theorem RdS.max (h : RdS w A n c l) : n ≤ 9223372036854775807 ∧ n ≤ c ∧ c ≤ 9223372036854775807 := Rd.max h
theorem RdS.at_ (h : RdS w A n c l) {k : Nat} (hk : k < n) : ∃ ad, A = some ad ∧ w.cell? (ad.add k) = some (.string (sth l k)) := by
  obtain ⟨ad, hA, hc⟩ := h.2.2.2 (by omega)
  have hl := h.len
  exact ⟨ad, hA, hc k _ (by simp [strs, sth, List.getD, hl, hk])⟩
theorem RdS.ext (h : RdS w A n c l) (hb : Ext w w') : RdS w' A n c l := Rd.ext h hb
end
theorem Rd.new_ (w : World) (cs : List Value) (t : TypeId) (n : Nat) (hn : cs.length = n) (hm : n ≤ maxLen) : Rd (w.alloc (.cells cs.toArray t)) 1 (some ⟨w.heap.size, 0, none⟩) n n cs :=
  ⟨by omega, Nat.le_refl _, hm, fun _ => ⟨_, rfl, World.news_of_block (cs := cs.toArray) (heap_alloc_new w _)⟩⟩
theorem RdS.new1 (w : World) (s : ByteArray) (t : TypeId) : RdS (w.alloc (.cells #[.string s] t)) (some ⟨w.heap.size, 0, none⟩) 1 1 [s] := Rd.new_ w [.string s] t 1 rfl (by decide)
theorem RdS.new2 (w : World) (s u : ByteArray) (t : TypeId) : RdS (w.alloc (.cells #[.string s, .string u] t)) (some ⟨w.heap.size, 0, none⟩) 2 2 [s, u] := Rd.new_ w [.string s, .string u] t 2 rfl (by decide)
def longTo (l : List ByteArray) (k : Nat) : Bool := (l.take k).any fun s => decide (2048 < s.size)
theorem longTo_succ (l : List ByteArray) (k : Nat) (hk : k < l.length) : longTo l (k + 1) = (longTo l k || decide (2048 < (sth l k).size)) := by
  unfold longTo
  rw [List.take_succ_eq_append_getElem hk, List.any_append, show sth l k = l[k] by simp [sth, List.getD, hk]]
  simp only [List.any_cons, List.any_nil, Bool.or_false]
theorem long_of (l : List ByteArray) (k : Nat) (hk : k < l.length) (h : 2048 < (sth l k).size) : longTo l l.length = true := by
  unfold longTo
  rw [List.take_length, List.any_eq_true]
  exact ⟨sth l k, by simp [sth, List.getD, hk], by simpa using h⟩
def pgB (p : Int) : Bool := decide (p < 0) || decide (2 < p)
def askE (p : Int) (l : List ByteArray) : Int := if longTo l l.length then 3 else if pgB p then 1 else 0
theorem asked_any (p : Int) (A : Option Addr) (n c : Nat) (l : List ByteArray) (w : World) (hs : RdS w A n c l) :
    Calls Tryz.prog 89 #[.int .i64 p, .slice A n c] w fun e w' => e = .returned (.int .i64 (askE p l)) ∧ w = w' := by
  have Hl := hid hs.len
  have hm := hs.max
  go_enter Tryz.func89, Tryz.ntmps89
  go_wp2_with fail
  go_loopw [9] (fun i wr => (∃ k : Nat, k ≤ n ∧ i = .int .i64 k ∧ Hid (longTo l k = false)) ∧ wr = w) (fun i _ => n - (intOf i).toNat)
  case atStart => exact ⟨⟨0, by omega, rfl, (rfl : longTo l 0 = false)⟩, rfl⟩
  case round =>
    obtain ⟨⟨k, hk, rfl, hno⟩, rfl⟩ := hrel
    by_cases hlt : k < n
    · obtain ⟨ad, rfl, hc⟩ := hs.at_ hlt
      have hlt' : k < l.length := by rw [Hl.out]; exact hlt
      by_cases hbig : 2048 < (sth l k).size
      · have Fin : Hid (askE p l = 3) := by unfold Hid askE; rw [long_of l k hlt' hbig]; rfl
        have e1 : decide ((2048 : Int) < ((sth l k).size : Int)) = true := by simp; omega
        clear hlt' hbig
        go_wp2
        go_ret
        exact ⟨ret_int Fin.out.symm, rfl⟩
      · have e1 : decide ((2048 : Int) < ((sth l k).size : Int)) = false := by simp; omega
        have hn2 : Hid (longTo l (k + 1) = false) := by unfold Hid; rw [longTo_succ l k hlt', hno.out]; simp; omega
        clear hlt' hbig
        go_wp2
        go_roundw
        case rel => exact ⟨⟨k + 1, by omega, by go_num, hn2⟩, by trivial⟩
        case measure => simp [intOf]; omega
    · have hno' : Hid (longTo l l.length = false) := by
        have e : k = l.length := by rw [Hl.out]; omega
        rw [← e]; exact hno
      by_cases h1 : p < 0
      · have e1 : decide (p < 0) = true := by simpa using h1
        have Fin : Hid (askE p l = 1) := by unfold Hid askE pgB; rw [hno'.out, e1]; rfl
        clear h1
        go_wp2
        go_ret
        exact ⟨ret_int Fin.out.symm, rfl⟩
      · have e1 : decide (p < 0) = false := by simpa using h1
        by_cases h2 : 2 < p
        · have e2 : decide (2 < p) = true := by simpa using h2
          have Fin : Hid (askE p l = 1) := by unfold Hid askE pgB; rw [hno'.out, e1, e2]; rfl
          clear h1 h2
          go_wp2
          go_ret
          exact ⟨ret_int Fin.out.symm, rfl⟩
        · have e2 : decide (2 < p) = false := by simpa using h2
          have Fin : Hid (askE p l = 0) := by unfold Hid askE pgB; rw [hno'.out, e1, e2]; rfl
          clear h1 h2
          go_wp2
          go_ret
          exact ⟨ret_int Fin.out.symm, rfl⟩
def byt (b : UInt8) : Value := .int .u8 (b.toNat : Int)
def bytesC (l : List UInt8) : List Value := l.map byt
def RdB (w : World) (A : Option Addr) (n c : Nat) (l : List UInt8) : Prop := Rd w 1 A n c (bytesC l)
theorem RdB.len {w : World} {A : Option Addr} {n c : Nat} {l : List UInt8} (h : RdB w A n c l) : l.length = n := by have := h.1; simpa [bytesC] using this
theorem RdB.ext {w w' : World} {A : Option Addr} {n c : Nat} {l : List UInt8} (h : RdB w A n c l) (hb : Ext w w') : RdB w' A n c l := Rd.ext h hb
def bOf (x : Int) : UInt8 := UInt8.ofNat x.toNat
theorem bOf_val (x : Int) (h0 : 0 ≤ x) (h1 : x ≤ 255) : ((bOf x).toNat : Int) = x := by
  unfold bOf
  rw [UInt8.toNat_ofNat']
  omega
def bth (l : List UInt8) (k : Nat) : Int := ((l.getD k 0).toNat : Int)
theorem bth_in (l : List UInt8) (k : Nat) : 0 ≤ bth l k ∧ bth l k ≤ 255 := by unfold bth; have := (l.getD k 0).toNat_lt; omega
def strB (l : List UInt8) : ByteArray := ⟨l.toArray⟩
theorem strB_toList (l : List UInt8) : (strB l).toList = l := by rw [ByteArray.toList_eq]; rfl
def Bk (w : World) (g n : Nat) (l : List UInt8) : Prop := l.length = n ∧ ∀ j, j < n → w.cell? ⟨g, j, none⟩ = some (.int .u8 (bth l j)) ∧ w.frozen? ⟨g, j, none⟩ = false
theorem Bk.ext {w w' : World} {g n : Nat} {l : List UInt8} (h : Bk w g n l) (hb : Ext w w') : Bk w' g n l := ⟨h.1, fun j hj => ⟨hb.cell (h.2 j hj).1, by rw [hb.frozen (World.block_lt_of_cell? w _ (h.2 j hj).1)]; exact (h.2 j hj).2⟩⟩
theorem Bk.set {w : World} {g n : Nat} {l : List UInt8} (h : Bk w g n l) {k : Nat} (hk : k < n) (x : Int) (h0 : 0 ≤ x) (h1 : x ≤ 255) : Bk (w.setCell ⟨g, k, none⟩ (.int .u8 x)) g n (l.set k (bOf x)) := by
  refine ⟨by rw [List.length_set]; exact h.1, fun j hj => ⟨?_, by rw [World.frozen?_setCell]; exact (h.2 j hj).2⟩⟩
  have hl := h.1
  by_cases e : j = k
  · subst e
    rw [World.cell?_setCell_same _ _ _ (h.2 j hj).1]
    simp [bth, List.getD, hl, hj, bOf_val x h0 h1]
  · rw [World.cell?_setCell_other _ _ _ _ (by intro e'; injection e' with _ e' _; exact e e'.symm), (h.2 j hj).1]
    simp [bth, List.getD, List.getElem?_set, Ne.symm e]
theorem Bk.rd {w : World} {g n c : Nat} {l : List UInt8} (h : Bk w g n l) (hc : n ≤ c) (hm : c ≤ maxLen) : RdB w (some ⟨g, 0, none⟩) n c l := by
  refine ⟨by simp [bytesC]; exact h.1, hc, hm, fun _ => ⟨_, rfl, fun j u hu => ?_⟩⟩
  have hj : j < n := by have := (List.getElem?_eq_some_iff.1 hu).1; simp [bytesC] at this; have := h.1; omega
  have hadd : (⟨g, 0, none⟩ : Addr).add j = ⟨g, j, none⟩ := by unfold Addr.add; split <;> simp_all
  have hl := h.1
  rw [hadd, (h.2 j hj).1, ← hu]
  simp [bytesC, byt, bth, List.getD, hl, hj]
def capB (w : World) (s : ByteArray) : Nat := grownCap w s.size 0 5
def newB (w : World) (s : ByteArray) : World := w.drew.alloc (.cells (bytesRow s (capB w s)) 5 ((bytesRow s (capB w s)).size, (bytesRow s (capB w s)).size + 1))
theorem conv_new (w : World) (s : ByteArray) : (convert 9 84 (.string s)).run Tryz.prog w = .ok (.slice (some ⟨w.heap.size, 0, none⟩) s.size (capB w s)) (newB w s) :=
  run_bytes_of_string w 9 84 5 s Tryz.underlying9 Tryz.underlying84 Tryz.underlying5
theorem newB_ext (w : World) (s : ByteArray) : Ext w (newB w s) := Ext.alloc_right ((Ext.refl w).drew_right) _
theorem capB_in (w : World) (s : ByteArray) (h : s.size ≤ 1000000) : s.size ≤ capB w s ∧ capB w s ≤ maxLen := ⟨grownCap_ge _ _ _ _, grownCap_le_maxLen _ _ _ _ (by unfold maxLen; omega)⟩
theorem newB_bk (w : World) (s : ByteArray) : Bk (newB w s) w.heap.size s.size s.toList := by
  have hb : (newB w s).heap[w.heap.size]? = some (.cells (bytesRow s (capB w s)) 5 ((bytesRow s (capB w s)).size, (bytesRow s (capB w s)).size + 1)) := heap_alloc_new w.drew _
  have hc := grownCap_ge w s.size 0 5
  have hsz : s.toList.length = s.size := by rw [ByteArray.toList_eq]; rfl
  have hrow : s.size ≤ (bytesRow s (capB w s)).size := by unfold bytesRow; rw [Array.size_append, Array.size_map]; exact Nat.le_add_right _ _
  refine ⟨hsz, fun j hj => ⟨?_, ?_⟩⟩
  · rw [cell_of_row _ w.heap.size j _ 5 _ hb]
    have hj' : j < s.data.size := hj
    unfold bytesRow
    rw [Array.getElem?_append_left (by rw [Array.size_map]; exact hj'), Array.getElem?_map]
    simp [bth, List.getD, ByteArray.toList_eq]
    have hd : s.data[j]? = some s.data[j] := by simp [hj']
    exact ⟨s.data[j], hd, by rw [hd]; rfl⟩
  · unfold World.frozen?
    rw [hb]
    simp
    intro h
    omega
attribute [local go_sem] conv_new
theorem conv_RdB {w : World} {A : Option Addr} {n c : Nat} {l : List UInt8} (h : RdB w A n c l) : (convert 84 9 (.slice A n c)).run Tryz.prog w = .ok (.string (strB l)) w := by
  have hl := h.len
  rcases A with _ | ad
  · have h0 : n = 0 := by
      rcases Nat.eq_zero_or_pos n with h0 | h0
      · exact h0
      · obtain ⟨ad, e, _⟩ := h.2.2.2 h0
        cases e
    subst h0
    have : l = [] := List.eq_nil_of_length_eq_zero hl
    subst this
    exact run_convert_bytes_nil w 84 5 Tryz.underlying84 Tryz.underlying5 0 c 9 Tryz.underlying9
  · subst hl
    exact run_convert_bytes_back w 84 9 5 ad c l Tryz.underlying84 Tryz.underlying5 Tryz.underlying9 (fun j hj => by
      obtain ⟨ad', e, hc⟩ := h.2.2.2 (by omega)
      injection e with e
      subst e
      refine hc j _ ?_
      simp [bytesC, byt, hj])
def mpTo (f : Int → Int) (l : List UInt8) (k : Nat) : List UInt8 := (l.take k).map (fun b => bOf (f (b.toNat : Int))) ++ l.drop k
theorem mpTo_at (f : Int → Int) (l : List UInt8) (k : Nat) (hk : k < l.length) : bth (mpTo f l k) k = bth l k := by
  simp [mpTo, bth, List.getD, List.getElem?_append_right, Nat.min_eq_left (Nat.le_of_lt hk)]
theorem mpTo_succ (f : Int → Int) (l : List UInt8) (k : Nat) (hk : k < l.length) : (mpTo f l k).set k (bOf (f (bth l k))) = mpTo f l (k + 1) := by
  unfold mpTo
  rw [List.set_append_right _ _ (by simp; omega), List.take_succ_eq_append_getElem hk, List.map_append]
  simp only [List.length_map, List.length_take, Nat.min_eq_left (Nat.le_of_lt hk), Nat.sub_self]
  rw [List.drop_eq_getElem_cons hk, List.set_cons_zero, List.append_assoc]
  simp [bth, List.getD, hk]
def mapS (f : Int → Int) (s : ByteArray) : ByteArray := strB (s.toList.map fun b => bOf (f (b.toNat : Int)))
theorem mpTo_all (f : Int → Int) (l : List UInt8) : mpTo f l l.length = l.map fun b => bOf (f (b.toNat : Int)) := by simp [mpTo]
theorem plain_rng {x : Int} (h0 : 0 ≤ x) (h255 : x ≤ 255) : 0 ≤ plainS x ∧ plainS x ≤ 255 := by
  unfold plainS
  repeat' split
  all_goals omega
theorem weight_rng {x p c : Int} (hp : Pg p) (h0 : 0 ≤ x) (h255 : x ≤ 255) : 0 ≤ weightS x p c ∧ weightS x p c ≤ 255 := by
  have hu := upS_rng (p := p) h0 h255
  have hq := plain_rng hu.1 hu.2
  unfold weightS
  repeat' split
  all_goals omega
theorem weights_any (s : ByteArray) (p c : Int) (hp : Pg p) (hsz : s.size ≤ 1000000) (w : World) :
    Calls Tryz.prog 56 #[.string s, .int .i64 p, .int .i64 c] w fun e w' => e = .returned (.string (mapS (fun x => weightS x p c) s)) ∧ Ext w w' := by
  have hcap := capB_in w s hsz
  have hB := hid (newB_bk w s)
  have hE := hid (newB_ext w s)
  have hlen : Hid (s.toList.length = s.size) := hB.out.1
  have hg : w.heap.size < (newB w s).heap.size := by simp [newB]
  have hfin := hid (mpTo_all (fun x => weightS x p c) s.toList)
  go_enter Tryz.func56, Tryz.ntmps56
  go_wp2_with fail
  go_loopw [14] (fun i wr => ∃ k : Nat, k ≤ s.size ∧ i = .int .i64 k ∧ Hid (Bk wr w.heap.size s.size (mpTo (fun x => weightS x p c) s.toList k)) ∧ Hid (Ext w wr)) (fun i _ => s.size - (intOf i).toNat)
  case atStart => exact ⟨0, by omega, rfl, hB, hE⟩
  case round =>
    obtain ⟨k, hk, rfl, hb, hx⟩ := hrel
    by_cases hlt : k < s.size
    · have hlt' : k < s.toList.length := by rw [hlen.out]; exact hlt
      have hc := (hb.out.2 k hlt).1
      have hfree := (hb.out.2 k hlt).2
      rw [mpTo_at _ _ k hlt'] at hc
      have hr := bth_in s.toList k
      have hst := hid (mpTo_succ (fun x => weightS x p c) s.toList k hlt')
      clear hlt'
      go_wp2_with fail
      refine (weight_any _ _ _ hp _ hr.1 hr.2).mono ?_
      rintro e w' ⟨rfl, rfl⟩
      have hw := weight_rng (c := c) hp hr.1 hr.2
      have hb2 := hid (hb.out.set hlt (weightS (bth s.toList k) p c) hw.1 hw.2)
      have hx2 := hid (hx.out.set (p := ⟨w.heap.size, k, none⟩) (Nat.le_refl _) (.int .u8 (weightS (bth s.toList k) p c)))
      go_wp2
      go_roundw
      case rel => exact ⟨k + 1, by omega, by go_num, by rw [← hst.out]; exact hb2, hx2⟩
      case measure => simp [intOf]; omega
    · obtain rfl : k = s.size := by omega
      have hrd := hb.out.rd hcap.1 hcap.2
      have hcv := conv_RdB hrd
      rw [← hlen.out, hfin.out] at hcv
      rw [hlen.out] at hcv
      have hmap : strB (s.toList.map fun b => bOf (weightS (b.toNat : Int) p c)) = mapS (fun x => weightS x p c) s := rfl
      rw [hmap] at hcv
      clear hmap hrd
      go_wp2
      go_ret
      exact ⟨rfl, hx.out⟩
attribute [local go_sem] conv_new
def GiveSN (s : ByteArray) (x : Int) (w : World) (e : Ending) (w' : World) : Prop := e = .returned (.tuple #[.string s, .int .i64 x]) ∧ Ext w w'
theorem ask_ok {p : Int} {s : ByteArray} (h : askE p [s] = 0) : s.size ≤ 2048 ∧ Pg p := by
  unfold askE at h
  split at h
  · cases h
  · rename_i h1
    split at h
    · cases h
    · rename_i h2
      refine ⟨?_, ?_⟩
      · have : ¬ 2048 < s.size := by
          intro h3
          exact h1 (by simp [longTo, h3])
        omega
      · unfold Pg
        simp [pgB] at h2
        omega
def okA (p : Int) (s : ByteArray) (t : ByteArray) : ByteArray := if askE p [s] = 0 then t else ByteArray.empty
def askC (p c : Int) (l : List ByteArray) : Int := if askE p l = 0 then (if c < 0 ∨ 1 < c then 1 else 0) else askE p l
theorem askedColl_any (p c : Int) (A : Option Addr) (n cp : Nat) (l : List ByteArray) (w : World) (hs : RdS w A n cp l) :
    Calls Tryz.prog 54 #[.int .i64 p, .int .i64 c, .slice A n cp] w fun e w' => e = .returned (.int .i64 (askC p c l)) ∧ w = w' := by
  by_cases h : askE p l = 0
  · have e1 : (askE p l != 0) = false := by simp [h]
    by_cases h1 : c < 0
    · have d1 : decide (c < 0) = true := by simpa using h1
      have Fin : Hid (askC p c l = 1) := by unfold Hid askC; rw [if_pos h, if_pos (Or.inl h1)]
      clear h h1
      go_enter Tryz.func54, Tryz.ntmps54
      go_wp2_with fail
      refine (asked_any p _ _ _ _ _ hs).mono ?_
      rintro e w1 ⟨rfl, rfl⟩
      go_wp2
      go_ret
      exact ⟨ret_int Fin.out.symm, rfl⟩
    · have d1 : decide (c < 0) = false := by simpa using h1
      by_cases h2 : 1 < c
      · have d2 : decide (1 < c) = true := by simpa using h2
        have Fin : Hid (askC p c l = 1) := by unfold Hid askC; rw [if_pos h, if_pos (Or.inr h2)]
        clear h h1 h2
        go_enter Tryz.func54, Tryz.ntmps54
        go_wp2_with fail
        refine (asked_any p _ _ _ _ _ hs).mono ?_
        rintro e w1 ⟨rfl, rfl⟩
        go_wp2
        go_ret
        exact ⟨ret_int Fin.out.symm, rfl⟩
      · have d2 : decide (1 < c) = false := by simpa using h2
        have Fin : Hid (askC p c l = 0) := by unfold Hid askC; rw [if_pos h, if_neg (by omega)]
        clear h h1 h2
        go_enter Tryz.func54, Tryz.ntmps54
        go_wp2_with fail
        refine (asked_any p _ _ _ _ _ hs).mono ?_
        rintro e w1 ⟨rfl, rfl⟩
        go_wp2
        go_ret
        exact ⟨ret_int Fin.out.symm, rfl⟩
  · have e1 : (askE p l != 0) = true := by simp [h]
    have Fin : Hid (askC p c l = askE p l) := by unfold Hid askC; rw [if_neg h]
    clear h
    go_enter Tryz.func54, Tryz.ntmps54
    go_wp2_with fail
    refine (asked_any p _ _ _ _ _ hs).mono ?_
    rintro e w1 ⟨rfl, rfl⟩
    go_wp2
    go_ret
    exact ⟨ret_int Fin.out.symm, rfl⟩
theorem askC_ok {p c : Int} {l : List ByteArray} (h : askC p c l = 0) : askE p l = 0 ∧ 0 ≤ c ∧ c ≤ 1 := by
  unfold askC at h
  split at h
  · rename_i h1
    split at h
    · cases h
    · exact ⟨h1, by omega, by omega⟩
  · rename_i h1; exact absurd h h1
def okC (p c : Int) (l : List ByteArray) (t : ByteArray) : ByteArray := if askC p c l = 0 then t else ByteArray.empty
theorem Weights_any (s : ByteArray) (p c : Int) (w : World) : Calls Tryz.prog 71 #[.string s, .int .i64 p, .int .i64 c] w (GiveSN (okC p c [s] (mapS (fun x => weightS x p c) s)) (askC p c [s]) w) := by
  by_cases h : askC p c [s] = 0
  · have e1 : (askC p c [s] != 0) = false := by simp [h]
    have Fin : Hid (okC p c [s] (mapS (fun x => weightS x p c) s) = mapS (fun x => weightS x p c) s) := by unfold Hid okC; rw [if_pos h]
    have Fin2 := hid h
    have ho := ask_ok (askC_ok h).1
    clear h
    go_enter Tryz.func71, Tryz.ntmps71
    go_wp2_with fail
    refine (askedColl_any p c _ _ _ [s] _ (RdS.new1 w s _)).mono ?_
    rintro e w1 ⟨rfl, rfl⟩
    go_wp2_with fail
    refine (weights_any s p c ho.2 (by omega) _).mono ?_
    rintro e w2 ⟨rfl, hx⟩
    go_wp2
    go_ret2
    exact ⟨by rw [Fin.out, Fin2.out]; rfl, Ext.trans ((Ext.refl w).alloc_right _) hx⟩
  · have e1 : (askC p c [s] != 0) = true := by simp [h]
    have Fin : Hid (okC p c [s] (mapS (fun x => weightS x p c) s) = ByteArray.empty) := by unfold Hid okC; rw [if_neg h]
    clear h
    go_enter Tryz.func71, Tryz.ntmps71
    go_wp2_with fail
    refine (askedColl_any p c _ _ _ [s] _ (RdS.new1 w s _)).mono ?_
    rintro e w1 ⟨rfl, rfl⟩
    go_wp2
    go_ret2
    exact ⟨by rw [Fin.out]; rfl, (Ext.refl w).alloc_right _⟩
attribute [local go_sem] conv_new
theorem u8_in (x : Int) (h0 : 0 ≤ x) (h1 : x ≤ 255) : IntKind.u8.wrap x = x := by simp [IntKind.wrap, IntKind.bits, IntKind.signed]; omega
theorem byt_of (x : Int) (h0 : 0 ≤ x) (h1 : x ≤ 255) : Value.int .u8 x = byt (bOf x) := by unfold byt; rw [bOf_val x h0 h1]
theorem strB_size (l : List UInt8) : (strB l).size = l.length := by simp [strB, ByteArray.size]
theorem strB_add (a b : List UInt8) : strB a ++ strB b = strB (a ++ b) := by
  apply ByteArray.ext
  simp [strB]
theorem conv_one (w : World) (x : Int) (h0 : 0 ≤ x) (h1 : x ≤ 255) : (convert 84 9 (.slice (some ⟨w.heap.size, 0, none⟩) 1 1)).run Tryz.prog (w.alloc (.cells #[.int .u8 x] 5)) = .ok (.string (strB [bOf x])) (w.alloc (.cells #[.int .u8 x] 5)) := by
  have h : RdB (w.alloc (.cells #[.int .u8 x] 5)) (some ⟨w.heap.size, 0, none⟩) 1 1 [bOf x] := by
    have := Rd.new_ w [.int .u8 x] 5 1 rfl (by decide)
    rw [byt_of x h0 h1] at this ⊢
    exact this
  exact conv_RdB h
theorem RdS.alloc {w : World} {A : Option Addr} {n c : Nat} {l : List ByteArray} (h : RdS w A n c l) (o : Obj) : RdS (w.alloc o) A n c l := Rd.alloc h o
theorem RdI.new1 (w : World) (x : Int) (t : TypeId) : RdI (w.alloc (.cells #[.int .i64 x] t)) (some ⟨w.heap.size, 0, none⟩) 1 1 [x] := Rd.new_ w [.int .i64 x] t 1 rfl (by decide)
attribute [local go_sem] conv_new
def wl (l : List UInt8) (p c : Int) : List UInt8 := l.map fun b => bOf (weightS (b.toNat : Int) p c)
def ordS (s t : ByteArray) (p c : Int) : Int := Lib.compareBytes (wl s.toList p c) (wl t.toList p c)
def okI (p c : Int) (l : List ByteArray) (x : Int) : Int := if askC p c l = 0 then x else 0
def GiveNN (x y : Int) (w : World) (e : Ending) (w' : World) : Prop := e = .returned (.tuple #[.int .i64 x, .int .i64 y]) ∧ Ext w w'
theorem ask_ok2 {p c : Int} {s t : ByteArray} (h : askC p c [s, t] = 0) : s.size ≤ 2048 ∧ t.size ≤ 2048 ∧ Pg p := by
  have h := (askC_ok h).1
  unfold askE at h
  split at h
  · cases h
  · rename_i h1
    split at h
    · cases h
    · rename_i h2
      refine ⟨?_, ?_, ?_⟩
      · have : ¬ 2048 < s.size := fun h3 => h1 (by simp [longTo, h3])
        omega
      · have : ¬ 2048 < t.size := fun h3 => h1 (by simp [longTo, h3])
        omega
      · unfold Pg
        simp [pgB] at h2
        omega
def wb (l : List UInt8) (p c : Int) (k : Nat) : Int := weightS (bth l k) p c
end Go.Proofs.YtjjikkhhlpikbaaGreatDoor.Pg
namespace Go.Proofs.YtjjikkhhlpikbaaGreatDoor.Ky
open Go.RowKit
attribute [local go_sem] Pg.conv_new
theorem bOf_byo (n : Nat) : Pg.bOf (n : Int) = byo n := rfl
theorem turn_map (s : ByteArray) : Pg.mapS (fun x => 255 - x) s = strB (turnL s.toList) := by
  unfold Pg.mapS turnL Pg.strB strB
  congr 2
  apply List.map_congr_left
  intro b _
  show Pg.bOf (255 - (b.toNat : Int)) = byo (255 - b.toNat)
  have := b.toNat_lt
  rw [← bOf_byo, show ((255 - b.toNat : Nat) : Int) = 255 - (b.toNat : Int) by omega]
theorem turn1_any (s : ByteArray) (w : World) : Calls Tryz.prog 40 #[.string s] w fun e w' => e = .returned (.string s) ∧ w = w' := by
  go_enter Tryz.func40, Tryz.ntmps40
  go_wp2
  go_ret
  exact ⟨rfl, rfl⟩
theorem enterT1 (args : Array Value) (w : World) : (callFunc 40 args).run Tryz.prog w = .ok (.enter 40 args) w := by kernel_rfl
theorem enterT2 (args : Array Value) (w : World) : (callFunc 41 args).run Tryz.prog w = .ok (.enter 41 args) w := by kernel_rfl
theorem turn2_any (s : ByteArray) (hsz : s.size ≤ 1000000) (w : World) : Calls Tryz.prog 41 #[.string s] w (Give (.string (strB (turnL s.toList))) w) := by
  have hcap := Pg.capB_in w s hsz
  have hB := hid (Pg.newB_bk w s)
  have hE := hid (Pg.newB_ext w s)
  have hlen : Hid (s.toList.length = s.size) := hB.out.1
  have hg : w.heap.size < (Pg.newB w s).heap.size := by simp [Pg.newB]
  have hfin := hid (Pg.mpTo_all (fun x => 255 - x) s.toList)
  go_enter Tryz.func41, Tryz.ntmps41
  go_wp2_with fail
  go_loopw [9] (fun i wr => ∃ k : Nat, k ≤ s.size ∧ i = .int .i64 k ∧ Hid (Pg.Bk wr w.heap.size s.size (Pg.mpTo (fun x => 255 - x) s.toList k)) ∧ Hid (Ext w wr)) (fun i _ => s.size - (intOf i).toNat)
  case atStart => exact ⟨0, by omega, rfl, hB, hE⟩
  case round =>
    obtain ⟨k, hk, rfl, hb, hx⟩ := hrel
    by_cases hlt : k < s.size
    · have hlt' : k < s.toList.length := by rw [hlen.out]; exact hlt
      have hc := (hb.out.2 k hlt).1
      have hfree := (hb.out.2 k hlt).2
      rw [Pg.mpTo_at _ _ k hlt'] at hc
      have hr := Pg.bth_in s.toList k
      have hst := hid (Pg.mpTo_succ (fun x => 255 - x) s.toList k hlt')
      have hb2 := hid (hb.out.set hlt (255 - Pg.bth s.toList k) (by omega) (by omega))
      have hx2 := hid (hx.out.set (p := ⟨w.heap.size, k, none⟩) (Nat.le_refl _) (.int .u8 (255 - Pg.bth s.toList k)))
      have ew := Pg.u8_in (255 - Pg.bth s.toList k) (by omega) (by omega)
      clear hlt'
      generalize Pg.bth s.toList k = x at *
      go_wp2_with fail
      go_roundw
      case rel => exact ⟨k + 1, by omega, by go_num, by rw [← hst.out]; exact hb2, hx2⟩
      case measure => simp [intOf]; omega
    · obtain rfl : k = s.size := by omega
      have hrd := hb.out.rd hcap.1 hcap.2
      have hcv := Pg.conv_RdB hrd
      rw [← hlen.out, hfin.out] at hcv
      rw [hlen.out] at hcv
      have hmap : Pg.strB (s.toList.map fun b => Pg.bOf (255 - (b.toNat : Int))) = strB (turnL s.toList) := turn_map s
      rw [hmap] at hcv
      clear hmap hrd
      go_wp2
      go_ret
      exact ⟨rfl, hx.out⟩
def turnS (d : Bool) (s : ByteArray) : ByteArray := if d then strB (turnL s.toList) else s
theorem turnS_t (s : ByteArray) : turnS true s = strB (turnL s.toList) := rfl
theorem turnS_f (s : ByteArray) : turnS false s = s := rfl
theorem turner_any (d : Bool) (w : World) : Calls Tryz.prog 15 #[.bool d] w fun e w' => e = .returned (.func (.func (if d then 41 else 40)) #[] #[]) ∧ w = w' := by
  cases d with
  | false =>
    go_enter Tryz.func15, Tryz.ntmps15
    go_wp2
    go_ret
    exact ⟨rfl, rfl⟩
  | true =>
    go_enter Tryz.func15, Tryz.ntmps15
    go_wp2
    go_ret
    exact ⟨rfl, rfl⟩
def hiTo (n k j : Nat) : List UInt8 := List.replicate (k - j) 0 ++ highL n j
theorem high_cons : ∀ (j n : Nat), highL n (j + 1) = byo (n / 256 ^ j % 256) :: highL n j
  | 0, n => by simp [highL]
  | j + 1, n => by
    rw [highL, high_cons j (n / 256), Nat.div_div_eq_div_mul, Nat.mul_comm 256, ← Nat.pow_succ]
    rfl
theorem hiTo_succ {n k j : Nat} (h : j < k) : (hiTo n k j).set (k - 1 - j) (byo (n / 256 ^ j % 256)) = hiTo n k (j + 1) := by
  unfold hiTo
  have e : k - j = (k - (j + 1)) + 1 := by omega
  rw [high_cons, e, List.replicate_succ', List.append_assoc]
  rw [show k - 1 - j = (List.replicate (k - (j + 1)) (0 : UInt8)).length by rw [List.length_replicate]; omega]
  rw [List.set_append_right _ _ (Nat.le_refl _), Nat.sub_self]
  rfl
theorem hiTo_all (n k : Nat) : hiTo n k k = highL n k := by unfold hiTo; rw [Nat.sub_self]; rfl
def newH (w : World) (k : Nat) : World := w.alloc (.cells (madeCells #[.int .u8 0] (k * 1)) 5)
theorem newH_ext (w : World) (k : Nat) : Ext w (newH w k) := (Ext.refl w).alloc_right _
theorem newH_bk (w : World) (k : Nat) : Pg.Bk (newH w k) w.heap.size k (List.replicate k 0) := by
  have hb : (newH w k).heap[w.heap.size]? = some (.cells (madeCells #[.int .u8 0] (k * 1)) 5) := heap_alloc_new w _
  refine ⟨List.length_replicate, fun j hj => ⟨?_, ?_⟩⟩
  · rw [cell_of_row _ w.heap.size j _ 5 _ hb]
    have hz : Pg.bth (List.replicate k 0) j = 0 := by
      unfold Pg.bth
      simp [List.getD, List.getElem?_replicate, hj]
    rw [hz]
    unfold madeCells
    have : j < (Array.range (k * 1)).size := by simp; exact hj
    rw [Array.getElem?_map, Array.getElem?_eq_getElem this]
    simp [Nat.mod_one]
  · unfold World.frozen?
    rw [hb]
    simp
theorem high_any (n k : Nat) (hn : n < 9223372036854775807) (h1 : 1 ≤ k) (hk : k ≤ 8) (w : World) : Calls Tryz.prog 42 #[.int .i64 n, .int .i64 k] w (Give (.string (strB (highL n k))) w) := by
  have info5 : (Tryz.prog.info? 5).map (fun i => (i.zero, i.size, i.bytes)) = some (some (.int .u8 0), 1, 1) := by kernel_rfl
  obtain ⟨i0, hi, hz0, hz1, hz2⟩ := info_parts info5
  have mk : ∀ wx, (Instr.makeSlice 84 (.int .i64 (k : Int)) (.int .i64 (k : Int))).run Tryz.prog wx = .ok (.slice (some ⟨wx.heap.size, 0, none⟩) k k) (newH wx k) := by
    intro wx
    have h := run_makeSlice (P := Tryz.prog) wx 84 5 i0 (.int .u8 0) Tryz.underlying84 hi hz0 .i64 .i64 (k : Int) (k : Int) (by omega) (by omega) (by rw [hz1]; omega) (by rw [hz2]; omega) (by omega)
    rw [hz1] at h
    simp only [Int.toNat_natCast] at h
    exact h
  clear info5 hi hz0 hz1 hz2
  have hE := hid (newH_ext w k)
  have hg : w.heap.size < (newH w k).heap.size := by simp [newH]
  have hB0 : Hid (Pg.Bk (newH w k) w.heap.size k (hiTo n k 0)) := by
    unfold Hid hiTo
    have := newH_bk w k
    rwa [Nat.sub_zero, show highL n 0 = [] from rfl, List.append_nil]
  have ek : IntKind.i64.wrap ((k : Int) - 1) = (k : Int) - 1 := IntWalk.i64_in _ (by omega)
  go_enter Tryz.func42, Tryz.ntmps42
  go_wp2_with fail
  go_loopw [0, 6] (fun m i wr => ∃ (j : Nat) (x : Int), j ≤ k ∧ i = .int .i64 x ∧ Hid (x = (k : Int) - 1 - (j : Int)) ∧ m = .int .i64 ((n / 256 ^ j : Nat) : Int) ∧ Hid (Pg.Bk wr w.heap.size k (hiTo n k j)) ∧ Hid (Ext w wr)) (fun _ i _ => (intOf i + 1).toNat)
  case atStart => exact ⟨0, (k : Int) - 1, by omega, rfl, by unfold Hid; omega, by simp, hB0, hE⟩
  case round =>
    obtain ⟨j, x, hj, rfl, hxj, rfl, hb, hx⟩ := hrel
    by_cases hlt : j < k
    · obtain ⟨p, hp⟩ : ∃ p : Nat, p = k - 1 - j := ⟨_, rfl⟩
      obtain rfl : x = (p : Int) := by have := hxj.out; omega
      have hpk : p < k := by omega
      have hc := (hb.out.2 p hpk).1
      have hfree := (hb.out.2 p hpk).2
      have hst := hiTo_succ (n := n) hlt
      have hd := hid (show n / 256 ^ (j + 1) = n / 256 ^ j / 256 by rw [Nat.div_div_eq_div_mul, Nat.pow_succ])
      have hle : n / 256 ^ j ≤ n := Nat.div_le_self _ _
      have hp1 := hid hp
      rw [← hp] at hst
      have hst := hid hst
      clear hp
      generalize n / 256 ^ j = m at *
      have ew : IntKind.u8.wrap (m : Int) = ((m % 256 : Nat) : Int) := by simp [IntKind.wrap, IntKind.bits, IntKind.signed]
      have hb2 := hid (hb.out.set hpk ((m % 256 : Nat) : Int) (by omega) (by omega))
      have hx2 := hid (hx.out.set (p := ⟨w.heap.size, p, none⟩) (Nat.le_refl _) (.int .u8 ((m % 256 : Nat) : Int)))
      have d0 : decide ((0 : Int) ≤ (p : Int)) = true := by simp
      have e1 : IntKind.i64.wrap ((p : Int) - 1) = (p : Int) - 1 := IntWalk.i64_in _ (by omega)
      have e2 : True := trivial
      generalize hr : ((m % 256 : Nat) : Int) = r at *
      go_wp2_with fail
      go_roundw
      case rel => exact ⟨j + 1, (p : Int) - 1, by omega, rfl, by unfold Hid; have := hp1.out; omega, by rw [hd.out]; rfl, by rw [← hst.out, ← bOf_byo, hr]; exact hb2, hx2⟩
      case measure => simp [intOf]
    · obtain rfl : j = k := by omega
      obtain rfl : x = -1 := by have := hxj.out; omega
      have hrd := hb.out.rd (Nat.le_refl _) (by unfold maxLen; omega)
      have hcv := Pg.conv_RdB hrd
      rw [hiTo_all] at hcv
      have hs : Pg.strB (highL n j) = strB (highL n j) := rfl
      rw [hs] at hcv
      clear hrd hs
      go_wp2
      go_ret
      exact ⟨rfl, hx.out⟩
end Go.Proofs.YtjjikkhhlpikbaaGreatDoor.Ky
namespace Go.Proofs
open Go.Shelf
def Tryz.lays155_ren : Go.Shelf.Ren := ⟨fun | 155 => 72 | 154 => 109 | 138 => 129 | 165 => 130 | 143 => 131 | 166 => 132 | 197 => 133 | 169 => 134 | 195 => 140 | 218 => 141 | 240 => 142 | 241 => 143 | 219 => 144 | 260 => 145 | 276 => 148 | 277 => 149 | 217 => 150 | 225 => 151 | 224 => 152 | 267 => 153 | 266 => 154 | 314 => 155 | n => n, fun | 9 => 9 | 3 => 3 | 4 => 4 | 72 => 167 | 0 => 0 | 76 => 170 | 105 => 172 | 21 => 21 | 5 => 5 | 70 => 165 | 20 => 20 | 37 => 84 | 75 => 169 | 127 => 180 | 164 => 129 | 46 => 122 | 119 => 185 | 139 => 188 | 138 => 187 | 146 => 189 | 51 => 51 | 80 => 174 | n => n, fun | 1 => 0 | 3 => 1 | 4 => 2 | n => n⟩
theorem Tryz.lays155 : Go.Proofs.Lays.n155 Tryz.prog Tryz.lays155_ren := {
  mixed := by kernel_rfl
  f138 := Tryz.func129.trans (congrArg some (by kernel_rfl))
  f143 := Tryz.func131.trans (congrArg some (by kernel_rfl))
  f154 := Tryz.func109.trans (congrArg some (by kernel_rfl))
  f155 := Tryz.func72.trans (congrArg some (by kernel_rfl))
  f165 := Tryz.func130.trans (congrArg some (by kernel_rfl))
  f166 := Tryz.func132.trans (congrArg some (by kernel_rfl))
  f169 := Tryz.func134.trans (congrArg some (by kernel_rfl))
  f195 := Tryz.func140.trans (congrArg some (by kernel_rfl))
  f197 := Tryz.func133.trans (congrArg some (by kernel_rfl))
  f217 := Tryz.func150.trans (congrArg some (by kernel_rfl))
  f218 := Tryz.func141.trans (congrArg some (by kernel_rfl))
  f219 := Tryz.func144.trans (congrArg some (by kernel_rfl))
  f224 := Tryz.func152.trans (congrArg some (by kernel_rfl))
  f225 := Tryz.func151.trans (congrArg some (by kernel_rfl))
  f240 := Tryz.func142.trans (congrArg some (by kernel_rfl))
  f241 := Tryz.func143.trans (congrArg some (by kernel_rfl))
  f260 := Tryz.func145.trans (congrArg some (by kernel_rfl))
  f266 := Tryz.func154.trans (congrArg some (by kernel_rfl))
  f267 := Tryz.func153.trans (congrArg some (by kernel_rfl))
  f276 := Tryz.func148.trans (congrArg some (by kernel_rfl))
  f277 := Tryz.func149.trans (congrArg some (by kernel_rfl))
  f314 := Tryz.func155.trans (congrArg some (by kernel_rfl))
  t0 := Tryz.underlying0
  a0 := Tryz.isAgg0
  z0 := Tryz.sizeOf0
  v0 := Tryz.zeroValue0
  t3 := Tryz.underlying3
  a3 := Tryz.isAgg3
  z3 := Tryz.sizeOf3
  v3 := Tryz.zeroValue3
  t4 := Tryz.underlying4
  a4 := Tryz.isAgg4
  z4 := Tryz.sizeOf4
  v4 := Tryz.zeroValue4
  t5 := Tryz.underlying5
  a5 := Tryz.isAgg5
  z5 := Tryz.sizeOf5
  v5 := Tryz.zeroValue5
  t9 := Tryz.underlying9
  a9 := Tryz.isAgg9
  z9 := Tryz.sizeOf9
  v9 := Tryz.zeroValue9
  t20 := Tryz.underlying20
  a20 := Tryz.isAgg20
  z20 := Tryz.sizeOf20
  v20 := Tryz.zeroValue20
  t21 := Tryz.underlying21
  a21 := Tryz.isAgg21
  z21 := Tryz.sizeOf21
  v21 := Tryz.zeroValue21
  t37 := Tryz.underlying84
  a37 := Tryz.isAgg84
  z37 := Tryz.sizeOf84
  v37 := Tryz.zeroValue84
  t46 := Tryz.underlying122
  a46 := Tryz.isAgg122
  z46 := Tryz.sizeOf122
  v46 := Tryz.zeroValue122
  t51 := Tryz.underlying51
  a51 := Tryz.isAgg51
  z51 := Tryz.sizeOf51
  v51 := Tryz.zeroValue51
  t70 := Tryz.underlying165
  a70 := Tryz.isAgg165
  z70 := Tryz.sizeOf165
  v70 := Tryz.zeroValue165
  t72 := Tryz.underlying167
  a72 := Tryz.isAgg167
  z72 := Tryz.sizeOf167
  v72 := Tryz.zeroValue167
  t75 := Tryz.underlying169
  a75 := Tryz.isAgg169
  z75 := Tryz.sizeOf169
  v75 := Tryz.zeroValue169
  t76 := Tryz.underlying170
  a76 := Tryz.isAgg170
  z76 := Tryz.sizeOf170
  v76 := Tryz.zeroValue170
  t105 := Tryz.underlying172
  a105 := Tryz.isAgg172
  z105 := Tryz.sizeOf172
  v105 := Tryz.zeroValue172
  t119 := Tryz.underlying185
  a119 := Tryz.isAgg185
  z119 := Tryz.sizeOf185
  t127 := Tryz.underlying180
  a127 := Tryz.isAgg180
  z127 := Tryz.sizeOf180
  v127 := Tryz.zeroValue180
  t138 := Tryz.underlying187
  a138 := Tryz.isAgg187
  z138 := Tryz.sizeOf187
  v138 := Tryz.zeroValue187
  t139 := Tryz.underlying188
  a139 := Tryz.isAgg188
  z139 := Tryz.sizeOf188
  v139 := Tryz.zeroValue188
  t146 := Tryz.underlying189
  a146 := Tryz.isAgg189
  z146 := Tryz.sizeOf189
  v146 := Tryz.zeroValue189
  t164 := Tryz.underlying129
  a164 := Tryz.isAgg129
  z164 := Tryz.sizeOf129
  v164 := Tryz.zeroValue129
  g1 := by kernel_rfl
  g3 := by kernel_rfl
  g4 := by kernel_rfl }
theorem Tryz.Builder_Extra_155 : Builder.Extra Tryz.prog Tryz.lays155_ren := {
  sizeBuilder := by kernel_rfl
  liesBuilder := by kernel_rfl
  t5 := Tryz.underlying5
  a5 := Tryz.isAgg5
  z5 := Tryz.sizeOf5
  v5 := Tryz.zeroValue5
  infoByte := by kernel_rfl
  cellsByte := by kernel_rfl
  sizeByte := by kernel_rfl
  neB5 := by decide }
open Go.RowKit Go.Lib in
theorem Tryz.strings_ReplaceAll (s old new : ByteArray) (m : Int) (w : World) (hs : s.size < 4294967281) (hm : w.cell? ⟨0, 0, none⟩ = some (.int .i64 m)) (h1 : 1 ≤ old.size) (hlen : s.size + Lib.countB s old * new.size ≤ 140737488355328) :
    Calls Tryz.prog 72 #[.string s, .string old, .string new] w fun e w' =>
      e = .returned (.string ⟨(Lib.replaceAll s.data.toList old.data.toList new.data.toList).toArray⟩) ∧ Below w.heap.size w w' := Any.strings_ReplaceAll Tryz.lays155 Tryz.Builder_Extra_155 s old new m w hs hm h1 hlen
end Go.Proofs
