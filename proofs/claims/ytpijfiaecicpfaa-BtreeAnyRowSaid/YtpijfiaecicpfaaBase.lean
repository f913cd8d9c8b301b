/-
  Words for worlds and slices that the walks of this claim use: a world that extends another one, a slice that reads as a list, a row of the call's own. No program in sight.
-/
import Derived.WalkKit
import Derived.WalkLawsBesides
import Derived.Deep.QuietTactic
import Derived.BigQuiet
import Derived.Deep.Draws
import Derived.Deep.AppendLies
namespace Go.Proofs.Ytpijfiaecicpfaa
open Go.RowKit

theorem block_add (a : Addr) (n : Nat) : (a.add n).block = a.block := by unfold Addr.add; split <;> rfl
theorem add_add (a : Addr) (i j : Nat) : (a.add i).add j = a.add (i + j) := by
  unfold Addr.add
  by_cases hi : i = 0 <;> by_cases hj : j = 0 <;> simp [hi, hj, Nat.add_assoc]
theorem hid {p : Prop} (h : p) : Hid p := h

/-- Nothing that was there has turned: w' is w with new blocks. -/
def Ext (w w' : World) : Prop := Below w.heap.size w w'
theorem Ext.refl (w : World) : Ext w w := Below.refl _ _
theorem Ext.drewN (w : World) (n : Nat) : Ext w (w.drewN n) := ⟨rfl, rfl, rfl, Nat.le_refl _, fun _ _ => rfl⟩
theorem Ext.trans {a b c : World} (h : Ext a b) (k : Ext b c) : Ext a c := Below.trans h (Below.mono k h.size)
theorem Ext.size {a b : World} (h : Ext a b) : a.heap.size ≤ b.heap.size := Below.size h
theorem Ext.below {a b c : World} {B : Nat} (h : Below B a b) (k : Ext b c) (hB : B ≤ b.heap.size) : Below B a c := h.trans (Below.mono k hB)
theorem Ext.of_below {a b : World} {B : Nat} (h : Below B a b) (hB : a.heap.size ≤ B) : Ext a b := Below.mono h hB
theorem Ext.block {a b : World} (h : Ext a b) {k : Nat} (hk : k < a.heap.size) : b.heap[k]? = a.heap[k]? := Below.block h k hk
theorem Ext.cell {a b : World} (h : Ext a b) {p : Addr} {v : Value} (hc : a.cell? p = some v) : b.cell? p = some v :=
  (World.cell?_of_block (h.block (World.block_lt_of_cell? a p hc))).trans hc
theorem Ext.frozen {a b : World} (h : Ext a b) {p : Addr} (hp : p.block < a.heap.size) : b.frozen? p = a.frozen? p := World.frozen?_of_block (h.block hp)
theorem Ext.drewN_right {a b : World} (h : Ext a b) (n : Nat) : Ext a (b.drewN n) := h.trans (.drewN b n)
theorem Ext.drew_right {a b : World} (h : Ext a b) : Ext a b.drew := h.trans (.drewN b 1)
theorem Ext.alloc_right {a b : World} (h : Ext a b) (o : Obj) : Ext a (b.alloc o) := Below.alloc h h.size o
theorem Ext.own {w w' : World} (h : Ext w w') {base : Nat} {e : TypeId} {size : Nat} {v : Value} {n : Nat} {xs : List Value} (ho : w.ownsRow base e size v n xs) : w'.ownsRow base e size v n xs := by
  have hb : Below w.heap.size w w' := h
  exact ho.kept (row := none) ⟨hb.os, hb.tape, hb.output, hb.size, fun k hk _ => hb.block k hk⟩ (by cases v.ownBlock <;> simp)

/-- A slice value with address A, length n and capacity c reads as the cells xs, size cells an element. -/
def Rd (w : World) (size : Nat) (A : Option Addr) (n c : Nat) (xs : List Value) : Prop :=
  xs.length = n * size ∧ n ≤ c ∧ c ≤ maxLen ∧ (0 < n → ∃ ad, A = some ad ∧ ∀ j u, xs[j]? = some u → w.cell? (ad.add j) = some u)

section
variable {w w' : World} {size n c : Nat} {A : Option Addr} {xs : List Value}
theorem Rd.none_ (w : World) (size : Nat) : Rd w size none 0 0 [] := ⟨by simp, by simp, by simp, fun h => absurd h (by omega)⟩
theorem Rd.max (h : Rd w size A n c xs) : n ≤ 9223372036854775807 ∧ n ≤ c ∧ c ≤ 9223372036854775807 := by
  have h1 := h.2.1
  have h2 := h.2.2.1
  unfold maxLen at h2
  omega
theorem Rd.keep (h : Rd w size A n c xs) (hk : ∀ p v, w.cell? p = some v → w'.cell? p = some v) : Rd w' size A n c xs :=
  ⟨h.1, h.2.1, h.2.2.1, fun hn => by
    obtain ⟨ad, e, hc⟩ := h.2.2.2 hn
    exact ⟨ad, e, fun j u hu => hk _ _ (hc j u hu)⟩⟩
theorem Rd.ext (h : Rd w size A n c xs) (hb : Ext w w') : Rd w' size A n c xs := h.keep fun _ _ hc => hb.cell hc
theorem Rd.below (h : Rd w size A n c xs) (hb : Below w.heap.size w w') : Rd w' size A n c xs := h.ext hb
theorem Rd.drewN (h : Rd w size A n c xs) (k : Nat) : Rd (w.drewN k) size A n c xs := h
theorem Rd.alloc (h : Rd w size A n c xs) (o : Obj) : Rd (w.alloc o) size A n c xs := h.ext ((Ext.refl w).alloc_right o)
theorem Rd.cut (h : Rd w size A n c xs) {k : Nat} (hk : k ≤ n) :
    Rd w size (if c = k then A else A.map (·.add (k * size))) (n - k) (c - k) (xs.drop (k * size)) := by
  have h1 := h.2.1
  have h2 := h.2.2.1
  refine ⟨by rw [List.length_drop, h.1, Nat.sub_mul], by omega, by omega, fun hn => ?_⟩
  obtain ⟨ad, rfl, hcell⟩ := h.2.2.2 (by omega)
  rw [if_neg (by omega)]
  refine ⟨ad.add (k * size), rfl, fun j u hu => ?_⟩
  rw [add_add]
  exact hcell _ u (by rw [← hu, List.getElem?_drop])
theorem Rd.of_own {base : Nat} {e : TypeId} (h : w.ownsRow base e size (.slice A n c) n xs) : Rd w size A n c xs := by
  have h2 := h.2
  refine ⟨h.1, ?_, ?_, fun hn => ?_⟩
  · rcases h2 with ⟨_, rfl⟩ | ⟨g, cap, cur, hv, _, _, hcap, hm, _⟩
    · simp
    · injection hv with _ _ hc; omega
  · rcases h2 with ⟨hv, rfl⟩ | ⟨g, cap, cur, hv, _, _, hcap, hm, _⟩
    · injection hv with _ _ hc; simp [hc]
    · injection hv with _ _ hc; omega
  · rcases h2 with ⟨_, rfl⟩ | ⟨g, cap, cur, hv, _⟩
    · omega
    · have hA : A = some ⟨g, 0, none⟩ := by injection hv
      subst hA
      exact ⟨_, rfl, h.cells (g := g) rfl⟩
end

theorem own_drewN {w : World} {base : Nat} {e : TypeId} {size : Nat} {v : Value} {n : Nat} {xs : List Value} (h : w.ownsRow base e size v n xs) (k : Nat) : (w.drewN k).ownsRow base e size v n xs := h
theorem below_drewN {B : Nat} {a w : World} (h : Below B a w) (n : Nat) : Below B a (w.drewN n) := ⟨h.os, h.tape, h.output, h.size, h.block⟩

/-- What a cell holds (closed to simp). -/
def cellv (w : World) (a : Addr) : Value := (w.cell? a).getD undef
/-- n cells lie at the head of block b, and may be written. -/
def There (w : World) (b n : Nat) : Prop := ∀ o, o < n → (∃ u, w.cell? ⟨b, o, none⟩ = some u) ∧ w.frozen? ⟨b, o, none⟩ = false
section
variable {w w' : World} {b n : Nat}
theorem There.cell (h : There w b n) {o : Nat} (ho : o < n) : w.cell? ⟨b, o, none⟩ = some (cellv w ⟨b, o, none⟩) := by
  obtain ⟨u, hu⟩ := (h o ho).1
  simp [cellv, hu]
theorem There.free (h : There w b n) {o : Nat} (ho : o < n) : w.frozen? ⟨b, o, none⟩ = false := (h o ho).2
theorem There.ext (h : There w b n) (hx : Ext w w') : There w' b n := fun o ho => by
  obtain ⟨u, hu⟩ := (h o ho).1
  refine ⟨⟨u, hx.cell hu⟩, ?_⟩
  rw [hx.frozen (World.block_lt_of_cell? w _ hu)]
  exact (h o ho).2
theorem There.drew (h : There w b n) : There w.drew b n := h
theorem There.set (h : There w b n) (p : Addr) (v : Value) : There (w.setCell p v) b n := fun o ho => by
  obtain ⟨u, hu⟩ := (h o ho).1
  refine ⟨?_, by rw [World.frozen?_setCell]; exact (h o ho).2⟩
  by_cases e : p = ⟨b, o, none⟩
  · exact ⟨v, by rw [e]; exact World.cell?_setCell_same (u := u) _ _ _ hu⟩
  · exact ⟨u, by rw [World.cell?_setCell_other _ _ _ _ e]; exact hu⟩
theorem There.new (w : World) (cs : Array Value) (t : TypeId) (hn : n ≤ cs.size) : There (w.alloc (.cells cs t)) w.heap.size n := fun o ho => by
  refine ⟨⟨cs[o]'(by omega), ?_⟩, ?_⟩
  · rw [cell_of_row _ w.heap.size o cs t (0, 0) (heap_alloc_new w _)]
    simp
  · have := heap_alloc_new w (.cells cs t)
    unfold World.frozen?
    rw [this]
    simp
theorem Ext.set (h : Ext w w') {p : Addr} (hp : w.heap.size ≤ p.block) (v : Value) : Ext w (w'.setCell p v) := Below.setCell h hp v
theorem cell_far {p q : Addr} {v u : Value} (h : w.cell? q = some u) (hne : p.block ≠ q.block) : (w.setCell p v).cell? q = some u := by
  rw [World.cell?_setCell_other _ _ _ _ (fun e => hne (by rw [e]))]; exact h
end

/-! ### Slices of integers -/
def ints (l : List Int) : List Value := l.map (Value.int .i64)
theorem ints_nil : ints [] = [] := rfl
theorem ints_length (l : List Int) : (ints l).length = l.length := by simp [ints]
theorem ints_append (l m : List Int) : ints (l ++ m) = ints l ++ ints m := by simp [ints]
theorem ints_drop (l : List Int) (k : Nat) : (ints l).drop k = ints (l.drop k) := by simp [ints]
theorem ints_take (l : List Int) (k : Nat) : (ints l).take k = ints (l.take k) := by simp [ints]
theorem ints_one (l : List Int) : ∀ u ∈ ints l, u.oneCell' = true := by
  intro u hu
  obtain ⟨_, _, rfl⟩ := List.mem_map.1 hu
  rfl

/-- The length in a slot. -/
def lenOf : Value → Nat | .slice _ n _ => n | _ => 0

/-- The k-th number (closed to simp). -/
def nth (l : List Int) (k : Nat) : Int := l.getD k 0
theorem nth_lt {l : List Int} {k : Nat} (h : k < l.length) : nth l k = l[k] := by simp [nth, h]

/-- A slice of ints. -/
def RdI (w : World) (A : Option Addr) (n c : Nat) (l : List Int) : Prop := Rd w 1 A n c (ints l)
section
variable {w w' : World} {n c : Nat} {A : Option Addr} {l : List Int}
theorem RdI.len (h : RdI w A n c l) : l.length = n := by have := h.1; simpa [ints] using this
theorem RdI.max (h : RdI w A n c l) : n ≤ 9223372036854775807 ∧ n ≤ c ∧ c ≤ 9223372036854775807 := Rd.max h
theorem RdI.at_ (h : RdI w A n c l) {k : Nat} (hk : k < n) :
    ∃ ad, A = some ad ∧ w.cell? (ad.add k) = some (.int .i64 (nth l k)) := by
  obtain ⟨ad, hA, hc⟩ := h.2.2.2 (by omega)
  have hl := h.len
  exact ⟨ad, hA, hc k _ (by simp [ints, nth, List.getD, hl, hk])⟩
theorem RdI.cells {ad : Addr} (h : RdI w (some ad) n c l) {k : Nat} (hk : k < n) : w.cell? (ad.add k) = some (.int .i64 (nth l k)) := by
  obtain ⟨ad', hA, hc⟩ := h.at_ hk
  injection hA with hA
  subst hA
  exact hc
theorem RdI.cell0 {ad : Addr} (h : RdI w (some ad) n c l) (hk : 0 < n) : w.cell? ad = some (.int .i64 (nth l 0)) := by
  have := h.cells hk
  rwa [show ad.add 0 = ad by unfold Addr.add; simp] at this
theorem RdI.ext (h : RdI w A n c l) (hb : Ext w w') : RdI w' A n c l := Rd.ext h hb
theorem RdI.drewN (h : RdI w A n c l) (k : Nat) : RdI (w.drewN k) A n c l := h
theorem RdI.alloc (h : RdI w A n c l) (o : Obj) : RdI (w.alloc o) A n c l := Rd.alloc h o
theorem RdI.nil (w : World) : RdI w none 0 0 [] := Rd.none_ w 1
theorem RdI.cut (h : RdI w A n c l) {k : Nat} (hk : k ≤ n) :
    RdI w (if c = k then A else A.map (·.add k)) (n - k) (c - k) (l.drop k) := by
  have := Rd.cut h hk
  rw [Nat.mul_one, ints_drop] at this
  exact this
theorem RdI.of_own {base : Nat} {e : TypeId} (h : w.ownsRow base e 1 (.slice A n c) n (ints l)) : RdI w A n c l := Rd.of_own h
end

/-- What is owned is a slice value. -/
theorem own_form {w : World} {base : Nat} {e : TypeId} {size n : Nat} {v : Value} {xs : List Value} (h : w.ownsRow base e size v n xs) : ∃ A c, v = .slice A n c ∧ n ≤ c := by
  rcases h.2 with ⟨rfl, rfl⟩ | ⟨g, cap, cur, rfl, _, _, hcap, _⟩
  · exact ⟨none, 0, rfl, Nat.le_refl _⟩
  · exact ⟨_, cap, rfl, hcap⟩

/-- Only draws lie between. -/
def Dr (w w' : World) : Prop := ∃ n, w' = w.drewN n
theorem Dr.refl (w : World) : Dr w w := ⟨0, rfl⟩
theorem Dr.mk1 (w : World) (n : Nat) : Dr w (w.drewN n) := ⟨n, rfl⟩
theorem Dr.mk2 (w : World) (n m : Nat) : Dr w ((w.drewN n).drewN m) := ⟨_, World.drewN_drewN _ _ _⟩
theorem Dr.ext {w w' : World} (h : Dr w w') : Ext w w' := by obtain ⟨n, rfl⟩ := h; exact Ext.drewN _ _
theorem ret_bool {a b : Bool} (h : a = b) : Ending.returned (.bool a) = .returned (.bool b) := by rw [h]

/-- 'out = append(out, x)': x has just been laid into a block of its own. -/
theorem wpList_push {P : Program} (w : World) {ops : Array Oper} {rest : List Oper} {o : Oper} {a : Act} {Q : Exit → Act → World → Prop} (hgd : o.guard = none) (s x : Operand) (t : TypeId)
    (ho : o.op = .call { callee := .builtin .append, args := #[s, x], argTypes := #[t, t] })
    (base : Nat) (e : TypeId) (i : TypeInfo) (z : Value) (size bytes : Nat) (ht : P.underlying t = some (.slice e)) (hi : P.info? e = some i) (hz : i.zero = some z)
    (hsize : i.size = size) (hby : i.bytes = bytes) (hzs : z.cells.size = size) (hsz : 0 < size)
    (v : Value) (n : Nat) (xs : List Value) (hs : a.eval s = v) (hown : w.ownsRow base e size v n xs)
    (es : List Value) (hx : a.eval x = .slice (some ⟨w.heap.size, 0, none⟩) 1 1) (hl : es.length = size) (h1 : ∀ u ∈ es, u.oneCell' = true)
    (h63 : n + 1 ≤ maxLen) (hbytes : (n + 1) * bytes ≤ 140737488355328) (hbase : base ≤ w.heap.size)
    (h : ∀ g cap w', w'.ownsRow base e size (.slice (some ⟨g, 0, none⟩) (n + 1) cap) (n + 1) (xs ++ es) → w.grownBy w' v.ownBlock → (v.ownBlock = some g ∨ g = w.heap.size + 1) →
      wpList P ops Q rest (a.put o.dst (.slice (some ⟨g, 0, none⟩) (n + 1) cap)) w') : wpList P ops Q (o :: rest) a (w.alloc (.cells es.toArray e)) := by
  refine wpList_append_lies _ hgd s x t ho base e i z size bytes ht hi hz hsize hby hzs hsz v n xs hs (hown.alloc _) ⟨w.heap.size, 0, none⟩ 1 1 es hx (by omega) ?_ h1 (by omega) h63 hbytes (by simp; omega) (w.heap.size + 1) (by simp) ?_
  · intro j u hu
    have hadd : (⟨w.heap.size, 0, none⟩ : Addr).add j = ⟨w.heap.size, j, none⟩ := by unfold Addr.add; split <;> simp_all
    rw [hadd, cell_of_row _ w.heap.size j es.toArray e (0, 0) (heap_alloc_new w _)]
    simpa using hu
  · intro g cap w' hown' hgrow hat hlt
    refine h g cap w' hown' ⟨hgrow.os, hgrow.tape, hgrow.output, ?_, fun k hk hne => ?_⟩ hat
    · have := hgrow.size; simp at this; omega
    · rw [hgrow.block k (by simp; omega) hne]
      exact Below.heap_alloc w _ k hk

/-- The same at a slice of ints. -/
theorem wpList_pushI {P : Program} (w : World) {ops : Array Oper} {rest : List Oper} {o : Oper} {a : Act} {Q : Exit → Act → World → Prop} (hgd : o.guard = none) (s x : Operand) (t : TypeId)
    (ho : o.op = .call { callee := .builtin .append, args := #[s, x], argTypes := #[t, t] })
    (base : Nat) (e : TypeId) (i : TypeInfo) (ht : P.underlying t = some (.slice e)) (hi : P.info? e = some i) (hz : i.zero = some (.int .i64 0))
    (hsize : i.size = 1) (hby : i.bytes = 8)
    (v : Value) (n : Nat) (l : List Int) (hs : a.eval s = v) (hown : w.ownsRow base e 1 v n (ints l)) (y : Int) (hx : a.eval x = .slice (some ⟨w.heap.size, 0, none⟩) 1 1)
    (hn : n ≤ 10000000) (hbase : base ≤ w.heap.size)
    (h : ∀ g cap w', w'.ownsRow base e 1 (.slice (some ⟨g, 0, none⟩) (n + 1) cap) (n + 1) (ints (l ++ [y])) → w.grownBy w' v.ownBlock → (v.ownBlock = some g ∨ g = w.heap.size + 1) →
      wpList P ops Q rest (a.put o.dst (.slice (some ⟨g, 0, none⟩) (n + 1) cap)) w') : wpList P ops Q (o :: rest) a (w.alloc (.cells #[.int .i64 y] e)) :=
  wpList_push w hgd s x t ho base e i _ 1 8 ht hi hz hsize hby rfl (by decide) v n (ints l) hs hown [.int .i64 y] hx rfl (by simp [Value.oneCell']) (by unfold maxLen; omega) (by omega) hbase
    (fun g cap w' h1 h2 h3 => h g cap w' (by rw [ints_append]; exact h1) h2 h3)

theorem below_push {w0 w w' : World} {base n size : Nat} {e : TypeId} {v : Value} {xs : List Value} (hb : Below base w0 w) (hown : w.ownsRow base e size v n xs) (hg : w.grownBy w' v.ownBlock) (hB : base ≤ w.heap.size) : Below base w0 w' :=
  hb.grown hg hB fun k hk => (hown.lt k hk).1

theorem Dr.trans {a b c : World} (h : Dr a b) (k : Dr b c) : Dr a c := by obtain ⟨n, rfl⟩ := h; obtain ⟨m, rfl⟩ := k; exact Dr.mk2 _ _ _
theorem Dr.step {a b : World} (h : Dr a b) (n : Nat) : Dr a (b.drewN n) := h.trans (.mk1 _ _)
/-- It returns v, and only draws. -/
def Quiet (v : Value) (w : World) (e : Ending) (w' : World) : Prop := e = .returned v ∧ Dr w w'
theorem quiet_dr {P : Program} {f : FuncId} {args : Array Value} {w : World} {n : Nat} {v : Value}
    (h : Calls P f args (w.drewN n) (Quiet v (w.drewN n))) : Calls P f args (w.drewN n) fun e w'' => e = .returned v ∧ ∃ m, w'' = w.drewN m :=
  h.mono fun _ _ ⟨he, hm⟩ => ⟨he, Dr.trans (.mk1 _ _) hm⟩
theorem quiet_left {P : Program} {f : FuncId} {args : Array Value} {w : World} {n : Nat} {v : Value}
    (h : Calls P f args (w.drewN n) fun e w' => e = .returned v ∧ w.drewN n = w') : Calls P f args (w.drewN n) fun e w'' => e = .returned v ∧ ∃ m, w'' = w.drewN m :=
  h.mono fun _ _ ⟨he, hm⟩ => ⟨he, n, hm.symm⟩

/-- The address is a new one: at block B or behind it. -/
def Fr (B : Nat) (A : Option Addr) : Prop := ∀ ad, A = some ad → B ≤ ad.block
theorem Fr.none_ (B : Nat) : Fr B none := fun _ h => by cases h
theorem Fr.mono {B C : Nat} {A : Option Addr} (h : Fr C A) (hB : B ≤ C) : Fr B A := fun ad e => Nat.le_trans hB (h ad e)
theorem own_fresh {w : World} {base : Nat} {e : TypeId} {size n m c : Nat} {A : Option Addr} {xs : List Value} (h : w.ownsRow base e size (.slice A m c) n xs) : Fr base A := by
  intro ad hA
  subst hA
  exact (h.lt ad.block rfl).1
/-- A store into another block turns nothing of a slice. -/
theorem Rd.far {w : World} {size n c : Nat} {A : Option Addr} {xs : List Value} (h : Rd w size A n c xs) {B : Nat} (hf : Fr B A) {p : Addr} (hp : p.block < B) (v : Value) : Rd (w.setCell p v) size A n c xs :=
  ⟨h.1, h.2.1, h.2.2.1, fun hn => by
    obtain ⟨ad, e, hc⟩ := h.2.2.2 hn
    exact ⟨ad, e, fun j u hu => cell_far (hc j u hu) (by rw [block_add]; have := hf ad e; omega)⟩⟩
theorem RdI.far {w : World} {n c : Nat} {A : Option Addr} {l : List Int} (h : RdI w A n c l) {B : Nat} (hf : Fr B A) {p : Addr} (hp : p.block < B) (v : Value) : RdI (w.setCell p v) A n c l := Rd.far h hf hp v

/-! ### Posts -/
/-- It returns v; nothing that was there has turned. -/
def Give (v : Value) (w : World) (e : Ending) (w' : World) : Prop := e = .returned v ∧ Ext w w'
theorem ret_int {k : IntKind} {a b : Int} (h : a = b) : Ending.returned (.int k a) = .returned (.int k b) := by rw [h]
/-- It returns a slice of ints that reads as l; nothing that was there has turned. -/
def GiveI (l : List Int) (w : World) (e : Ending) (w' : World) : Prop := ∃ A n c, e = .returned (.slice A n c) ∧ RdI w' A n c l ∧ Ext w w' ∧ Fr w.heap.size A
/-- .. and a number behind it. -/
def GiveIN (l : List Int) (x : Int) (w : World) (e : Ending) (w' : World) : Prop := ∃ A n c, e = .returned (.tuple #[.slice A n c, .int .i64 x]) ∧ RdI w' A n c l ∧ Ext w w' ∧ Fr w.heap.size A
/-- Two slices of ints in a struct, and a number. -/
def GiveBN (s m : List Int) (x : Int) (w : World) (e : Ending) (w' : World) : Prop :=
  ∃ A n c B k d, e = .returned (.tuple #[.agg #[.slice A n c, .slice B k d], .int .i64 x]) ∧ RdI w' A n c s ∧ RdI w' B k d m ∧ Ext w w' ∧ Fr w.heap.size A ∧ Fr w.heap.size B
end Go.Proofs.Ytpijfiaecicpfaa
