/-
  put: what it does to the list; what a range over a function must abide; frees as a contract.
-/
import Derived.Test.YtcgjhloiokpicaaM8
import Derived.RangeFuncFrom
namespace Go.Proofs.Ytcgjhloiokpicaa
open Go.RowKit Go.Shelf
set_option linter.unusedVariables false
set_option linter.unusedSimpArgs false
def fitE (n : Int) (x : En) : Bool := (x.kind == 0) && decide (n ≤ x.blocks)
/-- The entries that come in the place of a free one. -/
def newE (x : En) (n : Int) (s : ByteArray) : List En := ⟨x.block, n, 1, s⟩ :: (if n < x.blocks then [⟨x.block + n, x.blocks - n, 0, ⟨#[]⟩⟩] else [])
def putAt (l : List En) (i : Nat) (n : Int) (s : ByteArray) : List En := l.take i ++ (newE (eth l i) n s ++ l.drop (i + 1))
def putN (l : List En) (n : Int) : Nat := l.findIdx (fitE n)
def putL (l : List En) (n : Int) (s : ByteArray) : List En := if putN l n < l.length then putAt l (putN l n) n s else if endI l + n ≤ 4096 then l ++ [⟨endI l, n, 1, s⟩] else l
def putB (l : List En) (n : Int) : Int := if putN l n < l.length then (eth l (putN l n)).block else if endI l + n ≤ 4096 then endI l else 0
def putO (l : List En) (n : Int) : Bool := if putN l n < l.length then true else decide (endI l + n ≤ 4096)
theorem putN_is {l : List En} {n : Int} {k : Nat} (hk : k < l.length) (hb : ∀ j, j < k → fitE n (eth l j) = false) (h : fitE n (eth l k) = true) : putN l n = k := by
  unfold putN
  rw [List.findIdx_eq hk]
  refine ⟨by rw [← eth_get hk]; exact h, fun j hj => ?_⟩
  have := hb j hj
  rw [eth_get (by omega)] at this
  exact this
theorem putN_none {l : List En} {n : Int} (hb : ∀ j, j < l.length → fitE n (eth l j) = false) : ¬ putN l n < l.length := by
  intro h
  have h2 : fitE n (l[putN l n]) = true := List.findIdx_getElem (w := h)
  have := hb _ h
  rw [eth_get h, h2] at this
  cases this
/-- What a range over a function turns besides: blocks that are no cells. -/
def NoCells (W : World) (row : Option Nat) : Prop := ∀ r, row = some r → ∃ o : Obj, W.heap[r]? = some o ∧ o.isCells = false
theorem cells_row {W W' : World} {row : Option Nat} (hg : W.grownBy W' row) (hr : NoCells W row) {k : Nat} {cs : Array Value} {t : TypeId} {fr : Nat × Nat} (h : W.heap[k]? = some (.cells cs t fr)) : W'.heap[k]? = some (.cells cs t fr) := by
  rw [hg.block k (Array.getElem?_eq_some_iff.1 h).1 (fun e => ?_)]
  · exact h
  · obtain ⟨o, ho, hc⟩ := hr k e.symm
    rw [h] at ho
    cases ho
    cases hc
theorem MA.keep {lk size : Int} {W W' : World} {g : Nat} {v : Value} {l : List En} {row : Option Nat} (h : MA lk W g size v l) (hg : W.grownBy W' row) (hr : NoCells W row) : MA lk W' g size v l := by
  obtain ⟨q, h1, h2, h3⟩ := h
  refine ⟨q, cells_row hg hr h1, h2.kept hg ?_, h3⟩
  rcases h2.2 with ⟨rfl, _⟩ | ⟨g', cap, cur, rfl, _, hgb, _⟩
  · exact .inl rfl
  · refine .inr fun e' => ?_
    obtain ⟨o, ho, hc⟩ := hr g' (by simpa [Value.ownBlock] using e'.symm)
    rw [hgb] at ho; cases ho; cases hc
theorem Ext.keep {u W W' : World} {row : Option Nat} (h : Ext u W) (hg : W.grownBy W' row) (hr : ∀ r, row = some r → u.heap.size ≤ r) : Ext u W' :=
  ⟨hg.os.trans h.os, hg.tape.trans h.tape, hg.output.trans h.output, Nat.le_trans h.size hg.size, fun k hk => (hg.block k (Nat.lt_of_lt_of_le hk h.size) (fun e => by have := hr k e.symm; omega)).trans (h.block hk)⟩
theorem MT.keep {g : Nat} {v v' : Value} {u W W' : World} {row : Option Nat} (h : MT g v v' u W) (hg : W.grownBy W' row) (hr : ∀ r, row = some r → u.heap.size ≤ r) : MT g v v' u W' :=
  ⟨h.1.trans hg.os.symm, h.2.1.trans hg.tape.symm, h.2.2.1.trans hg.output.symm, Nat.le_trans h.2.2.2.1 hg.size, fun k hk h1 h2 => (hg.block k (Nat.lt_of_lt_of_le hk h.2.2.2.1) (fun e => by have := hr k e.symm; omega)).trans (h.2.2.2.2.1 k hk h1 h2), h.2.2.2.2.2⟩
theorem MA.put {lk size : Int} {W w3 : World} {g : Nat} {v v' : Value} {l l' : List En} (h : MA lk W g size v l) (hrw : Rw v v' W w3) (ho : w3.ownsRow 0 78 4 v' l'.length (ents l')) : MA lk (w3.setCell ⟨g, 3, none⟩ v') g size v' l' ∧ v'.ownBlock ≠ some g ∧ w3.cell? ⟨g, 3, none⟩ = some v ∧ w3.frozen? ⟨g, 3, none⟩ = false := by
  have hlt := h.lt
  obtain ⟨q, h1, h2, h3⟩ := h
  have hne : v'.ownBlock ≠ some g := by
    rcases hrw.2 with e | e
    · rw [e]; exact h3
    · intro e2; have := e g e2; omega
  have hb : w3.heap[g]? = some (.cells #[.int .i32 lk, .int .u32 q, .int .i64 size, v] 76 (0, 0)) := (hrw.1.block g hlt (fun e => h3 e.symm)).trans h1
  refine ⟨⟨q, ?_, own_set ho hne 3 _, hne⟩, hne, ?_, ?_⟩
  · simp [World.setCell, Array.getElem?_modify, hb]
  · rw [Lib.cell_of_heap hb]; rfl
  · exact Lib.frozen_of_heap hb 3
theorem MA.other {lk size : Int} {W : World} {g b : Nat} {v : Value} {l : List En} (h : MA lk W g size v l) (hb : b ≠ g) (hv : v.ownBlock ≠ some b) (i : Nat) (u : Value) : MA lk (W.setCell ⟨b, i, none⟩ u) g size v l := by
  obtain ⟨q, h1, h2, h3⟩ := h
  exact ⟨q, (heap_setCell_other _ _ g _ (by exact Ne.symm hb)).trans h1, own_set h2 hv i u, h3⟩
theorem MT.out {g b : Nat} {v v' : Value} {w W : World} (h : MT g v v' w W) (hb : w.heap.size ≤ b) (i : Nat) (u : Value) : MT g v v' w (W.setCell ⟨b, i, none⟩ u) :=
  ⟨h.1, h.2.1, h.2.2.1, by simpa using h.2.2.2.1, fun k hk hg hv => (heap_setCell_other _ _ k _ (by exact fun e => by simp at e; omega)).trans (h.2.2.2.2.1 k hk hg hv), h.2.2.2.2.2⟩
theorem cell_row {W W' : World} {row : Option Nat} (hg : W.grownBy W' row) (hr : NoCells W row) {a : Addr} {v : Value} (h : W.cell? a = some v) : W'.cell? a = some v := cell_kept h hg hr
theorem ext_below {w W : World} (h : Below w.heap.size w W) : Ext w W := ⟨h.os, h.tape, h.output, h.size, fun k hk => h.block k hk⟩
theorem below_ext {w W : World} (h : Ext w W) : Below w.heap.size w W := ⟨h.os, h.tape, h.output, h.size, fun k hk => h.block hk⟩
set_option maxRecDepth 100000 in
set_option maxHeartbeats 1000000 in
theorem freesF_any (p : Option Addr) (w : World) : Calls Try.prog 66 #[.pointer p] w fun e w' => e = .returned (.func (.func 80) #[] #[.pointer (some ⟨w.heap.size, 0, none⟩)]) ∧ w' = w.alloc (.cells #[.pointer p] 28) := by
  go_enter Try.func66, Try.ntmps66
  go_wp2
  go_ret
  exact ⟨rfl, rfl⟩
theorem frees_stops (F : Fence) (n : Nat) (h7 : F.fn 80) (hro : F.round = none) (hn : 1 ≤ n) (B : Nat) (lk size : Int) (g : Nat) (v : Value) (l : List En) (w : World)
    (hB : w.cell? ⟨B, 0, none⟩ = some (.pointer (some ⟨g, 0, none⟩))) (h : MA lk w g size v l) :
    SeqStopsK F n Try.prog 80 #[.pointer (some ⟨B, 0, none⟩)] (fun x : Pl l => #[Value.int .i64 x.1]) (Below w.heap.size) (fun ys => plv ys = frs l l.length) (fun pre => plv pre <+: frs l l.length) l.length w := fun lp J Jx W hW hJ _ hY h0 => by
  have hx := ext_below hW
  have hh := h.ext hx
  obtain ⟨A, c, rfl, hr⟩ := hh.rd
  refine frees1_in F n h7 hro hn lp B w.heap.size g A l.length c l J Jx W (hx.cell hB) hh.c3 hr (fun ad e => ?_) hx.size hJ hY h0
  subst e
  have ho := h.own
  rcases ho.2 with ⟨h1, _⟩ | ⟨g', cap, cur, h1, _, hg, _⟩
  · injection h1 with e1 _ _; cases e1
  · injection h1 with e1 _ _
    injection e1 with e1
    rw [e1]
    exact (Array.getElem?_eq_some_iff.1 hg).1
end Go.Proofs.Ytcgjhloiokpicaa
