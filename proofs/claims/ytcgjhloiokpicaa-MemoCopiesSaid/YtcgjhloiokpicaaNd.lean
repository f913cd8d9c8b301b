/-
  bytes.Equal, Same; over, entries, pairs of the statements; Size and Copy of the reference.
-/
import Derived.Test.YtcgjhloiokpicaaNc
import Derived.Test.YtcgjhloiokpicaaMd
import Derived.Laws.BytesArg
import Derived.Lib.Bytes
namespace Go.Proofs.Ytcgjhloiokpicaa
open Go.RowKit Go.Shelf
set_option linter.unusedVariables false
set_option linter.unusedSimpArgs false
def strI (l : List Int) : ByteArray := strOfNums l
theorem conv_own {w : World} {B n : Nat} {v : Value} {l : List Int} (h : w.ownsRow B 5 1 v n (bys l)) : (convert 27 9 v).run Try.prog w = .ok (.string (strI l)) w := by
  have hl : l.length = n := by have := h.1; rw [bys_len] at this; omega
  rcases h.2 with ⟨rfl, rfl⟩ | ⟨g, cap, cur, rfl, _⟩
  · have : l = [] := List.eq_nil_of_length_eq_zero hl
    subst this
    exact run_convert_bytes_nil w 27 5 Try.underlying27 Try.underlying5 0 0 9 Try.underlying9
  · refine run_convert_bytes_arg w 27 5 Try.underlying27 Try.underlying5 g 0 n cap l hl (fun i hi => ?_) 9 Try.underlying9
    have hc := h.cells (g := g) rfl i (.int .u8 (l.getD i 0)) (by unfold bys; rw [List.getElem?_map, List.getElem?_eq_getElem (by omega)]; simp [List.getD, List.getElem?_eq_getElem (show i < l.length by omega)])
    have ha : (⟨g, 0, none⟩ : Addr).add i = ⟨g, 0 + i, none⟩ := by unfold Addr.add; split <;> simp_all
    rw [ha] at hc
    exact hc
theorem strI_inj {a b : List Int} (ha : ∀ x ∈ a, 0 ≤ x ∧ x ≤ 255) (hb : ∀ x ∈ b, 0 ≤ x ∧ x ≤ 255) (h : (strI a).toList = (strI b).toList) : a = b := by
  have e : ∀ {l : List Int}, (∀ x ∈ l, 0 ≤ x ∧ x ≤ 255) → ((strI l).toList.map fun u => (u.toNat : Int)) = l := by
    intro l hl
    unfold strI
    rw [Lib.strOfNums_toList]
    unfold Lib.bytesOf
    rw [List.map_map]
    conv => rhs; rw [← List.map_id l]
    apply List.map_congr_left
    intro x hx
    have := hl x hx
    simp [UInt8.toNat_ofNat']
    omega
  rw [← e ha, ← e hb, h]
def eqB (a b : List Int) : Bool := (strI a).toList == (strI b).toList
/-- Numbers that are bytes. -/
def isB (l : List Int) : Prop := ∀ x ∈ l, 0 ≤ x ∧ x ≤ 255
theorem isB_append {a b : List Int} (ha : isB a) (hb : isB b) : isB (a ++ b) := fun x hx => (List.mem_append.1 hx).elim (ha x) (hb x)
theorem isB_le4 (n : Int) : isB (le4 n) := by
  intro x hx
  simp [le4] at hx
  rcases hx with rfl | rfl | rfl | rfl <;> omega
theorem isB_txt (s : ByteArray) : isB (txt s) := by
  intro x hx
  obtain ⟨b, _, rfl⟩ := List.mem_map.1 hx
  have := b.toNat_lt
  omega
theorem isB_pad {l : List Int} (h : isB l) (n : Nat) : isB (pad l n) := by
  refine isB_append h (fun x hx => ?_)
  rw [List.eq_of_mem_replicate hx]
  omega
theorem isB_file (size : Int) (l : List En) : isB (fileB size l) := by
  have hp : ∀ x, isB (entB size x) := fun x => by
    refine isB_pad (isB_append (isB_le4 _) (isB_append (isB_le4 _) ?_)) _
    split
    · intro x hx; cases hx
    · exact isB_append (isB_le4 _) (isB_txt _)
  refine isB_append (isB_pad (isB_append (isB_le4 _) ?_) _) ?_
  · intro x hx
    simp at hx
    rcases hx with rfl | rfl <;> omega
  · induction l with
    | nil => intro x hx; cases hx
    | cons x l ih => exact isB_append (hp x) ih
section
set_option maxRecDepth 100000
set_option maxHeartbeats 4000000
theorem Equal_any (B1 B2 n1 n2 : Nat) (v1 v2 : Value) (a b : List Int) (w : World) (h1 : w.ownsRow B1 5 1 v1 n1 (bys a)) (h2 : w.ownsRow B2 5 1 v2 n2 (bys b)) : Calls Try.prog 38 #[v1, v2] w fun e w' => e = .returned (.bool (eqB a b)) ∧ w = w' := by
  have c1 := conv_own h1
  have c2 := conv_own h2
  have hq : Hid (eqB a b = ((strI a).toList == (strI b).toList)) := rfl
  generalize eqB a b = eb at *
  generalize strI a = sa at *
  generalize strI b = sb at *
  obtain ⟨A1, d1, rfl, -⟩ := own_form h1
  obtain ⟨A2, d2, rfl, -⟩ := own_form h2
  clear h1 h2
  go_enter Try.func38, Try.ntmps38
  go_wp2
  go_ret
  exact ⟨ret_bool hq.out.symm, rfl⟩
end
/-- Two objects in memory with rows of their own that share nothing. -/
def Apart (g : Nat) (v : Value) (r : Nat) (vr : Value) : Prop := g ≠ r ∧ v.ownBlock ≠ some r ∧ vr.ownBlock ≠ some g ∧ ∀ k, v.ownBlock = some k → vr.ownBlock ≠ some k
section
variable {g r : Nat} {v v' vr : Value} {w w' : World} {size : Int} {l : List En}
theorem Apart.symm (h : Apart g v r vr) : Apart r vr g v := ⟨h.1.symm, h.2.2.1, h.2.1, fun k e e2 => h.2.2.2 k e2 e⟩
theorem MT.apart (h : MT g v v' w w') (ha : Apart g v r vr) (hr : r < w.heap.size) (hvr : ∀ k, vr.ownBlock = some k → k < w.heap.size) : Apart g v' r vr := by
  refine ⟨ha.1, h.own hr ha.2.1, ha.2.2.1, fun k e e2 => ?_⟩
  have hk := hvr k e2
  exact h.own hk (fun e3 => ha.2.2.2 k e3 e2) e
theorem MT.rowG {B n sz : Nat} {t : TypeId} {vo : Value} {xs : List Value} (h : MT g v v' w w') (ho : w.ownsRow B t sz vo n xs) (hg : vo.ownBlock ≠ some g) (hv : ∀ k, vo.ownBlock = some k → v.ownBlock ≠ some k) : w'.ownsRow B t sz vo n xs := by
  refine ⟨ho.1, ?_⟩
  rcases ho.2 with h2 | ⟨g', cap, cur, rfl, e2, e3, e4⟩
  · exact .inl h2
  · exact .inr ⟨g', cap, cur, rfl, e2, (h.block (Array.getElem?_eq_some_iff.1 e3).1 (fun e => hg (by rw [← e]; rfl)) (hv g' rfl)).trans e3, e4⟩
theorem MT.ma {lk : Int} (h : MT g v v' w w') (h2 : MA lk w r size vr l) (ha : Apart g v r vr) : MA lk w' r size vr l := by
  have hl := h2.lt
  obtain ⟨q, e1, e2, e3⟩ := h2
  exact ⟨q, (h.block hl ha.1.symm ha.2.1).trans e1, h.rowG e2 ha.2.2.1 (fun k e1 e2 => ha.2.2.2 k e2 e1), e3⟩
theorem MT.ra (h : MT g v v' w w') (h2 : RA w r size vr l) (ha : Apart g v r vr) : RA w' r size vr l :=
  ⟨(h.block h2.lt ha.1.symm ha.2.1).trans h2.1, h.rowG h2.2.1 ha.2.2.1 (fun k e1 e2 => ha.2.2.2 k e2 e1), h2.2.2⟩
theorem MA.ownlt {lk : Int} (h : MA lk w r size vr l) : ∀ k, vr.ownBlock = some k → k < w.heap.size := fun k e => (h.own.lt k e).2
theorem RA.ownlt (h : RA w r size vr l) : ∀ k, vr.ownBlock = some k → k < w.heap.size := fun k e => (h.own.lt k e).2
/-- A row of new memory stands apart. -/
theorem row_far {W : World} {B n sz : Nat} {t : TypeId} {vo : Value} {xs : List Value} (ho : W.ownsRow B t sz vo n xs) (hg : g < B) (hv : ∀ k, v.ownBlock = some k → k < B) : vo.ownBlock ≠ some g ∧ ∀ k, vo.ownBlock = some k → v.ownBlock ≠ some k :=
  ⟨fun e => by have := own_freshB ho _ e; omega, fun k e e2 => by have := own_freshB ho _ e; have := hv k e2; omega⟩
end
section
set_option maxRecDepth 100000
set_option maxHeartbeats 4000000
theorem Same_any (size size2 : Int) (g g2 : Nat) (v v2 : Value) (l l2 : List En) (w : World) (h : MA 0 w g size v l) (h2 : MA 0 w g2 size2 v2 l2) (hG : Good size l) (hG2 : Good size2 l2) (hs : 16 ≤ size ∧ size ≤ 256) (hs2 : 16 ≤ size2 ∧ size2 ≤ 256)
    (ha : Apart g v g2 v2) : Calls Try.prog 27 #[.pointer (some ⟨g, 0, none⟩), .pointer (some ⟨g2, 0, none⟩)] w fun e w' => e = .returned (.bool (eqB (fileB size l) (fileB size2 l2))) ∧ ∃ w1, MT g v v w w1 ∧ MT g2 v2 v2 w1 w' := by
  have hB1 := hid (Bytes_any size g v l w h hG hs.1 hs.2)
  have hB2 := hid (fun w (h2 : MA 0 w g2 size2 v2 l2) => Bytes_any size2 g2 v2 l2 w h2 hG2 hs2.1 hs2.2)
  have hlt := hid h2.lt
  have hol := hid h2.ownlt
  generalize fileB size l = F1 at *
  generalize fileB size2 l2 = F2 at *
  go_enter Try.func27, Try.ntmps27
  go_wp2_with fail
  refine hB1.out.mono ?_
  rintro e w1 ⟨u1, rfl, o1, m1, t1⟩
  have h21 := hid (t1.ma h2 ha)
  have hf := hid (row_far o1 hlt.out hol.out)
  replace o1 := hid o1
  replace t1 := hid t1
  clear hB1 m1
  go_wp2_with fail
  refine (hB2.out _ h21.out).mono ?_
  rintro e w2 ⟨u2, rfl, o2, m2, t2⟩
  replace o1 := hid (t2.rowG o1.out hf.out.1 hf.out.2)
  replace o2 := hid o2
  replace t2 := hid t2
  clear hB2 m2
  go_wp2_with fail
  refine (Equal_any _ _ _ _ u1 u2 F1 F2 _ o1.out o2.out).mono ?_
  rintro e w3 ⟨rfl, rfl⟩
  go_wp2
  go_ret
  exact ⟨rfl, w1, t1.out, t2.out⟩
end
end Go.Proofs.Ytcgjhloiokpicaa
