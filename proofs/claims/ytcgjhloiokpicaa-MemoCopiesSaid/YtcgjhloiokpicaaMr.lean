/-
  The reference's memo files in memory; what reads them: blocks, begin, at, Get, Size; New.
-/
import Derived.Test.YtcgjhloiokpicaaMi
namespace Go.Proofs.Ytcgjhloiokpicaa
open Go.RowKit Go.Shelf
set_option linter.unusedVariables false
set_option linter.unusedSimpArgs false
def rcells (x : En) : List Value := [.int .i64 x.blocks, .bool (x.kind == 0), .string x.s]
def rents : List En → List Value
  | [] => []
  | x :: l => rcells x ++ rents l
theorem rents_len : ∀ l : List En, (rents l).length = l.length * 3
  | [] => rfl
  | x :: l => by rw [rents, List.length_append, rents_len l, List.length_cons]; simp [rcells]; omega
theorem rents_append : ∀ a b : List En, rents (a ++ b) = rents a ++ rents b
  | [], b => rfl
  | x :: a, b => by rw [List.cons_append, rents, rents, rents_append a b, List.append_assoc]
theorem rents_at : ∀ (l : List En) (k : Nat) (h : k < l.length) (j : Nat), j < 3 → (rents l)[k * 3 + j]? = (rcells l[k])[j]?
  | x :: l, 0, _, j, hj => by rw [rents, List.getElem?_append_left (by simp [rcells]; omega)]; simp
  | x :: l, k + 1, h, j, hj => by
    rw [rents, List.getElem?_append_right (by simp [rcells]; omega)]
    have := rents_at l k (by simpa using h) j hj
    simp only [List.getElem_cons_succ]
    rw [← this]
    congr 1
    simp [rcells]
    omega
theorem rents_one : ∀ (l : List En), ∀ u ∈ rents l, u.oneCell' = true
  | [], u, h => by cases h
  | x :: l, u, h => by
    rw [rents, List.mem_append] at h
    rcases h with h | h
    · simp [rcells] at h
      rcases h with rfl | rfl | rfl <;> rfl
    · exact rents_one l u h
/-- A memo file of the reference lies at block r. -/
def RA (w : World) (r : Nat) (size : Int) (v : Value) (l : List En) : Prop :=
  w.heap[r]? = some (.cells #[.int .i64 size, v] 85 (0, 0)) ∧ w.ownsRow 0 87 3 v l.length (rents l) ∧ v.ownBlock ≠ some r
section
variable {size : Int} {w w' : World} {r : Nat} {v : Value} {l : List En}
theorem RA.lt (h : RA w r size v l) : r < w.heap.size := (Array.getElem?_eq_some_iff.1 h.1).1
theorem RA.c0 (h : RA w r size v l) : w.cell? ⟨r, 0, none⟩ = some (.int .i64 size) := by rw [Lib.cell_of_heap h.1]; rfl
theorem RA.c1 (h : RA w r size v l) : w.cell? ⟨r, 1, none⟩ = some v := by rw [Lib.cell_of_heap h.1]; rfl
theorem RA.free (h : RA w r size v l) (i : Nat) : w.frozen? ⟨r, i, none⟩ = false := Lib.frozen_of_heap h.1 i
theorem RA.own (h : RA w r size v l) : w.ownsRow 0 87 3 v l.length (rents l) := h.2.1
theorem RA.ne (h : RA w r size v l) : v.ownBlock ≠ some r := h.2.2
theorem RA.ext (h : RA w r size v l) (hx : Ext w w') : RA w' r size v l := ⟨(hx.block h.lt).trans h.1, hx.own h.2.1, h.2.2⟩
theorem RA.new (w : World) (size : Int) : RA (w.alloc (.cells #[.int .i64 size, .slice none 0 0] 85)) w.heap.size size (.slice none 0 0) [] :=
  ⟨heap_alloc_new w _, World.ownsRow_nil _ _ _ _, by simp [Value.ownBlock]⟩
/-- Another slice comes into the file. -/
theorem RA.put {l' : List En} {v' : Value} (h : RA w r size v l) (ho : w.ownsRow 0 87 3 v' l'.length (rents l')) (hne : v'.ownBlock ≠ some r) : RA (w.setCell ⟨r, 1, none⟩ v') r size v' l' :=
  ⟨by simp [World.setCell, Array.getElem?_modify, h.1], own_set ho hne 1 _, hne⟩
end
theorem cell_fk {w : World} {ad : Addr} {m j : Nat} {v : Value} (h : w.cell? (ad.add (m + j)) = some v) (hj : 0 < j) : w.cell? ⟨(ad.add m).block, (ad.add m).off + j, none⟩ = some v := by
  rw [← add_add4] at h
  generalize ad.add m = q at *
  unfold Addr.add at h
  rw [if_neg (by omega)] at h
  exact h
def RdR (w : World) (A : Option Addr) (n c : Nat) (l : List En) : Prop := Rd w 3 A n c (rents l)
section
variable {w w' : World} {A : Option Addr} {n c : Nat} {l : List En}
theorem RdR.len (h : RdR w A n c l) : l.length = n := by have := h.1; rw [rents_len] at this; omega
theorem RdR.ext (h : RdR w A n c l) (hb : Ext w w') : RdR w' A n c l := Rd.ext h hb
theorem RdR.at_ (h : RdR w A n c l) {k : Nat} (hk : k < n) : ∃ ad, A = some ad ∧ w.cell? (ad.add (k * 3)) = some (.int .i64 (eth l k).blocks) ∧ w.cell? ⟨(ad.add (k * 3)).block, (ad.add (k * 3)).off + 1, none⟩ = some (.bool ((eth l k).kind == 0)) ∧ w.cell? ⟨(ad.add (k * 3)).block, (ad.add (k * 3)).off + 2, none⟩ = some (.string (eth l k).s) := by
  obtain ⟨ad, hA, hc⟩ := h.2.2.2 (by omega)
  have hl : k < l.length := by rw [h.len]; exact hk
  rw [eth_get hl]
  refine ⟨ad, hA, ?_, ?_, ?_⟩
  · exact hc (k * 3 + 0) _ (by rw [rents_at l k hl 0 (by decide)]; rfl)
  · exact cell_fk (hc (k * 3 + 1) _ (by rw [rents_at l k hl 1 (by decide)]; rfl)) (by decide)
  · exact cell_fk (hc (k * 3 + 2) _ (by rw [rents_at l k hl 2 (by decide)]; rfl)) (by decide)
end
theorem RA.rd {size : Int} {w : World} {r : Nat} {v : Value} {l : List En} (h : RA w r size v l) : ∃ A c, v = .slice A l.length c ∧ RdR w A l.length c l := own_rd h.own
/-! ### Where an entry begins -/
def begN (l : List En) (k : Nat) : Int := 1 + ((l.take k).map En.blocks).sum
theorem begN_succ {l : List En} {k : Nat} (h : k < l.length) : begN l (k + 1) = begN l k + (eth l k).blocks := by
  unfold begN
  rw [List.take_succ_eq_append_getElem h, List.map_append, List.sum_append, eth_get h]
  simp
  omega
theorem run_beg {size : Int} : ∀ {l : List En} {b e : Int} {f f' : Bool}, Run size b f l e f' → (∀ k, k < l.length → b + ((l.take k).map En.blocks).sum = (eth l k).block) ∧ b + (l.map En.blocks).sum = e
  | [], b, e, f, f', h => ⟨fun k hk => absurd hk (by simp), by simpa using h.1⟩
  | x :: l, b, e, f, f', ⟨h1, h2, h3, h4⟩ => by
    obtain ⟨i1, i2⟩ := run_beg h4
    constructor
    · intro k hk
      cases k with
      | zero => simpa [eth, List.getD] using h1.symm
      | succ k =>
        have := i1 k (by simpa using hk)
        simp only [List.take_succ_cons, List.map_cons, List.sum_cons]
        rw [← Int.add_assoc, this]
        rfl
    · simp only [List.map_cons, List.sum_cons]
      rw [← Int.add_assoc, i2]
theorem beg_good {size : Int} {l : List En} (h : Good size l) : (∀ k, k < l.length → begN l k = (eth l k).block) ∧ begN l l.length = endI l ∧ ∀ k, k ≤ l.length → 1 ≤ begN l k ∧ begN l k ≤ 4096 := by
  have hf := good_facts h
  obtain ⟨e, h1, h2⟩ := h
  obtain ⟨i1, i2⟩ := run_beg h1
  have he := end_run h1 h2
  have e2 : begN l l.length = endI l := by unfold begN; rw [List.take_length, i2, he]
  refine ⟨i1, e2, fun k hk => ?_⟩
  rcases Nat.lt_or_ge k l.length with hlt | hge
  · rw [show begN l k = (eth l k).block from i1 k hlt]
    have := hf.2.1 k hlt
    omega
  · obtain rfl : k = l.length := by omega
    rw [e2]
    exact hf.2.2.2
section
set_option maxRecDepth 100000
set_option maxHeartbeats 4000000
theorem blocks_any (size : Int) (r : Nat) (v : Value) (l : List En) (w : World) (h : RA w r size v l) (hb : ∀ k, k ≤ l.length → 1 ≤ begN l k ∧ begN l k ≤ 9000) : Calls Try.prog 55 #[.pointer (some ⟨r, 0, none⟩)] w fun e w' => e = .returned (.int .i64 (begN l l.length)) ∧ w = w' := by
  have c1 := h.c1
  obtain ⟨A, c, rfl, hr⟩ := h.rd
  clear h
  have hmx := Rd.max hr
  have hs := hid (fun k => begN_succ (l := l) (k := k))
  replace hb := hid hb
  generalize hn : l.length = n at *
  replace hr := hid hr
  have lg := World.block_lt_of_cell? w _ c1
  dsimp only at lg
  go_enter Try.func55, Try.ntmps55
  go_wp2_with fail
  go_loopw [3, 4] (fun s i wr => ∃ k : Nat, k ≤ n ∧ s = .int .i64 (begN l k) ∧ i = .int .i64 k ∧ wr = w) (fun _ i _ => n - (intOf i).toNat)
  case atStart => exact ⟨0, by omega, by unfold begN; simp, rfl, rfl⟩
  case round =>
    obtain ⟨k, hk, rfl, rfl, rfl⟩ := hrel
    by_cases hlt : k < n
    · obtain ⟨ad, rfl, x0, x1, x2⟩ := hr.out.at_ hlt
      have h1 := hb.out k hk
      have h2 := hb.out (k + 1) (by omega)
      have h3 := hs.out k (by omega)
      have hw : IntKind.i64.wrap (begN l k + (eth l k).blocks) = begN l (k + 1) := by rw [IntWalk.i64_in _ (by omega), h3]
      clear h1 h2 h3
      generalize (eth l k).blocks = z at *
      go_wp2_with fail
      go_roundw
      case rel => exact ⟨k + 1, by omega, rfl, by go_num, by trivial⟩
      case measure => simp [intOf]; omega
    · obtain rfl : k = n := by omega
      go_wp2
      go_ret
      exact ⟨rfl, rfl⟩
theorem begin_any (size : Int) (r : Nat) (v : Value) (l : List En) (m : Nat) (w : World) (h : RA w r size v l) (hm : m ≤ l.length) (hb : ∀ k, k ≤ l.length → 1 ≤ begN l k ∧ begN l k ≤ 9000) : Calls Try.prog 44 #[.pointer (some ⟨r, 0, none⟩), .int .i64 m] w fun e w' => e = .returned (.int .i64 (begN l m)) ∧ w = w' := by
  have c1 := h.c1
  obtain ⟨A, c, rfl, hr⟩ := h.rd
  clear h
  have hmx := Rd.max hr
  have hs := hid (fun k => begN_succ (l := l) (k := k))
  replace hb := hid hb
  generalize hn : l.length = n at *
  replace hr := hid hr
  have lg := World.block_lt_of_cell? w _ c1
  dsimp only at lg
  go_enter Try.func44, Try.ntmps44
  go_wp2_with fail
  go_loopw [5, 6] (fun s i wr => ∃ k : Nat, k ≤ m ∧ s = .int .i64 (begN l k) ∧ i = .int .i64 k ∧ wr = w) (fun _ i _ => m - (intOf i).toNat)
  case atStart => exact ⟨0, by omega, by unfold begN; simp, rfl, rfl⟩
  case round =>
    obtain ⟨k, hk, rfl, rfl, rfl⟩ := hrel
    by_cases hlt : k < m
    · obtain ⟨ad, rfl, x0, x1, x2⟩ := hr.out.at_ (k := k) (by omega)
      have hlt2 : k < n := by omega
      have h1 := hb.out k (by omega)
      have h2 := hb.out (k + 1) (by omega)
      have h3 := hs.out k (by omega)
      have hw : IntKind.i64.wrap (begN l k + (eth l k).blocks) = begN l (k + 1) := by rw [IntWalk.i64_in _ (by omega), h3]
      clear h1 h2 h3
      generalize (eth l k).blocks = z at *
      go_wp2_with fail
      go_roundw
      case rel => exact ⟨k + 1, by omega, rfl, by go_num, by trivial⟩
      case measure => simp [intOf]; omega
    · obtain rfl : k = m := by omega
      go_wp2
      go_ret
      exact ⟨rfl, rfl⟩
theorem at_any (size : Int) (r : Nat) (v : Value) (l : List En) (b : Int) (w : World) (h : RA w r size v l) (hG : Good size l) : Calls Try.prog 64 #[.pointer (some ⟨r, 0, none⟩), .int .i64 b] w fun e w' => e = .returned (.int .i64 (findI l b)) ∧ w = w' := by
  have c1 := h.c1
  obtain ⟨A, c, rfl, hr⟩ := h.rd
  clear h
  have hmx := Rd.max hr
  have hs := hid (fun k => begN_succ (l := l) (k := k))
  obtain ⟨hbk, hbe, hb⟩ := beg_good hG
  have hkd : Hid (∀ k, k < l.length → (eth l k).kind = 0 ∨ (eth l k).kind = 1) := fun k hk => by
    obtain ⟨_, _, _, g2, _⟩ := good_at hG hk
    rcases g2.2 with h | h
    · exact .inl h.1
    · exact .inr h.1
  have hF1 := hid (fun k => findI_hit (l := l) (b := b) (k := k))
  have hF0 := hid (findI_none (l := l) (b := b))
  generalize findI l b = R at *
  replace hb := hid hb
  replace hbk := hid hbk
  clear hG hbe
  generalize hn : l.length = n at *
  replace hr := hid hr
  have lg := World.block_lt_of_cell? w _ c1
  dsimp only at lg
  go_enter Try.func64, Try.ntmps64
  go_wp2_with fail
  go_loopw [5, 6] (fun s i wr => ∃ k : Nat, k ≤ n ∧ s = .int .i64 (begN l k) ∧ i = .int .i64 k ∧ wr = w ∧ Hid (∀ j, j < k → hitE b (eth l j) = false)) (fun _ i _ => n - (intOf i).toNat)
  case atStart => exact ⟨0, by omega, by unfold begN; simp, rfl, rfl, fun j hj => absurd hj (by omega)⟩
  case round =>
    obtain ⟨k, hk, rfl, rfl, rfl, hno⟩ := hrel
    by_cases hlt : k < n
    · obtain ⟨ad, rfl, x0, x1, x2⟩ := hr.out.at_ hlt
      have h1 := hb.out k hk
      have h2 := hb.out (k + 1) (by omega)
      have h3 := hs.out k (by omega)
      have hw : IntKind.i64.wrap (begN l k + (eth l k).blocks) = begN l (k + 1) := by rw [IntWalk.i64_in _ (by omega), h3]
      have hbl := hbk.out k hlt
      have hkk := hkd.out k hlt
      clear h1 h2 h3
      by_cases q1 : begN l k = b
      · have d1 : (begN l k == b) = true := by rw [beq_iff_eq]; exact q1
        by_cases q2 : (eth l k).kind = 0
        · have d2 : ((eth l k).kind == 0) = true := by rw [q2]; rfl
          have hn2 : Hid (∀ j, j < k + 1 → hitE b (eth l j) = false) := by
            intro j hj
            by_cases e : j = k
            · subst e; unfold hitE; rw [q2, Bool.and_eq_false_iff]; exact .inr rfl
            · exact hno.out j (by omega)
          clear hno q1 q2 hkk hbl
          generalize ((eth l k).kind == 0) = fr at *
          subst d2
          generalize (eth l k).blocks = z at *
          generalize (eth l k).s = z3 at *
          go_wp2_with fail
          go_roundw
          case rel => exact ⟨k + 1, by omega, rfl, by go_num, by trivial, hn2⟩
          case measure => simp [intOf]; omega
        · have d2 : ((eth l k).kind == 0) = false := by rw [beq_eq_false_iff_ne]; exact q2
          have hR := hid (hF1.out k hlt hno.out (by unfold hitE; rw [hbl.symm.trans q1, hkk.resolve_left q2]; simp))
          clear hno q1 q2 hkk hbl
          generalize ((eth l k).kind == 0) = fr at *
          subst d2
          generalize (eth l k).blocks = z at *
          generalize (eth l k).s = z3 at *
          go_wp2_with fail
          go_ret
          exact ⟨ret_int hR.out.symm, rfl⟩
      · have d1 : (begN l k == b) = false := by rw [beq_eq_false_iff_ne]; exact q1
        have hn2 : Hid (∀ j, j < k + 1 → hitE b (eth l j) = false) := by
          intro j hj
          by_cases e : j = k
          · subst e; unfold hitE; rw [← hbl, d1]; rfl
          · exact hno.out j (by omega)
        clear hno q1 hkk hbl
        generalize ((eth l k).kind == 0) = fr at *
        generalize (eth l k).blocks = z at *
        generalize (eth l k).s = z3 at *
        go_wp2_with fail
        go_roundw
        case rel => exact ⟨k + 1, by omega, rfl, by go_num, by trivial, hn2⟩
        case measure => simp [intOf]; omega
    · obtain rfl : k = n := by omega
      have hR := hid (hF0.out hno.out)
      clear hno
      go_wp2
      go_ret
      exact ⟨ret_int hR.out.symm, rfl⟩
theorem rGet_any (size : Int) (r : Nat) (v : Value) (l : List En) (b : Int) (w : World) (h : RA w r size v l) (hG : Good size l) : Calls Try.prog 46 #[.pointer (some ⟨r, 0, none⟩), .int .i64 b] w fun e w' => e = .returned (.tuple #[.string (getS l b), .int .i64 (getE l b)]) ∧ w = w' := by
  have hA := hid (at_any size r v l b w h hG)
  have c1 := h.c1
  obtain ⟨A, c, rfl, hr⟩ := h.rd
  have hmx := Rd.max hr
  have lg := World.block_lt_of_cell? w _ c1
  dsimp only at lg
  rcases get_cases l b with ⟨q1, q2, q3⟩ | ⟨k, hk, q1, q2, q3⟩
  · rw [q1] at hA
    rw [q2, q3]
    clear q1 q2 q3 hr h hG
    go_enter Try.func46, Try.ntmps46
    go_wp2_with fail
    refine hA.out.mono ?_
    rintro e w' ⟨rfl, rfl⟩
    go_wp2
    go_ret2
    exact ⟨rfl, rfl⟩
  · rw [q1] at hA
    rw [q2, q3]
    obtain ⟨ad, rfl, x0, x1, x2⟩ := hr.at_ hk
    clear q1 q2 q3 hr h hG
    have hkk : (k : Int) < (l.length : Int) := by omega
    generalize (eth l k).s = z3 at *
    go_enter Try.func46, Try.ntmps46
    go_wp2_with fail
    refine hA.out.mono ?_
    rintro e w' ⟨rfl, rfl⟩
    go_wp2
    go_ret2
    exact ⟨rfl, rfl⟩
theorem rNew_any (n : Int) (w : World) : Calls Try.prog 20 #[.int .i64 n] w fun e w' => (szB n = false ∧ e = .returned (.tuple #[.pointer none, .int .i64 1]) ∧ w = w') ∨ (szB n = true ∧ e = .returned (.tuple #[.pointer (some ⟨w.heap.size, 0, none⟩), .int .i64 0]) ∧ RA w' w.heap.size n (.slice none 0 0) [] ∧ Ext w w') := by
  cases h1 : szB n with
  | false =>
    have h1 := hid h1
    go_enter Try.func20, Try.ntmps20
    go_wp2_with fail
    refine (risSize_any n _).mono ?_
    rintro e w' ⟨rfl, rfl⟩
    rw [h1.out]
    go_wp2
    go_ret2
    exact .inl ⟨trivial, rfl, rfl⟩
  | true =>
    have h1 := hid h1
    go_enter Try.func20, Try.ntmps20
    go_wp2_with fail
    refine (risSize_any n _).mono ?_
    rintro e w' ⟨rfl, rfl⟩
    rw [h1.out]
    go_wp2
    go_ret2
    exact .inr ⟨trivial, rfl, RA.new w n, (Ext.refl w).alloc_right _⟩
end
end Go.Proofs.Ytcgjhloiokpicaa
