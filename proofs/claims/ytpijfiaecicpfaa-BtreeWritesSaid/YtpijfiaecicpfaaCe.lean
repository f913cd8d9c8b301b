/-
  Bytes, and the readers of both.
-/
import Derived.Test.YtpijfiaecicpfaaBw
namespace Go.Proofs.Ytpijfiaecicpfaa
open Go.RowKit Go.Shelf
set_option linter.unusedVariables false
set_option linter.unusedSimpArgs false
def isB (l : List Int) : Prop := ∀ x ∈ l, 0 ≤ x ∧ x ≤ 255
/-- A text of bytes. -/
def strI (l : List Int) : ByteArray := ⟨(l.map fun x => UInt8.ofNat x.toNat).toArray⟩
def bys (l : List Int) : List Value := l.map (Value.int .u8)
theorem bys_len (l : List Int) : (bys l).length = l.length := by simp [bys]
theorem bys_append (a b : List Int) : bys (a ++ b) = bys a ++ bys b := by simp [bys]
theorem bys_one (l : List Int) : ∀ u ∈ bys l, u.oneCell' = true := by
  intro u hu
  obtain ⟨_, _, rfl⟩ := List.mem_map.1 hu
  rfl
def txt (s : ByteArray) : List Int := s.data.toList.map fun b => (b.toNat : Int)
/-- A slice that reads as these bytes. -/
def RdB (w : World) (A : Option Addr) (n c : Nat) (l : List Int) : Prop := Rd w 1 A n c (bys l) ∧ isB l
section
variable {w w' : World} {A : Option Addr} {n c : Nat} {l : List Int}
theorem RdB.len (h : RdB w A n c l) : l.length = n := by have := h.1.1; rw [bys_len] at this; omega
theorem RdB.ext (h : RdB w A n c l) (hx : Ext w w') : RdB w' A n c l := ⟨h.1.ext hx, h.2⟩
theorem nth_isB (h : isB l) (k : Nat) : 0 ≤ nth l k ∧ nth l k ≤ 255 := by
  by_cases hk : k < l.length
  · rw [nth_lt hk]; exact h _ (List.getElem_mem hk)
  · have : nth l k = 0 := by unfold nth; simp [List.getElem?_eq_none (Nat.le_of_not_lt hk)]
    omega
theorem RdB.at_ (h : RdB w A n c l) {k : Nat} (hk : k < n) : ∃ ad, A = some ad ∧ w.cell? (ad.add k) = some (.int .u8 (nth l k)) := by
  have hl := h.len
  obtain ⟨⟨h1, h2, h3, h4⟩, h5⟩ := h
  obtain ⟨ad, rfl, hc⟩ := h4 (by omega)
  refine ⟨ad, rfl, hc k _ ?_⟩
  unfold bys
  rw [List.getElem?_map, List.getElem?_eq_getElem (by omega), nth_lt (by omega)]
  rfl
end
theorem or_ij (x c : Int) (j : Nat) (h0 : 0 ≤ x) (hj : j ≤ 3) (h1 : x < 2 ^ (8 * j)) (hc0 : 0 ≤ c) (hc : c ≤ 255) : bits .or .i64 x (c * 2 ^ (8 * j)) = x + c * 2 ^ (8 * j) := by
  obtain ⟨m, rfl⟩ : ∃ m : Nat, x = m := ⟨x.toNat, by omega⟩
  obtain ⟨k, rfl⟩ : ∃ k : Nat, c = k := ⟨c.toNat, by omega⟩
  have hm : m < 2 ^ (8 * j) := by exact_mod_cast h1
  have hk : k < 256 := by omega
  have hp : 2 ^ (8 * j) ≤ 2 ^ 24 := Nat.pow_le_pow_right (by omega) (by omega)
  have hkp : k * 2 ^ (8 * j) ≤ 255 * 2 ^ 24 := Nat.mul_le_mul (by omega) hp
  obtain ⟨q, hq⟩ : ∃ q : Nat, q = 2 ^ (8 * j) * k := ⟨_, rfl⟩
  have hq2 : q < 2 ^ 32 := by rw [hq, Nat.mul_comm]; omega
  have hor : q ||| m = q + m := by rw [hq]; exact (Nat.two_pow_add_eq_or_of_lt hm k).symm
  have e1 : ((k : Int) * 2 ^ (8 * j)) = (q : Int) := by rw [hq]; push_cast; rw [Int.mul_comm]
  rw [e1]
  clear e1 hkp h1 hq
  have hm2 : m < 2 ^ 24 := by omega
  clear hm hp
  have f1 : BitVec.ofInt 64 (m : Int) = BitVec.ofNat 64 m := by
    apply BitVec.eq_of_toNat_eq
    rw [BitVec.toNat_ofInt, BitVec.toNat_ofNat]
    omega
  have f2 : BitVec.ofInt 64 (q : Int) = BitVec.ofNat 64 q := by
    apply BitVec.eq_of_toNat_eq
    rw [BitVec.toNat_ofInt, BitVec.toNat_ofNat]
    omega
  show IntKind.i64.wrap ((BitVec.ofInt 64 (m : Int) ||| BitVec.ofInt 64 (q : Int)).toNat : Int) = _
  have f3 : (BitVec.ofNat 64 m ||| BitVec.ofNat 64 q).toNat = m + q := by
    rw [BitVec.toNat_or, BitVec.toNat_ofNat, BitVec.toNat_ofNat, Nat.mod_eq_of_lt (by omega), Nat.mod_eq_of_lt (by omega), Nat.or_comm, hor, Nat.add_comm]
  rw [f1, f2, f3, IntWalk.i64_in _ (by omega)]
  push_cast
  rfl
theorem conv_rd {w : World} {A : Addr} {n c : Nat} {l : List Int} (h : RdB w (some A) n c l) : (convert 43 9 (.slice (some A) n c)).run Try.prog w = .ok (.string (strI l)) w := by
  have hl := h.len
  obtain ⟨⟨h1, h2, h3, h4⟩, h5⟩ := h
  subst hl
  have hm : strI l = ⟨(l.map fun x => UInt8.ofNat x.toNat).toArray⟩ := rfl
  rw [hm]
  have := run_convert_bytes_back (P := Try.prog) w 43 9 5 A c (l.map fun x => UInt8.ofNat x.toNat) Try.underlying43 Try.underlying5 Try.underlying9 (fun j hj => by
    have hj' : j < l.length := by simpa using hj
    obtain ⟨ad, e, hc⟩ := h4 (by omega)
    obtain rfl := Option.some.inj e
    refine hc j _ ?_
    unfold bys
    rw [List.getElem?_map, List.getElem?_eq_getElem hj']
    have := h5 _ (List.getElem_mem hj')
    simp [UInt8.toNat_ofNat']
    omega)
  rw [List.length_map] at this
  exact this
/-- What a reader has: the bytes that are left, and whether all were there so far. -/
structure St where
  l : List Int
  ok : Bool
def tk (n : Nat) (s : St) : List Int × St := if n ≤ s.l.length then (s.l.take n, ⟨s.l.drop n, s.ok⟩) else (List.replicate n 0, ⟨s.l, false⟩)
theorem tk_len (n : Nat) (s : St) : (tk n s).1.length = n := by
  unfold tk
  split
  · simp; omega
  · simp
theorem tk_isB {n : Nat} {s : St} (h : isB s.l) : isB (tk n s).1 ∧ isB (tk n s).2.l := by
  unfold tk
  split
  · exact ⟨fun x hx => h x (List.mem_of_mem_take hx), fun x hx => h x (List.mem_of_mem_drop hx)⟩
  · exact ⟨fun x hx => by rw [(List.mem_replicate.1 hx).2]; decide, h⟩
/-- A new row of noughts. -/
def newU (w : World) (k : Nat) : World := w.alloc (.cells (madeCells #[.int .u8 0] (k * 1)) 5)
theorem newU_ext (w : World) (k : Nat) : Ext w (newU w k) := (Ext.refl w).alloc_right _
theorem newU_rd (w : World) (k : Nat) (hk : k ≤ 1000) : RdB (newU w k) (some ⟨w.heap.size, 0, none⟩) k k (List.replicate k 0) := by
  have h := heap_alloc_new w (.cells (madeCells #[.int .u8 0] (k * 1)) 5)
  have e : madeCells #[.int .u8 0] (k * 1) = (bys (List.replicate k 0)).toArray := by
    apply Array.ext
    · simp [madeCells, bys]
    · intro i h1 h2
      simp [madeCells, bys, Nat.mod_one]
  refine ⟨⟨by rw [bys_len, List.length_replicate, Nat.mul_one], Nat.le_refl _, by unfold maxLen; omega, fun _ => ⟨_, rfl, fun j u hu => ?_⟩⟩, fun x hx => by rw [(List.mem_replicate.1 hx).2]; decide⟩
  unfold newU
  rw [lit_add, Nat.zero_add, Lib.cell_of_heap h, e]
  simpa using hu
theorem infoU : (Try.prog.info? 5).map (fun i => (i.zero, i.size, i.bytes)) = some (some (.int .u8 0), 1, 1) := by kernel_rfl
theorem mkU (n : Nat) (hn : n ≤ 1000) (wx : World) : (Instr.makeSlice 43 (.int .i64 (n : Int)) (.int .i64 (n : Int))).run Try.prog wx = .ok (.slice (some ⟨wx.heap.size, 0, none⟩) n n) (newU wx n) := by
  obtain ⟨i0, hi, hz0, hz1, hz2⟩ := info_parts infoU
  have h := run_makeSlice (P := Try.prog) wx 43 5 i0 (.int .u8 0) Try.underlying43 hi hz0 .i64 .i64 (n : Int) (n : Int) (by omega) (by omega) (by rw [hz1]; omega) (by rw [hz2]; omega) (by omega)
  rw [hz1] at h
  simp only [Int.toNat_natCast] at h
  exact h
def oneV (s : St) : Int := nth (tk 1 s).1 0
def twoV (s : St) : Int := nth (tk 2 s).1 0 + nth (tk 2 s).1 1 * 256
/-- The program's reader in memory. -/
def RP (B : Nat) (w : World) (r : Nat) (s : St) : Prop := ∃ A c, w.heap[r]? = some (.cells #[.slice A s.l.length c, .bool (!s.ok)] 96 (0, 0)) ∧ RdB w A s.l.length c s.l ∧ (∀ ad, A = some ad → 0 < s.l.length → ad.block ≠ r) ∧ (∀ ad, A = some ad → 0 < s.l.length → ad.block < B) ∧ r < B
/-- What a call that reads may turn: the reader's block, and new ones. -/
def GiveTk (B r n : Nat) (s : St) (w : World) (e : Ending) (w' : World) : Prop := ∃ A c, e = .returned (.slice A n c) ∧ RdB w' A n c (tk n s).1 ∧ RP B w' r (tk n s).2 ∧ FR (one1 r) w w' ∧ ∀ ad, A = some ad → 0 < n → ad.block ≠ r
theorem RP.fr {B : Nat} {w w' : World} {r : Nat} {s : St} {f : Nat → Nat} (h : RP B w r s) (hF : FR f w w') (h0 : ∀ a, a < B → f a = 0) : RP B w' r s := by
  obtain ⟨A, c, h1, h2, h3, h4, h5⟩ := h
  refine ⟨A, c, (hF.2.2.2.2 r (Array.getElem?_eq_some_iff.1 h1).1 (h0 r h5)).trans h1, ⟨⟨h2.1.1, h2.1.2.1, h2.1.2.2.1, fun hn => ?_⟩, h2.2⟩, h3, h4, h5⟩
  obtain ⟨ad, e, hc⟩ := h2.1.2.2.2 hn
  exact ⟨ad, e, fun j u hu => (World.cell?_of_block (by rw [block_add]; exact hF.2.2.2.2 ad.block (by have := World.block_lt_of_cell? _ _ (hc j u hu); rwa [block_add] at this) (h0 _ (h4 ad e hn)))).trans (hc j u hu)⟩
theorem RP.ext {B : Nat} {w w' : World} {r : Nat} {s : St} (h : RP B w r s) (hx : Ext w w') : RP B w' r s := h.fr (f := fun _ => 0) (FR.of_ext hx) (fun _ _ => rfl)
theorem RP.lt {B : Nat} {w : World} {r : Nat} {s : St} (h : RP B w r s) : r < w.heap.size := by obtain ⟨A, c, h1, -⟩ := h; exact (Array.getElem?_eq_some_iff.1 h1).1
theorem RP.isB {B : Nat} {w : World} {r : Nat} {s : St} (h : RP B w r s) : isB s.l := by obtain ⟨A, c, h1, h2, -⟩ := h; exact h2.2
set_option maxRecDepth 100000 in
set_option maxHeartbeats 4000000 in
theorem take_any (B r n : Nat) (s : St) (w : World) (h : RP B w r s) (hn : n ≤ 1000) : Calls Try.prog 92 #[.pointer (some ⟨r, 0, none⟩), .int .i64 n] w (GiveTk B r n s w) := by
  obtain ⟨A, c, h1, h2, h3, h4, h5⟩ := h
  have hm := Rd.max h2.1
  have z0 : w.cell? ⟨r, 0, none⟩ = some (.slice A s.l.length c) := by rw [Lib.cell_of_heap h1]; rfl
  have z1 : w.cell? ⟨r, 1, none⟩ = some (.bool (!s.ok)) := by rw [Lib.cell_of_heap h1]; rfl
  have f0 := Lib.frozen_of_heap h1 0
  have f1 := Lib.frozen_of_heap h1 1
  have lr := (Array.getElem?_eq_some_iff.1 h1).1
  have far : Hid (∀ (j : Nat) (u : Value) (a : Option Addr) (k c : Nat) (l : List Value), (∀ ad, a = some ad → 0 < k → ad.block ≠ r) → Rd w 1 a k c l → Rd (w.setCell ⟨r, j, none⟩ u) 1 a k c l) := fun j u a k c l ha hr => ⟨hr.1, hr.2.1, hr.2.2.1, fun hn => by
    obtain ⟨ad, e, hc⟩ := hr.2.2.2 hn
    exact ⟨ad, e, fun i v hv => cell_far (hc i v hv) (by rw [block_add]; exact fun e9 => ha ad e hn e9.symm)⟩⟩
  by_cases hle : n ≤ s.l.length
  · have hle1 : (n : Int) ≤ (s.l.length : Int) := by omega
    have hle2 : (n : Int) ≤ (c : Int) := by omega
    have hle3 : (s.l.length : Int) ≤ (c : Int) := by omega
    have hfin : Hid (GiveTk B r n s w (.returned (.slice A n c)) (w.setCell ⟨r, 0, none⟩ (.slice (if c = n then A else Option.map (fun x => x.add n) A) (s.l.length - n) (c - n)))) := by
      have hcut := Rd.cut h2.1 hle
      have htk := Rd.takeK h2.1 hle
      have hA : ∀ ad, (if c = n then A else A.map (·.add (n * 1))) = some ad → 0 < s.l.length - n → ad.block ≠ r := fun ad e hp => by
        split at e
        · exact h3 ad e (by omega)
        · cases A with
          | none => cases e
          | some a => injection e with e; rw [← e, block_add]; exact h3 a rfl (by omega)
      have e1 : (tk n s).1 = s.l.take n := by unfold tk; rw [if_pos hle]
      have e2 : (tk n s).2 = ⟨s.l.drop n, s.ok⟩ := by unfold tk; rw [if_pos hle]
      refine ⟨A, c, rfl, ?_, ?_, fr_set, fun ad e hp => h3 ad e (by omega)⟩
      · rw [e1]
        refine ⟨?_, fun x hx => h2.2 x (List.mem_of_mem_take hx)⟩
        have h9 := far.out 0 (.slice (if c = n then A else Option.map (fun x => x.add n) A) (s.l.length - n) (c - n)) _ _ _ _ (fun ad e hp => h3 ad e (by omega)) htk
        rw [Nat.mul_one] at h9
        unfold bys at h9 ⊢
        rw [← List.map_take] at h9
        exact h9
      · rw [e2]
        refine ⟨if c = n then A else A.map (·.add (n * 1)), c - n, ?_, ⟨?_, fun x hx => h2.2 x (List.mem_of_mem_drop hx)⟩, fun ad e hp => hA ad e (by have hp2 : 0 < (s.l.drop n).length := hp; rwa [List.length_drop] at hp2), fun ad e hp => ?_, h5⟩
        · show _ = some (Obj.cells #[.slice _ (s.l.drop n).length _, _] _ _)
          rw [List.length_drop, Nat.mul_one]
          simp [World.setCell, Array.getElem?_modify, h1]
        · show Rd _ 1 _ (s.l.drop n).length _ (bys (s.l.drop n))
          have h9 := far.out 0 (.slice (if c = n then A else Option.map (fun x => x.add n) A) (s.l.length - n) (c - n)) _ _ _ _ hA hcut
          rw [List.length_drop]
          rw [Nat.mul_one] at h9 ⊢
          unfold bys at h9 ⊢
          rw [← List.map_drop] at h9
          exact h9
        · have hp2 : 0 < (s.l.drop n).length := hp
          rw [List.length_drop] at hp2
          split at e
          · exact h4 ad e (by omega)
          · cases A with
            | none => cases e
            | some a => injection e with e; rw [← e, block_add]; exact h4 a rfl (by omega)
    clear h1 h2 h3 h4 h5 far
    generalize s.l.length = m at *
    by_cases hcn : c = n
    · subst hcn
      rw [if_pos rfl, Nat.sub_self, show m - c = 0 by omega] at hfin
      go_enter Try.func92, Try.ntmps92
      go_wp2
      go_ret
      exact hfin.out
    · rw [if_neg hcn] at hfin
      go_enter Try.func92, Try.ntmps92
      go_wp2
      go_ret
      exact hfin.out
  · have hle1 : (s.l.length : Int) < (n : Int) := by omega
    have mk := mkU n hn
    have hfin : Hid (GiveTk B r n s w (.returned (.slice (some ⟨w.heap.size, 0, none⟩) n n)) (newU (w.setCell ⟨r, 1, none⟩ (.bool true)) n)) := by
      have e1 : (tk n s).1 = List.replicate n 0 := by unfold tk; rw [if_neg hle]
      have e2 : (tk n s).2 = ⟨s.l, false⟩ := by unfold tk; rw [if_neg hle]
      have hx := newU_ext (w.setCell ⟨r, 1, none⟩ (.bool true)) n
      have hU := newU_rd (w.setCell ⟨r, 1, none⟩ (.bool true)) n hn
      rw [World.size_setCell] at hU
      refine ⟨_, n, rfl, by rw [e1]; exact hU, ?_, (fr_set (b := r)).trans (FR.of_ext (f := fun _ => 0) hx) (fun _ _ _ => rfl), fun ad e _ => ?_⟩
      · rw [e2]
        refine RP.ext ⟨A, c, ?_, ⟨far.out 1 _ _ _ _ _ h3 h2.1, h2.2⟩, h3, h4, h5⟩ hx
        simp [World.setCell, Array.getElem?_modify, h1]
      · injection e with e
        rw [← e]
        show w.heap.size ≠ r
        omega
    clear h1 h2 h3 h4 h5 far
    generalize s.l.length = m at *
    go_enter Try.func92, Try.ntmps92
    go_wp2
    go_ret
    exact hfin.out
/-- It returns a number that has been read. -/
def GiveNm (B r : Nat) (z : Int) (s' : St) (w : World) (e : Ending) (w' : World) : Prop := e = .returned (.int .i64 z) ∧ RP B w' r s' ∧ FR (one1 r) w w'
set_option maxRecDepth 100000 in
set_option maxHeartbeats 4000000 in
theorem one_any (B r : Nat) (s : St) (w : World) (h : RP B w r s) : Calls Try.prog 93 #[.pointer (some ⟨r, 0, none⟩)] w (GiveNm B r (oneV s) (tk 1 s).2 w) := by
  have hT := hid (take_any B r 1 s w h (by decide))
  have hv := tk_isB (n := 1) h.isB
  have hvl := tk_len 1 s
  have e1 : Hid (oneV s = nth (tk 1 s).1 0) := rfl
  clear h
  generalize oneV s = z at *
  unfold GiveTk at hT
  generalize (tk 1 s).1 = L at *
  generalize (tk 1 s).2 = s' at *
  replace hv := hid hv
  replace hvl := hid hvl
  go_enter Try.func93, Try.ntmps93
  go_wp2_with fail
  refine hT.out.mono ?_
  rintro e w2 ⟨A, c, rfl, hr, hP, hF, -⟩
  obtain ⟨ad, rfl, z0⟩ := hr.at_ (k := 0) (by decide)
  have h9 := nth_isB hv.out.1 0
  rw [← e1.out] at z0 h9
  rw [show ad.add 0 = ad by unfold Addr.add; simp] at z0
  have hfin : Hid (GiveNm B r z s' w (.returned (.int .i64 z)) w2) := ⟨rfl, hP, hF⟩
  have hw := IntWalk.i64_in z (by omega)
  have lz := World.block_lt_of_cell? _ _ z0
  clear hr hP hF hT
  go_wp2
  go_ret
  exact hfin.out
set_option maxRecDepth 100000 in
set_option maxHeartbeats 4000000 in
theorem two_any (B r : Nat) (s : St) (w : World) (h : RP B w r s) : Calls Try.prog 52 #[.pointer (some ⟨r, 0, none⟩)] w (GiveNm B r (twoV s) (tk 2 s).2 w) := by
  have hT := hid (take_any B r 2 s w h (by decide))
  have hv := tk_isB (n := 2) h.isB
  have e1 : Hid (twoV s = nth (tk 2 s).1 0 + nth (tk 2 s).1 1 * 256) := rfl
  clear h
  generalize twoV s = z at *
  unfold GiveTk at hT
  generalize (tk 2 s).1 = L at *
  generalize (tk 2 s).2 = s' at *
  replace hv := hid hv
  go_enter Try.func52, Try.ntmps52
  go_wp2_with fail
  refine hT.out.mono ?_
  rintro e w2 ⟨A, c, rfl, hr, hP, hF, -⟩
  obtain ⟨ad, rfl, z0⟩ := hr.at_ (k := 0) (by decide)
  obtain ⟨ad', e0, z1⟩ := hr.at_ (k := 1) (by decide)
  injection e0 with e0
  subst e0
  have h9 := nth_isB hv.out.1 0
  have h8 := nth_isB hv.out.1 1
  generalize nth L 0 = x at *
  generalize nth L 1 = y at *
  rw [show ad.add 0 = ad by unfold Addr.add; simp] at z0
  rw [show ad.add 1 = ⟨ad.block, ad.off + 1, none⟩ from rfl] at z1
  have hfin : Hid (GiveNm B r z s' w (.returned (.int .i64 z)) w2.drew) := ⟨rfl, hP.ext ((Ext.refl w2).drew_right), hF.trans (FR.of_ext (f := fun _ => 0) ((Ext.refl w2).drew_right)) (fun _ _ _ => rfl)⟩
  have hor : bits .or .i64 x (y * 256) = x + y * 256 := by have := or_ij x y 1 (by omega) (by decide) (by omega) (by omega) (by omega); simpa using this
  have hwx := IntWalk.i64_in x (by omega)
  have hwy := IntWalk.i64_in y (by omega)
  have hwz := IntWalk.i64_in (y * 256) (by omega)
  have hz9 : Hid (z = x + y * 256) := e1.out.trans (by omega)
  go_upto_region 2 with fail
  have I0 : (fun w' : World => w'.cell? ad = some (.int .u8 x) ∧ w'.cell? ⟨ad.block, ad.off + 1, none⟩ = some (.int .u8 y)) w2.drew := ⟨z0, z1⟩
  refine region_J (fun w' : World => w'.cell? ad = some (.int .u8 x) ∧ w'.cell? ⟨ad.block, ad.off + 1, none⟩ = some (.int .u8 y)) 11 (by kernel_rfl) ?_
  clear hr hP hF hT z0 z1
  generalize w2.drew = w9 at *
  refine J_takeO 0 (v := ?vt0) rfl (by kernel_rfl) (by kernel_rfl) (by kernel_rfl) (by kernel_rfl) (fun _ _ _ h => h) (Or.inl ⟨by rfl, ?yt0⟩) I0 ?rt0
  case yt0 => (intro w hSw; obtain ⟨_, _⟩ := hSw; (go_simp; with_reducible rfl))
  simp only [Act.put, List.getElem_toArray, List.getElem_cons_zero, List.getElem_cons_succ, List.setIfInBounds_toArray, List.set_cons_zero, List.set_cons_succ]
  refine J_takeO 1 (v := ?vt1) rfl (by kernel_rfl) (by kernel_rfl) (by kernel_rfl) (by kernel_rfl) (fun _ _ _ h => h) (Or.inl ⟨by rfl, ?yt1⟩) I0 ?rt1
  case yt1 => (intro w hSw; obtain ⟨_, _⟩ := hSw; (go_simp; with_reducible rfl))
  simp only [Act.put, List.getElem_toArray, List.getElem_cons_zero, List.getElem_cons_succ, List.setIfInBounds_toArray, List.set_cons_zero, List.set_cons_succ]
  refine J_takeO 2 (v := ?vt2) rfl (by kernel_rfl) (by kernel_rfl) (by kernel_rfl) (by kernel_rfl) (fun _ _ _ h => h) (Or.inl ⟨by rfl, ?yt2⟩) I0 ?rt2
  case yt2 => (intro w hSw; obtain ⟨_, _⟩ := hSw; (go_simp; with_reducible rfl))
  simp only [Act.put, List.getElem_toArray, List.getElem_cons_zero, List.getElem_cons_succ, List.setIfInBounds_toArray, List.set_cons_zero, List.set_cons_succ]
  refine J_takeO 3 (v := ?vt3) rfl (by kernel_rfl) (by kernel_rfl) (by kernel_rfl) (by kernel_rfl) (fun _ _ _ h => h) (Or.inl ⟨by rfl, ?yt3⟩) I0 ?rt3
  case yt3 => (intro w hSw; obtain ⟨_, _⟩ := hSw; (go_simp; with_reducible rfl))
  simp only [Act.put, List.getElem_toArray, List.getElem_cons_zero, List.getElem_cons_succ, List.setIfInBounds_toArray, List.set_cons_zero, List.set_cons_succ]
  refine J_takeO 4 (v := ?vt4) rfl (by kernel_rfl) (by kernel_rfl) (by kernel_rfl) (by kernel_rfl) (fun _ _ _ h => h) (Or.inl ⟨by rfl, ?yt4⟩) I0 ?rt4
  case yt4 => (intro w hSw; obtain ⟨_, _⟩ := hSw; (go_simp; with_reducible rfl))
  simp only [Act.put, List.getElem_toArray, List.getElem_cons_zero, List.getElem_cons_succ, List.setIfInBounds_toArray, List.set_cons_zero, List.set_cons_succ]
  refine J_takeO 5 (v := ?vt5) rfl (by kernel_rfl) (by kernel_rfl) (by kernel_rfl) (by kernel_rfl) (fun _ _ _ h => h) (Or.inl ⟨by rfl, ?yt5⟩) I0 ?rt5
  case yt5 => (intro w hSw; obtain ⟨_, _⟩ := hSw; (go_simp; with_reducible rfl))
  simp only [Act.put, List.getElem_toArray, List.getElem_cons_zero, List.getElem_cons_succ, List.setIfInBounds_toArray, List.set_cons_zero, List.set_cons_succ]
  refine J_takeO 6 (v := ?vt6) rfl (by kernel_rfl) (by kernel_rfl) (by kernel_rfl) (by kernel_rfl) (fun _ _ _ h => h) (Or.inl ⟨by rfl, ?yt6⟩) I0 ?rt6
  case yt6 => (intro w hSw; obtain ⟨_, _⟩ := hSw; (go_simp; with_reducible rfl))
  simp only [Act.put, List.getElem_toArray, List.getElem_cons_zero, List.getElem_cons_succ, List.setIfInBounds_toArray, List.set_cons_zero, List.set_cons_succ]
  refine J_takeO 7 (v := ?vt7) rfl (by kernel_rfl) (by kernel_rfl) (by kernel_rfl) (by kernel_rfl) (fun _ _ _ h => h) (Or.inl ⟨by rfl, ?yt7⟩) I0 ?rt7
  case yt7 => (intro w hSw; obtain ⟨_, _⟩ := hSw; (go_simp; with_reducible rfl))
  simp only [Act.put, List.getElem_toArray, List.getElem_cons_zero, List.getElem_cons_succ, List.setIfInBounds_toArray, List.set_cons_zero, List.set_cons_succ]
  refine J_takeO 8 (v := ?vt8) rfl (by kernel_rfl) (by kernel_rfl) (by kernel_rfl) (by kernel_rfl) (fun _ _ _ h => h) (Or.inl ⟨by rfl, ?yt8⟩) I0 ?rt8
  case yt8 => (intro w hSw; obtain ⟨_, _⟩ := hSw; (go_simp; with_reducible rfl))
  simp only [Act.put, List.getElem_toArray, List.getElem_cons_zero, List.getElem_cons_succ, List.setIfInBounds_toArray, List.set_cons_zero, List.set_cons_succ]
  refine J_takeO 9 (v := ?vt9) rfl (by kernel_rfl) (by kernel_rfl) (by kernel_rfl) (by kernel_rfl) (fun _ _ _ h => h) (Or.inl ⟨by rfl, ?yt9⟩) I0 ?rt9
  case yt9 => (intro w hSw; obtain ⟨_, _⟩ := hSw; (go_simp; with_reducible rfl))
  simp only [Act.put, List.getElem_toArray, List.getElem_cons_zero, List.getElem_cons_succ, List.setIfInBounds_toArray, List.set_cons_zero, List.set_cons_succ]
  refine J_one 10 rfl (by kernel_rfl) (fun K hK => ?_)
  go_simp
  refine hK _ _ ⟨fun _ => I0, ?_⟩
  clear hK K
  try simp only [Act.put, List.setIfInBounds_toArray, List.set_cons_zero, List.set_cons_succ]
  refine J_done (by kernel_rfl) (OnlyOn.normal ?_)
  go_wp2
  go_ret
  obtain rfl := hz9.out
  exact hfin.out
/-- The reference's reader in memory. -/
def RQ (B : Nat) (w : World) (r : Nat) (s : St) : Prop := ∃ A c, w.heap[r]? = some (.cells #[.slice A s.l.length c, .bool (s.ok)] 100 (0, 0)) ∧ RdB w A s.l.length c s.l ∧ (∀ ad, A = some ad → 0 < s.l.length → ad.block ≠ r) ∧ (∀ ad, A = some ad → 0 < s.l.length → ad.block < B) ∧ r < B
/-- What a call that reads may turn: the reader's block, and new ones. -/
def GiveTr (B r n : Nat) (s : St) (w : World) (e : Ending) (w' : World) : Prop := ∃ A c, e = .returned (.slice A n c) ∧ RdB w' A n c (tk n s).1 ∧ RQ B w' r (tk n s).2 ∧ FR (one1 r) w w' ∧ ∀ ad, A = some ad → 0 < n → ad.block ≠ r
theorem RQ.fr {B : Nat} {w w' : World} {r : Nat} {s : St} {f : Nat → Nat} (h : RQ B w r s) (hF : FR f w w') (h0 : ∀ a, a < B → f a = 0) : RQ B w' r s := by
  obtain ⟨A, c, h1, h2, h3, h4, h5⟩ := h
  refine ⟨A, c, (hF.2.2.2.2 r (Array.getElem?_eq_some_iff.1 h1).1 (h0 r h5)).trans h1, ⟨⟨h2.1.1, h2.1.2.1, h2.1.2.2.1, fun hn => ?_⟩, h2.2⟩, h3, h4, h5⟩
  obtain ⟨ad, e, hc⟩ := h2.1.2.2.2 hn
  exact ⟨ad, e, fun j u hu => (World.cell?_of_block (by rw [block_add]; exact hF.2.2.2.2 ad.block (by have := World.block_lt_of_cell? _ _ (hc j u hu); rwa [block_add] at this) (h0 _ (h4 ad e hn)))).trans (hc j u hu)⟩
theorem RQ.ext {B : Nat} {w w' : World} {r : Nat} {s : St} (h : RQ B w r s) (hx : Ext w w') : RQ B w' r s := h.fr (f := fun _ => 0) (FR.of_ext hx) (fun _ _ => rfl)
theorem RQ.lt {B : Nat} {w : World} {r : Nat} {s : St} (h : RQ B w r s) : r < w.heap.size := by obtain ⟨A, c, h1, -⟩ := h; exact (Array.getElem?_eq_some_iff.1 h1).1
theorem RQ.isB {B : Nat} {w : World} {r : Nat} {s : St} (h : RQ B w r s) : isB s.l := by obtain ⟨A, c, h1, h2, -⟩ := h; exact h2.2
set_option maxRecDepth 100000 in
set_option maxHeartbeats 4000000 in
theorem rtake_any (B r n : Nat) (s : St) (w : World) (h : RQ B w r s) (hn : n ≤ 1000) : Calls Try.prog 56 #[.pointer (some ⟨r, 0, none⟩), .int .i64 n] w (GiveTr B r n s w) := by
  obtain ⟨A, c, h1, h2, h3, h4, h5⟩ := h
  have hm := Rd.max h2.1
  have z0 : w.cell? ⟨r, 0, none⟩ = some (.slice A s.l.length c) := by rw [Lib.cell_of_heap h1]; rfl
  have z1 : w.cell? ⟨r, 1, none⟩ = some (.bool (s.ok)) := by rw [Lib.cell_of_heap h1]; rfl
  have f0 := Lib.frozen_of_heap h1 0
  have f1 := Lib.frozen_of_heap h1 1
  have lr := (Array.getElem?_eq_some_iff.1 h1).1
  have far : Hid (∀ (j : Nat) (u : Value) (a : Option Addr) (k c : Nat) (l : List Value), (∀ ad, a = some ad → 0 < k → ad.block ≠ r) → Rd w 1 a k c l → Rd (w.setCell ⟨r, j, none⟩ u) 1 a k c l) := fun j u a k c l ha hr => ⟨hr.1, hr.2.1, hr.2.2.1, fun hn => by
    obtain ⟨ad, e, hc⟩ := hr.2.2.2 hn
    exact ⟨ad, e, fun i v hv => cell_far (hc i v hv) (by rw [block_add]; exact fun e9 => ha ad e hn e9.symm)⟩⟩
  by_cases hle : n ≤ s.l.length
  · have hle1 : (n : Int) ≤ (s.l.length : Int) := by omega
    have hle2 : (n : Int) ≤ (c : Int) := by omega
    have hle3 : (s.l.length : Int) ≤ (c : Int) := by omega
    have hfin : Hid (GiveTr B r n s w (.returned (.slice A n c)) (w.setCell ⟨r, 0, none⟩ (.slice (if c = n then A else Option.map (fun x => x.add n) A) (s.l.length - n) (c - n)))) := by
      have hcut := Rd.cut h2.1 hle
      have htk := Rd.takeK h2.1 hle
      have hA : ∀ ad, (if c = n then A else A.map (·.add (n * 1))) = some ad → 0 < s.l.length - n → ad.block ≠ r := fun ad e hp => by
        split at e
        · exact h3 ad e (by omega)
        · cases A with
          | none => cases e
          | some a => injection e with e; rw [← e, block_add]; exact h3 a rfl (by omega)
      have e1 : (tk n s).1 = s.l.take n := by unfold tk; rw [if_pos hle]
      have e2 : (tk n s).2 = ⟨s.l.drop n, s.ok⟩ := by unfold tk; rw [if_pos hle]
      refine ⟨A, c, rfl, ?_, ?_, fr_set, fun ad e hp => h3 ad e (by omega)⟩
      · rw [e1]
        refine ⟨?_, fun x hx => h2.2 x (List.mem_of_mem_take hx)⟩
        have h9 := far.out 0 (.slice (if c = n then A else Option.map (fun x => x.add n) A) (s.l.length - n) (c - n)) _ _ _ _ (fun ad e hp => h3 ad e (by omega)) htk
        rw [Nat.mul_one] at h9
        unfold bys at h9 ⊢
        rw [← List.map_take] at h9
        exact h9
      · rw [e2]
        refine ⟨if c = n then A else A.map (·.add (n * 1)), c - n, ?_, ⟨?_, fun x hx => h2.2 x (List.mem_of_mem_drop hx)⟩, fun ad e hp => hA ad e (by have hp2 : 0 < (s.l.drop n).length := hp; rwa [List.length_drop] at hp2), fun ad e hp => ?_, h5⟩
        · show _ = some (Obj.cells #[.slice _ (s.l.drop n).length _, _] _ _)
          rw [List.length_drop, Nat.mul_one]
          simp [World.setCell, Array.getElem?_modify, h1]
        · show Rd _ 1 _ (s.l.drop n).length _ (bys (s.l.drop n))
          have h9 := far.out 0 (.slice (if c = n then A else Option.map (fun x => x.add n) A) (s.l.length - n) (c - n)) _ _ _ _ hA hcut
          rw [List.length_drop]
          rw [Nat.mul_one] at h9 ⊢
          unfold bys at h9 ⊢
          rw [← List.map_drop] at h9
          exact h9
        · have hp2 : 0 < (s.l.drop n).length := hp
          rw [List.length_drop] at hp2
          split at e
          · exact h4 ad e (by omega)
          · cases A with
            | none => cases e
            | some a => injection e with e; rw [← e, block_add]; exact h4 a rfl (by omega)
    clear h1 h2 h3 h4 h5 far
    generalize s.l.length = m at *
    by_cases hcn : c = n
    · subst hcn
      rw [if_pos rfl, Nat.sub_self, show m - c = 0 by omega] at hfin
      go_enter Try.func56, Try.ntmps56
      go_wp2
      go_ret
      exact hfin.out
    · rw [if_neg hcn] at hfin
      go_enter Try.func56, Try.ntmps56
      go_wp2
      go_ret
      exact hfin.out
  · have hle1 : (s.l.length : Int) < (n : Int) := by omega
    have mk := mkU n hn
    have hfin : Hid (GiveTr B r n s w (.returned (.slice (some ⟨w.heap.size, 0, none⟩) n n)) (newU (w.setCell ⟨r, 1, none⟩ (.bool false)) n)) := by
      have e1 : (tk n s).1 = List.replicate n 0 := by unfold tk; rw [if_neg hle]
      have e2 : (tk n s).2 = ⟨s.l, false⟩ := by unfold tk; rw [if_neg hle]
      have hx := newU_ext (w.setCell ⟨r, 1, none⟩ (.bool false)) n
      have hU := newU_rd (w.setCell ⟨r, 1, none⟩ (.bool false)) n hn
      rw [World.size_setCell] at hU
      refine ⟨_, n, rfl, by rw [e1]; exact hU, ?_, (fr_set (b := r)).trans (FR.of_ext (f := fun _ => 0) hx) (fun _ _ _ => rfl), fun ad e _ => ?_⟩
      · rw [e2]
        refine RQ.ext ⟨A, c, ?_, ⟨far.out 1 _ _ _ _ _ h3 h2.1, h2.2⟩, h3, h4, h5⟩ hx
        simp [World.setCell, Array.getElem?_modify, h1]
      · injection e with e
        rw [← e]
        show w.heap.size ≠ r
        omega
    clear h1 h2 h3 h4 h5 far
    generalize s.l.length = m at *
    go_enter Try.func56, Try.ntmps56
    go_wp2
    go_ret
    exact hfin.out
/-- It returns a number that has been read. -/
def GiveNr (B r : Nat) (z : Int) (s' : St) (w : World) (e : Ending) (w' : World) : Prop := e = .returned (.int .i64 z) ∧ RQ B w' r s' ∧ FR (one1 r) w w'
set_option maxRecDepth 100000 in
set_option maxHeartbeats 4000000 in
theorem rone_any (B r : Nat) (s : St) (w : World) (h : RQ B w r s) : Calls Try.prog 55 #[.pointer (some ⟨r, 0, none⟩)] w (GiveNr B r (oneV s) (tk 1 s).2 w) := by
  have hT := hid (rtake_any B r 1 s w h (by decide))
  have hv := tk_isB (n := 1) h.isB
  have hvl := tk_len 1 s
  have e1 : Hid (oneV s = nth (tk 1 s).1 0) := rfl
  clear h
  generalize oneV s = z at *
  unfold GiveTr at hT
  generalize (tk 1 s).1 = L at *
  generalize (tk 1 s).2 = s' at *
  replace hv := hid hv
  replace hvl := hid hvl
  go_enter Try.func55, Try.ntmps55
  go_wp2_with fail
  refine hT.out.mono ?_
  rintro e w2 ⟨A, c, rfl, hr, hP, hF, -⟩
  obtain ⟨ad, rfl, z0⟩ := hr.at_ (k := 0) (by decide)
  have h9 := nth_isB hv.out.1 0
  rw [← e1.out] at z0 h9
  rw [show ad.add 0 = ad by unfold Addr.add; simp] at z0
  have hfin : Hid (GiveNr B r z s' w (.returned (.int .i64 z)) w2) := ⟨rfl, hP, hF⟩
  have hw := IntWalk.i64_in z (by omega)
  have lz := World.block_lt_of_cell? _ _ z0
  clear hr hP hF hT
  go_wp2
  go_ret
  exact hfin.out
set_option maxRecDepth 100000 in
set_option maxHeartbeats 4000000 in
theorem rtwo_any (B r : Nat) (s : St) (w : World) (h : RQ B w r s) : Calls Try.prog 54 #[.pointer (some ⟨r, 0, none⟩)] w (GiveNr B r (twoV s) (tk 2 s).2 w) := by
  have hT := hid (rtake_any B r 2 s w h (by decide))
  have hv := tk_isB (n := 2) h.isB
  have e1 : Hid (twoV s = nth (tk 2 s).1 0 + nth (tk 2 s).1 1 * 256) := rfl
  clear h
  generalize twoV s = z at *
  unfold GiveTr at hT
  generalize (tk 2 s).1 = L at *
  generalize (tk 2 s).2 = s' at *
  replace hv := hid hv
  go_enter Try.func54, Try.ntmps54
  go_wp2_with fail
  refine hT.out.mono ?_
  rintro e w2 ⟨A, c, rfl, hr, hP, hF, -⟩
  obtain ⟨ad, rfl, z0⟩ := hr.at_ (k := 0) (by decide)
  obtain ⟨ad', e0, z1⟩ := hr.at_ (k := 1) (by decide)
  injection e0 with e0
  subst e0
  have h9 := nth_isB hv.out.1 0
  have h8 := nth_isB hv.out.1 1
  generalize nth L 0 = x at *
  generalize nth L 1 = y at *
  rw [show ad.add 0 = ad by unfold Addr.add; simp] at z0
  rw [show ad.add 1 = ⟨ad.block, ad.off + 1, none⟩ from rfl] at z1
  have hfin : Hid (GiveNr B r z s' w (.returned (.int .i64 z)) w2.drew) := ⟨rfl, hP.ext ((Ext.refl w2).drew_right), hF.trans (FR.of_ext (f := fun _ => 0) ((Ext.refl w2).drew_right)) (fun _ _ _ => rfl)⟩
  have hwx := IntWalk.i64_in x (by omega)
  have hwy := IntWalk.i64_in y (by omega)
  have hwz := IntWalk.i64_in (256 * y) (by omega)
  have hws := IntWalk.i64_in (x + 256 * y) (by omega)
  have hz9 : Hid (z = x + 256 * y) := e1.out.trans (by omega)
  go_upto_region 2 with fail
  have I0 : (fun w' : World => w'.cell? ad = some (.int .u8 x) ∧ w'.cell? ⟨ad.block, ad.off + 1, none⟩ = some (.int .u8 y)) w2.drew := ⟨z0, z1⟩
  refine region_J (fun w' : World => w'.cell? ad = some (.int .u8 x) ∧ w'.cell? ⟨ad.block, ad.off + 1, none⟩ = some (.int .u8 y)) 11 (by kernel_rfl) ?_
  clear hr hP hF hT z0 z1
  generalize w2.drew = w9 at *
  refine J_takeO 0 (v := ?vt0) rfl (by kernel_rfl) (by kernel_rfl) (by kernel_rfl) (by kernel_rfl) (fun _ _ _ h => h) (Or.inl ⟨by rfl, ?yt0⟩) I0 ?rt0
  case yt0 => (intro w hSw; obtain ⟨_, _⟩ := hSw; (go_simp; with_reducible rfl))
  simp only [Act.put, List.getElem_toArray, List.getElem_cons_zero, List.getElem_cons_succ, List.setIfInBounds_toArray, List.set_cons_zero, List.set_cons_succ]
  refine J_takeO 1 (v := ?vt1) rfl (by kernel_rfl) (by kernel_rfl) (by kernel_rfl) (by kernel_rfl) (fun _ _ _ h => h) (Or.inl ⟨by rfl, ?yt1⟩) I0 ?rt1
  case yt1 => (intro w hSw; obtain ⟨_, _⟩ := hSw; (go_simp; with_reducible rfl))
  simp only [Act.put, List.getElem_toArray, List.getElem_cons_zero, List.getElem_cons_succ, List.setIfInBounds_toArray, List.set_cons_zero, List.set_cons_succ]
  refine J_takeO 2 (v := ?vt2) rfl (by kernel_rfl) (by kernel_rfl) (by kernel_rfl) (by kernel_rfl) (fun _ _ _ h => h) (Or.inl ⟨by rfl, ?yt2⟩) I0 ?rt2
  case yt2 => (intro w hSw; obtain ⟨_, _⟩ := hSw; (go_simp; with_reducible rfl))
  simp only [Act.put, List.getElem_toArray, List.getElem_cons_zero, List.getElem_cons_succ, List.setIfInBounds_toArray, List.set_cons_zero, List.set_cons_succ]
  refine J_takeO 3 (v := ?vt3) rfl (by kernel_rfl) (by kernel_rfl) (by kernel_rfl) (by kernel_rfl) (fun _ _ _ h => h) (Or.inl ⟨by rfl, ?yt3⟩) I0 ?rt3
  case yt3 => (intro w hSw; obtain ⟨_, _⟩ := hSw; (go_simp; with_reducible rfl))
  simp only [Act.put, List.getElem_toArray, List.getElem_cons_zero, List.getElem_cons_succ, List.setIfInBounds_toArray, List.set_cons_zero, List.set_cons_succ]
  refine J_takeO 4 (v := ?vt4) rfl (by kernel_rfl) (by kernel_rfl) (by kernel_rfl) (by kernel_rfl) (fun _ _ _ h => h) (Or.inl ⟨by rfl, ?yt4⟩) I0 ?rt4
  case yt4 => (intro w hSw; obtain ⟨_, _⟩ := hSw; (go_simp; with_reducible rfl))
  simp only [Act.put, List.getElem_toArray, List.getElem_cons_zero, List.getElem_cons_succ, List.setIfInBounds_toArray, List.set_cons_zero, List.set_cons_succ]
  refine J_takeO 5 (v := ?vt5) rfl (by kernel_rfl) (by kernel_rfl) (by kernel_rfl) (by kernel_rfl) (fun _ _ _ h => h) (Or.inl ⟨by rfl, ?yt5⟩) I0 ?rt5
  case yt5 => (intro w hSw; obtain ⟨_, _⟩ := hSw; (go_simp; with_reducible rfl))
  simp only [Act.put, List.getElem_toArray, List.getElem_cons_zero, List.getElem_cons_succ, List.setIfInBounds_toArray, List.set_cons_zero, List.set_cons_succ]
  refine J_takeO 6 (v := ?vt6) rfl (by kernel_rfl) (by kernel_rfl) (by kernel_rfl) (by kernel_rfl) (fun _ _ _ h => h) (Or.inl ⟨by rfl, ?yt6⟩) I0 ?rt6
  case yt6 => (intro w hSw; obtain ⟨_, _⟩ := hSw; (go_simp; with_reducible rfl))
  simp only [Act.put, List.getElem_toArray, List.getElem_cons_zero, List.getElem_cons_succ, List.setIfInBounds_toArray, List.set_cons_zero, List.set_cons_succ]
  refine J_takeO 7 (v := ?vt7) rfl (by kernel_rfl) (by kernel_rfl) (by kernel_rfl) (by kernel_rfl) (fun _ _ _ h => h) (Or.inl ⟨by rfl, ?yt7⟩) I0 ?rt7
  case yt7 => (intro w hSw; obtain ⟨_, _⟩ := hSw; (go_simp; with_reducible rfl))
  simp only [Act.put, List.getElem_toArray, List.getElem_cons_zero, List.getElem_cons_succ, List.setIfInBounds_toArray, List.set_cons_zero, List.set_cons_succ]
  refine J_takeO 8 (v := ?vt8) rfl (by kernel_rfl) (by kernel_rfl) (by kernel_rfl) (by kernel_rfl) (fun _ _ _ h => h) (Or.inl ⟨by rfl, ?yt8⟩) I0 ?rt8
  case yt8 => (intro w hSw; obtain ⟨_, _⟩ := hSw; (go_simp; with_reducible rfl))
  simp only [Act.put, List.getElem_toArray, List.getElem_cons_zero, List.getElem_cons_succ, List.setIfInBounds_toArray, List.set_cons_zero, List.set_cons_succ]
  refine J_takeO 9 (v := ?vt9) rfl (by kernel_rfl) (by kernel_rfl) (by kernel_rfl) (by kernel_rfl) (fun _ _ _ h => h) (Or.inl ⟨by rfl, ?yt9⟩) I0 ?rt9
  case yt9 => (intro w hSw; obtain ⟨_, _⟩ := hSw; (go_simp; with_reducible rfl))
  simp only [Act.put, List.getElem_toArray, List.getElem_cons_zero, List.getElem_cons_succ, List.setIfInBounds_toArray, List.set_cons_zero, List.set_cons_succ]
  refine J_one 10 rfl (by kernel_rfl) (fun K hK => ?_)
  go_simp
  refine hK _ _ ⟨fun _ => I0, ?_⟩
  clear hK K
  try simp only [Act.put, List.setIfInBounds_toArray, List.set_cons_zero, List.set_cons_succ]
  refine J_done (by kernel_rfl) (OnlyOn.normal ?_)
  go_wp2
  go_ret
  obtain rfl := hz9.out
  exact hfin.out
end Go.Proofs.Ytpijfiaecicpfaa
