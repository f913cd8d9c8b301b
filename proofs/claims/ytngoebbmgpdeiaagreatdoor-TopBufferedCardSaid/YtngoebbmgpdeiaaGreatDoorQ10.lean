/-
  A builder's text, and what is frozen for it; The bytes of a record; The texts of values in columns.
-/
import Derived.Test.YtngoebbmgpdeiaaGreatDoorQ9
import Derived.Test.YtngoebbmgpdeiaaGreatDoorQ6
import Derived.Shelf.RegionOpen
import Derived.Shelf.Strings.BuilderK
set_option maxRecDepth 100000
set_option maxHeartbeats 40000000
set_option linter.unusedVariables false
set_option linter.unusedSimpArgs false
namespace Go.Proofs.YtngoebbmgpdeiaaGreatDoor
open Go.RowKit Go.Shelf
def WrR (w : World) (e : Ending) (w' : World) : Prop := ∃ t : ByteArray, e = .returned (.string t) ∧ (1 ≤ t.size ∧ t.size ≤ 254) ∧ Ext w w'
theorem ft0 (w : World) : (Instr.slice 9 (.string ⟨#[70, 84]⟩) (some (.int .i64 0)) (some (.int .i64 1)) none).run Tryz.prog w = .ok (.string ⟨#[70]⟩) w := by kernel_rfl
theorem ft1 (w : World) : (Instr.slice 9 (.string ⟨#[70, 84]⟩) (some (.int .i64 1)) (some (.int .i64 2)) none).run Tryz.prog w = .ok (.string ⟨#[84]⟩) w := by kernel_rfl
theorem writeTruth_any (f : Fd) (v : Vl) (w : World) (hn : v.n = 0 ∨ v.n = 1) : Calls Tryz.prog 146 #[fd f, vl v] w (WrR w) := by
  have f0 := ft0
  have f1 := ft1
  obtain ⟨w1, g1, e1, h1, s1, k1, x1⟩ := newB w [.string f.nm, .int .i64 f.k, .int .i64 f.wd, .bool f.nl] 64
  obtain ⟨w2, g2, e2, h2, s2, k2, x2⟩ := newB w1 [.int .i64 v.k, .int .i64 v.n, .string v.s] 66
  have h2 := s1.out.symm.trans h2.out
  have hx := hid (x1.trans x2)
  have k1 := hid (k1.ext x2)
  have k2 := hid k2
  clear x1 x2
  unfold fd vl
  go_enter Tryz.func146, Tryz.ntmps146
  go_upto_region 1 with fail
  simp only [e1.out, e2.out, h1.out, h2]
  clear e1 e2 h1 h2 s1 s2
  obtain ⟨a0, a1, a2, a3⟩ := k1.out.c4
  obtain ⟨b0, b1, b2⟩ := k2.out.c3
  rcases hn with hn | hn
  · rw [hn] at b1
    clear hn
    go_wp2
    go_ret
    exact ⟨_, rfl, by decide, hx.out⟩
  · rw [hn] at b1
    clear hn
    go_wp2
    go_ret
    exact ⟨_, rfl, by decide, hx.out⟩
theorem writeNum_any (f : Fd) (v : Vl) (w : World) (hnum : Ky.isNumB v.n = true) (hw0 : 1 ≤ f.wd) (hw : f.wd ≤ 254) : Calls Tryz.prog 148 #[fd f, vl v] w (WrR w) := by
  have hs := hid (show 1 ≤ (Ky.strS v.n f.wd).size ∧ (Ky.strS v.n f.wd).size ≤ 254 from by rw [strS_eq hnum hw0 hw]; omega)
  obtain ⟨w1, g1, e1, h1, s1, k1, x1⟩ := newB w [.string f.nm, .int .i64 f.k, .int .i64 f.wd, .bool f.nl] 64
  obtain ⟨w2, g2, e2, h2, s2, k2, x2⟩ := newB w1 [.int .i64 v.k, .int .i64 v.n, .string v.s] 66
  have h2 := s1.out.symm.trans h2.out
  have hx := hid (x1.trans x2)
  have k1 := hid (k1.ext x2)
  have k2 := hid k2
  clear x1 x2
  unfold fd vl
  have hq := hid (Ky.Str_any v.n f.wd w2)
  go_enter Tryz.func148, Tryz.ntmps148
  go_upto_region 1 with fail
  simp only [e1.out, e2.out, h1.out, h2]
  clear e1 e2 h1 h2 s1 s2
  obtain ⟨a0, a1, a2, a3⟩ := k1.out.c4
  obtain ⟨b0, b1, b2⟩ := k2.out.c3
  go_wp2_with fail
  refine hq.out.mono ?_
  rintro e w3 ⟨rfl, hx3⟩
  replace hx := hid (hx.out.trans hx3)
  clear hq hx3 a0 a1 a2 a3 b0 b1 b2
  generalize Ky.strS v.n f.wd = t at *
  go_wp2
  go_ret
  exact ⟨t, rfl, hs.out, hx.out⟩
theorem writeDate_any (f : Fd) (v : Vl) (w : World) (hday : Ky.isDayB v.n = true) : Calls Tryz.prog 150 #[fd f, vl v] w (WrR w) := by
  have hs := hid (show 1 ≤ (Ky.stS v.n).size ∧ (Ky.stS v.n).size ≤ 254 from by rw [stS_eq hday]; omega)
  obtain ⟨w1, g1, e1, h1, s1, k1, x1⟩ := newB w [.string f.nm, .int .i64 f.k, .int .i64 f.wd, .bool f.nl] 64
  obtain ⟨w2, g2, e2, h2, s2, k2, x2⟩ := newB w1 [.int .i64 v.k, .int .i64 v.n, .string v.s] 66
  have h2 := s1.out.symm.trans h2.out
  have hx := hid (x1.trans x2)
  have k1 := hid (k1.ext x2)
  have k2 := hid k2
  clear x1 x2
  unfold fd vl
  have hq := hid (Ky.Stamp_any v.n w2)
  go_enter Tryz.func150, Tryz.ntmps150
  go_upto_region 1 with fail
  simp only [e1.out, e2.out, h1.out, h2]
  clear e1 e2 h1 h2 s1 s2
  obtain ⟨a0, a1, a2, a3⟩ := k1.out.c4
  obtain ⟨b0, b1, b2⟩ := k2.out.c3
  go_wp2_with fail
  refine hq.out.mono ?_
  rintro e w3 ⟨rfl, hx3⟩
  replace hx := hid (hx.out.trans hx3)
  clear hq hx3 a0 a1 a2 a3 b0 b1 b2
  generalize Ky.stS v.n = t at *
  go_wp2
  go_ret
  exact ⟨t, rfl, hs.out, hx.out⟩
theorem writeText_any (f : Fd) (v : Vl) (w : World) (h0 : v.s.size ≤ f.wd.toNat) (hw0 : 1 ≤ f.wd) (hw : f.wd ≤ 254) : Calls Tryz.prog 152 #[fd f, vl v] w (WrR w) := by
  obtain ⟨k, hk, hk2⟩ : ∃ k : Nat, f.wd - (v.s.size : Int) = k ∧ 1 ≤ v.s.size + k ∧ v.s.size + k ≤ 254 := ⟨(f.wd - (v.s.size : Int)).toNat, by omega, by omega, by omega⟩
  have hi := IntWalk.i64_in (f.wd - (v.s.size : Int)) (by omega)
  rw [hk] at hi
  have hk3 := hid hk2
  obtain ⟨w1, g1, e1, h1, s1, k1, x1⟩ := newB w [.string f.nm, .int .i64 f.k, .int .i64 f.wd, .bool f.nl] 64
  obtain ⟨w2, g2, e2, h2, s2, k2, x2⟩ := newB w1 [.int .i64 v.k, .int .i64 v.n, .string v.s] 66
  have h2 := s1.out.symm.trans h2.out
  have hx := hid (x1.trans x2)
  have k1 := hid (k1.ext x2)
  have k2 := hid k2
  clear x1 x2
  unfold fd vl
  have hq := hid (fun w' => Ky.rep_any 32 k (by omega) w')
  go_enter Tryz.func152, Tryz.ntmps152
  go_upto_region 1 with fail
  simp only [e1.out, e2.out, h1.out, h2]
  clear e1 e2 h1 h2 s1 s2
  have xa := (Ext.refl w2).drew_right
  refine region_J (fun w' => Ext w2 w') 11 (by kernel_rfl) ?_
  generalize w2.drew = da at xa ⊢
  refine JR 0 (v := ?va1) rfl (by kernel_rfl) rfl ?ya1 xa ?ra1
  case ya1 => (intro w hw; (go_simp; with_reducible rfl))
  simp only [Act.put, lyA, lyB, lyC, lyD, lyE, lyF]
  refine JR 1 (v := ?va2) rfl (by kernel_rfl) rfl ?ya2 xa ?ra2
  case ya2 => (intro w hw; obtain ⟨a0, a1, a2, a3⟩ := (k1.out.ext hw).c4; obtain ⟨b0, b1, b2⟩ := (k2.out.ext hw).c3; (go_simp; with_reducible rfl))
  simp only [Act.put, lyA, lyB, lyC, lyD, lyE, lyF]
  refine JR 2 (v := ?va3) rfl (by kernel_rfl) rfl ?ya3 xa ?ra3
  case ya3 => (intro w hw; (go_simp; with_reducible rfl))
  simp only [Act.put, lyA, lyB, lyC, lyD, lyE, lyF]
  refine JR 3 (v := ?va4) rfl (by kernel_rfl) rfl ?ya4 xa ?ra4
  case ya4 => (intro w hw; obtain ⟨a0, a1, a2, a3⟩ := (k1.out.ext hw).c4; obtain ⟨b0, b1, b2⟩ := (k2.out.ext hw).c3; (go_simp; with_reducible rfl))
  simp only [Act.put, lyA, lyB, lyC, lyD, lyE, lyF]
  refine JR 4 (v := ?va5) rfl (by kernel_rfl) rfl ?ya5 xa ?ra5
  case ya5 => (intro w hw; (go_simp; with_reducible rfl))
  simp only [Act.put, lyA, lyB, lyC, lyD, lyE, lyF]
  refine JR 5 (v := ?va6) rfl (by kernel_rfl) rfl ?ya6 xa ?ra6
  case ya6 => (intro w hw; obtain ⟨a0, a1, a2, a3⟩ := (k1.out.ext hw).c4; obtain ⟨b0, b1, b2⟩ := (k2.out.ext hw).c3; (go_simp; with_reducible rfl))
  simp only [Act.put, lyA, lyB, lyC, lyD, lyE, lyF]
  refine JR 6 (v := ?va7) rfl (by kernel_rfl) rfl ?ya7 xa ?ra7
  case ya7 => (intro w hw; (go_simp; with_reducible rfl))
  simp only [Act.put, lyA, lyB, lyC, lyD, lyE, lyF]
  refine JR 7 (v := ?va8) rfl (by kernel_rfl) rfl ?ya8 xa ?ra8
  case ya8 => (intro w hw; (go_simp; with_reducible rfl))
  simp only [Act.put, lyA, lyB, lyC, lyD, lyE, lyF]
  refine J_one 8 rfl (by kernel_rfl) (fun K hK => ?_)
  go_simp
  refine (hq.out _).mono ?_
  rintro e9 wa9 ⟨rfl, hxa9⟩
  have hadd := Ky.str_add v.s (Ky.repB 32 k) (by rw [Ky.repB_size]; have := hk3.out; omega)
  have hsz := hid (show 1 ≤ (v.s ++ Ky.repB 32 k).size ∧ (v.s ++ Ky.repB 32 k).size ≤ 254 from by rw [ByteArray.size_append, Ky.repB_size]; exact hk3.out)
  generalize Ky.repB 32 k = rp at *
  refine hK _ _ ⟨fun _ => ((xa).trans hxa9), ?_⟩
  clear hK K
  try simp only [Act.put, lyA, lyB, lyC, lyD, lyE, lyF]
  have xa9 := ((xa).trans hxa9)
  refine JR 9 (v := ?va10) rfl (by kernel_rfl) rfl ?ya10 xa9 ?ra10
  case ya10 => (intro w hw; (go_simp; with_reducible rfl))
  simp only [Act.put, lyA, lyB, lyC, lyD, lyE, lyF]
  refine JR 10 (v := ?va11) rfl (by kernel_rfl) rfl ?ya11 xa9 ?ra11
  case ya11 => (intro w hw; (go_simp; with_reducible rfl))
  simp only [Act.put, lyA, lyB, lyC, lyD, lyE, lyF]
  refine J_done (by kernel_rfl) (OnlyOn.normal ?_)
  have hres := hid (hx.out.trans xa9)
  clear hq hadd
  go_wp2
  go_ret
  exact ⟨_, rfl, hsz.out, hres.out⟩
theorem writeMemo_any (f : Fd) (v : Vl) (w : World) (hnum : Ky.isNumB v.n = true) (hw0 : 1 ≤ f.wd) (hw : f.wd ≤ 254) : Calls Tryz.prog 154 #[fd f, vl v] w (WrR w) := by
  obtain ⟨k, hk, hk2⟩ : ∃ k : Nat, f.wd = k ∧ 1 ≤ k ∧ k ≤ 254 := ⟨f.wd.toNat, by omega, by omega, by omega⟩
  have hk3 := hid hk2
  have hk2' := hk2.2
  replace hk := hid hk
  obtain ⟨w1, g1, e1, h1, s1, k1, x1⟩ := newB w [.string f.nm, .int .i64 f.k, .int .i64 f.wd, .bool f.nl] 64
  obtain ⟨w2, g2, e2, h2, s2, k2, x2⟩ := newB w1 [.int .i64 v.k, .int .i64 v.n, .string v.s] 66
  have h2 := s1.out.symm.trans h2.out
  have hx := hid (x1.trans x2)
  have k1 := hid (k1.ext x2)
  have k2 := hid k2
  clear x1 x2
  unfold fd vl
  have hq := hid (fun w' => Ky.rep_any 32 k (by omega) w')
  have hq2 := hid (writeNum_any f v w2 hnum hw0 hw)
  unfold fd vl at hq2
  go_enter Tryz.func154, Tryz.ntmps154
  go_upto_region 1 with fail
  simp only [e1.out, e2.out, h1.out, h2]
  clear e1 e2 h1 h2 s1 s2
  obtain ⟨a0, a1, a2, a3⟩ := k1.out.c4
  obtain ⟨b0, b1, b2⟩ := k2.out.c3
  by_cases hn : v.n = 0
  · rw [hn] at b1
    rw [hk.out] at a2
    clear hn hq2
    go_wp2_with fail
    refine (hq.out _).mono ?_
    rintro e w3 ⟨rfl, hx3⟩
    replace hx := hid (hx.out.trans hx3)
    have hs := hid (show 1 ≤ (Ky.repB 32 k).size ∧ (Ky.repB 32 k).size ≤ 254 from by rw [Ky.repB_size]; exact hk3.out)
    clear hq hx3 a0 a1 a2 a3 b0 b1 b2
    generalize Ky.repB 32 k = t at *
    go_wp2
    go_ret
    exact ⟨t, rfl, hs.out, hx.out⟩
  · have hn2 : (v.n == 0) = false := by simpa using hn
    clear hn hq
    go_wp2_with fail
    refine hq2.out.mono ?_
    rintro e w3 ⟨t, rfl, hs, hx3⟩
    replace hx := hid (hx.out.trans hx3)
    have hs := hid hs
    clear hq2 hx3 a0 a1 a2 a3 b0 b1 b2
    go_wp2
    go_ret
    exact ⟨t, rfl, hs.out, hx.out⟩
theorem writeVal_any {f : Fd} {p : Int} {v : Vl} {d : Kd} (hf : fieldB f = true) (h : holdsB f p v = true) (hk : v.k ≠ 0) (hd : knd f.k = some d) (w : World) : Calls Tryz.prog d.wr #[fd f, vl v] w (WrR w) := by
  obtain ⟨a, b⟩ := fieldB_k hf
  have hwd := field_wd hf
  rcases a with e | e | e | e | e
  · rw [e] at hd; unfold knd at hd; simp at hd; subst hd
    exact writeTruth_any f v w (hold_truth h hk e)
  · rw [e] at hd; unfold knd at hd; simp at hd; subst hd
    exact writeNum_any f v w (hold_num h hk (.inl e)) hwd.1 hwd.2
  · rw [e] at hd; unfold knd at hd; simp at hd; subst hd
    exact writeDate_any f v w (hold_date h hk e)
  · rw [e] at hd; unfold knd at hd; simp at hd; subst hd
    exact writeText_any f v w ((hold_kind h hk).2.2.1 e) hwd.1 hwd.2
  · rw [e] at hd; unfold knd at hd; simp at hd; subst hd
    exact writeMemo_any f v w (hold_num h hk (.inr e)) hwd.1 hwd.2
open Go.RowKit Go.Shelf
theorem freeze_at (w : World) (g n k : Nat) (hk : k ≠ g) : (w.freeze ⟨g, 0, none⟩ n).heap[k]? = w.heap[k]? := by
  unfold World.freeze
  split
  · rfl
  · simp only [Array.getElem?_modify]
    rw [if_neg (fun e => hk e.symm)]
theorem freeze_same (w : World) (g n : Nat) : (w.freeze ⟨g, 0, none⟩ n).heap.size = w.heap.size ∧ (w.freeze ⟨g, 0, none⟩ n).os = w.os ∧ (w.freeze ⟨g, 0, none⟩ n).tape = w.tape ∧ (w.freeze ⟨g, 0, none⟩ n).output = w.output := by
  unfold World.freeze
  split
  · exact ⟨rfl, rfl, rfl, rfl⟩
  · exact ⟨by simp, rfl, rfl, rfl⟩
def BAt (w : World) (b g cap : Nat) (l : List UInt8) : Prop := ∃ p cur fz, w.heap[b]? = some (.cells #[p, .slice (some ⟨g, 0, none⟩) l.length cap] 216 (0, 0)) ∧ w.heap[g]? = some (.cells cur 5 fz) ∧ l.length ≤ cap ∧ cap ≤ maxLen ∧ cur.size = cap * 1 ∧ cur.toList.take (l.length * 1) = Lib.byteCells l
theorem BAt.of {w : World} {b : Nat} {l : List UInt8} (h : Lib.IsBuilderF 216 5 b b (Lib.byteCells l) w) (h0 : l ≠ []) : ∃ g cap, b < g ∧ g < w.heap.size ∧ BAt w b g cap l := by
  obtain ⟨p, hB, v, hbk, hown, hne⟩ : ∃ p, Lib.BuilderAtF 216 5 b b p (Lib.byteCells l) w := by
    rcases h with h | h
    · exact ⟨_, h⟩
    · exact ⟨_, h⟩
  have hl0 : l.length ≠ 0 := by simpa using h0
  rw [Lib.byteCells_length] at hown
  rcases hown.2 with ⟨_, hz⟩ | ⟨g, cap, cur, fz, rfl, hbg, hg, hfz, hnc, hcm, hcs, htake⟩
  · exact absurd hz hl0
  · have h1 := (Array.getElem?_eq_some_iff.1 hg).1
    have h2 : g ≠ b := fun e => hne (by rw [e]; rfl)
    exact ⟨g, cap, by omega, h1, p, cur, fz, hbk, hg, hnc, hcm, hcs, htake⟩
theorem BAt.keep {w w' : World} {b g cap : Nat} {l : List UInt8} (h : BAt w b g cap l) (hb : w'.heap[b]? = w.heap[b]?) (hg : w'.heap[g]? = w.heap[g]?) : BAt w' b g cap l := by
  obtain ⟨p, cur, fz, h1, h2, h3⟩ := h
  exact ⟨p, cur, fz, hb.trans h1, hg.trans h2, h3⟩
theorem String_any {b g cap : Nat} {l : List UInt8} {w : World} (h : BAt w b g cap l) (h0 : l ≠ []) : Calls Tryz.prog 142 #[.pointer (some ⟨b, 0, none⟩)] w fun e w' => e = .returned (.string ⟨l.toArray⟩) ∧ w'.os = w.os ∧ w'.tape = w.tape ∧ w'.output = w.output ∧ w'.heap.size = w.heap.size ∧ ∀ k, k ≠ g → w'.heap[k]? = w.heap[k]? := by
  obtain ⟨p, cur, fz, hbk, hg, hnc, hcm, hcs, htake⟩ := h
  have hl0 : l.length ≠ 0 := by simpa using h0
  have c1 : w.drew.cell? ⟨b, 1, none⟩ = some (.slice (some ⟨g, 0, none⟩) l.length cap) := by
    have : w.drew.heap[b]? = some (.cells #[p, .slice (some ⟨g, 0, none⟩) l.length cap] 216 (0, 0)) := hbk
    rw [Lib.cell_of_heap this]; rfl
  have hSD : (Builtin.unsafeSliceData_ #[94] 255 #[.slice (some ⟨g, 0, none⟩) l.length cap]).run Tryz.prog w.drew = .ok (.pointer (some ⟨g, 0, none⟩)) w.drew :=
    Lib.run_unsafeSliceData_row _ _ _ _ _ _ (by omega)
  have hUS : (Builtin.unsafeString_ #[255, 3] 9 #[.pointer (some ⟨g, 0, none⟩), .int .i64 l.length]).run Tryz.prog w.drew = .ok (.string ⟨l.toArray⟩) (w.drew.freeze ⟨g, 0, none⟩ l.length) := by
    refine Lib.run_unsafeString_row w.drew 255 3 9 5 Tryz.underlying255 (by kernel_rfl) g cur.size (by have hg' : w.drew.heap[g]? = some (.cells cur 5 fz) := hg; simp [World.shape?, hg']) l h0 (by omega) (by unfold maxLen at hcm; omega) ?_
    intro j x hx
    have hg' : w.drew.heap[g]? = some (.cells cur 5 fz) := hg
    show w.drew.cell? (Addr.add ⟨g, 0, none⟩ j) = _
    rw [lit_add0, Lib.cell_of_heap hg']
    have hj : j < l.length := (List.getElem?_eq_some_iff.1 hx).1
    have h2 : (cur.toList.take (l.length * 1))[j]? = some (.int .u8 x.toNat) := by rw [htake]; simp [Lib.byteCells, hx]
    rw [List.getElem?_take_of_lt (by omega)] at h2
    simpa using h2
  have hfin : Hid ((w.drew.freeze ⟨g, 0, none⟩ l.length).os = w.os ∧ (w.drew.freeze ⟨g, 0, none⟩ l.length).tape = w.tape ∧ (w.drew.freeze ⟨g, 0, none⟩ l.length).output = w.output ∧ (w.drew.freeze ⟨g, 0, none⟩ l.length).heap.size = w.heap.size ∧ ∀ k, k ≠ g → (w.drew.freeze ⟨g, 0, none⟩ l.length).heap[k]? = w.heap[k]?) := by
    obtain ⟨q1, q2, q3, q4⟩ := freeze_same w.drew g l.length
    exact hid ⟨q2, q3, q4, q1, fun k hk => freeze_at w.drew g l.length k hk⟩
  clear hbk hg hcs htake hnc hcm
  have mixed : Tryz.prog.follows .mixedOrders = true := by kernel_rfl
  go_enter Tryz.func142, Tryz.ntmps142
  go_wp2
  go_region_o
  all_goals (go_wp2; go_ret; exact ⟨rfl, hfin.out⟩)
open Go.RowKit Go.Shelf
theorem BldF.kept {w w' : World} {b : Nat} {bs : List Value} {row : Option Nat} (h : Lib.IsBuilderF 216 5 b b bs w) (hg : w.grownBy w' row) (hb : row ≠ some b) (hr : ∀ q, row = some q → q < b) : Lib.IsBuilderF 216 5 b b bs w' := by
  have key : ∀ p, Lib.BuilderAtF 216 5 b b p bs w → Lib.BuilderAtF 216 5 b b p bs w' := fun p h => by
    have hlt := h.lt
    obtain ⟨hB, v, hbk, hown, hne⟩ := h
    refine ⟨hB, v, (hg.block b hlt (fun e => hb e.symm)).trans hbk, hown.kept hg ?_, hne⟩
    cases hv : v.ownBlock with
    | none => exact .inl rfl
    | some q => exact .inr (fun e => by have h1 := hr q e.symm; have h2 := (hown.lt q hv).1; omega)
  exact h.elim (fun h => .inl (key _ h)) (fun h => .inr (key _ h))
theorem Ext.grownBy {w w' : World} (h : Ext w w') : w.grownBy w' none := ⟨h.os, h.tape, h.output, h.size, fun k hk _ => h.block hk⟩
theorem BldF.ext {w w' : World} {b : Nat} {bs : List Value} (h : Lib.IsBuilderF 216 5 b b bs w) (hx : Ext w w') : Lib.IsBuilderF 216 5 b b bs w' := BldF.kept h hx.grownBy (by simp) (fun q e => by cases e)
theorem BldF.set {w : World} {b g o : Nat} {bs : List Value} {u : Value} (h : Lib.IsBuilderF 216 5 b b bs w) (hg : g < b) : Lib.IsBuilderF 216 5 b b bs (w.setCell ⟨g, o, none⟩ u) :=
  BldF.kept (row := some g) h ⟨rfl, rfl, rfl, by rw [(setCell_at _ _ _ _).1]; exact Nat.le_refl _, fun k _ hk => (setCell_at w g o u).2 k (fun e => hk (by rw [e]))⟩ (fun e => by injection e with e; omega) (fun q e => by injection e with e; omega)
theorem BldF.wrote {w : World} {b : Nat} {l : List UInt8} {s : ByteArray} (h : Lib.BuilderAtF 216 5 b b (.pointer (some ⟨b, 0, none⟩)) (Lib.byteCells l ++ Lib.strCells s) w) : Lib.IsBuilderF 216 5 b b (Lib.byteCells (l ++ s.data.toList)) w := by
  have e : Lib.byteCells (l ++ s.data.toList) = Lib.byteCells l ++ Lib.strCells s := by simp [Lib.byteCells, Lib.strCells]
  rw [e]
  exact .inr h
theorem wpl_bstr (w : World) {ops : Array Oper} {rest : List Oper} {o : Oper} {a : Act} {Q : Exit → Act → World → Prop} (hgd : o.guard = none) (s x : Operand) (ho : o.op = .call { callee := .builtin .append, args := #[s, x], argTypes := #[94, 9] })
    (lo : Nat) (A : Option Addr) (n c : Nat) (l : List Int) (hs : a.eval s = .slice A n c) (hown : BY w lo A n c l) (t : ByteArray) (hx : a.eval x = .string t) (hlo : lo ≤ w.heap.size) (hn : n + t.size ≤ 1000000000000)
    (h : ∀ B d w', BY w' lo B (n + t.size) d (l ++ t.data.toList.map (fun b => (b.toNat : Int))) → w.grownBy w' (Value.slice A n c).ownBlock → wpList Tryz.prog ops Q rest (a.put o.dst (.slice B (n + t.size) d)) w') : wpList Tryz.prog ops Q (o :: rest) a w := by
  obtain ⟨i0, hi, hz0, hz1, hz2⟩ := info_parts info5
  obtain ⟨v', w', h1, h2, h3, _⟩ := Lib.run_append_own_string (P := Tryz.prog) (w := w) lo 94 9 o.type 5 i0 Tryz.underlying94 Tryz.underlying9 hi hz0 hz1 hz2 _ n _ hown t (by unfold maxLen; omega) (by omega) hlo
  obtain ⟨B, d, rfl, -⟩ := own_form h2
  rw [strCells_bz, ← bz_app] at h2
  exact wpList_app hgd s x 94 9 ho _ _ hs hx _ h1 (h B d w' h2 h3)
theorem wr_enters {k : Int} {d : Kd} (h : knd k = some d) : ∀ args w, (callFunc d.wr args).run Tryz.prog w = .ok (.enter d.wr args) w := by
  unfold knd at h
  split at h
  · injection h with h; subst h; exact enters_of Tryz.func146 (by kernel_rfl) rfl
  split at h
  · injection h with h; subst h; exact enters_of Tryz.func148 (by kernel_rfl) rfl
  split at h
  · injection h with h; subst h; exact enters_of Tryz.func150 (by kernel_rfl) rfl
  split at h
  · injection h with h; subst h; exact enters_of Tryz.func152 (by kernel_rfl) rfl
  split at h
  · injection h with h; subst h; exact enters_of Tryz.func154 (by kernel_rfl) rfl
  · cases h
theorem fld175_3 (a b c d e : Value) (w : World) : (Instr.field 175 (.agg #[a, b, c, d, e]) 3).run Tryz.prog w = .ok d w := by kernel_rfl
theorem fld175_0 (a b c d e : Value) (w : World) : (Instr.field 175 (.agg #[a, b, c, d, e]) 0).run Tryz.prog w = .ok a w := by kernel_rfl
theorem dlen (s : ByteArray) : s.data.toList.length = s.size := by rw [Array.length_toList]; rfl
def fB (f : Fd) : List Value := [.string f.nm, .int .i64 f.k, .int .i64 f.wd, .bool f.nl]
def K2 (w7 w' : World) (g10 g11 : Nat) (f : Fd) (v : Vl) : Prop := Bk w' g10 (fB f) 64 ∧ Bk w' g11 (vcl v) 66 ∧ w7.heap.size ≤ w'.heap.size
theorem K2.ext {w7 w w' : World} {g10 g11 : Nat} {f : Fd} {v : Vl} (h : K2 w7 w g10 g11 f v) (hx : Ext w w') : K2 w7 w' g10 g11 f v := ⟨h.1.ext hx, h.2.1.ext hx, Nat.le_trans h.2.2 hx.size⟩
theorem K2.kept {w7 w w' : World} {g10 g11 b : Nat} {f : Fd} {v : Vl} (h : K2 w7 w g10 g11 f v) (hx : Lib.OthersKept 5 (some b) w w') (h1 : g10 ≠ b) (h2 : g11 ≠ b) (hs : w.heap.size ≤ w'.heap.size) : K2 w7 w' g10 g11 f v :=
  ⟨hx g10 _ h.1 (fun e => h1 (by injection e)) (fun c fz e => by injection e with _ e; cases e), hx g11 _ h.2.1 (fun e => h2 (by injection e)) (fun c fz e => by injection e with _ e; cases e), Nat.le_trans h.2.2 hs⟩
theorem IsMap.kept {w w' : World} {b r : Nat} {kv : List (Int × Value)} (h : IsMap keyI w r kv) (hx : Lib.OthersKept 5 (some b) w w') (hb : r ≠ b) : IsMap keyI w' r kv := by
  obtain ⟨es, clock, h1, h2⟩ := h
  exact ⟨es, clock, hx r _ h1 (fun e => hb (by injection e)) (fun c fz e => by cases e), h2⟩
theorem mvB {w w' : World} {b : Nat} (h : Below b w w') : Mv w w' (fun q => b ≤ q) := ⟨h.os, h.tape, h.output, h.size, fun k _ hk => h.block k (by omega)⟩
theorem rowB_any (p : Int) (A : Option Addr) (n c : Nat) (fs : List Fd) (C : Option Addr) (cv : Nat) (x : Rc) (w : World) (hl : RdF w A n c fs) (hv : RdV w C n cv x.v) (h0 : 0 < n) (hn : n ≤ 16) (hf : ∀ k, k < n → fieldB (fth fs k) = true) (hh : ∀ k, k < n → holdsB (fth fs k) p (vth x.v k) = true) :
    Calls Tryz.prog 105 #[.slice A n c, .agg #[.bool x.gone, .slice C n cv]] w fun e w' => ∃ B m d l, e = .returned (.slice B m d) ∧ BY w' w.heap.size B m d l ∧ m ≤ 5000 ∧ Ext w w' := by
  have hlen := hid hl.len
  have hf := hid hf
  have hh := hid hh
  obtain ⟨w1, g, e1, h1, s1, kg, x1⟩ := newB w [.bool x.gone, .slice C n cv] 69
  obtain ⟨w2, go, e2, h2, s2, ko, x2⟩ := newB w1 [.int .u8 32] 5
  have h2 := s1.out.symm.trans h2.out
  have hgo := hid (show w.heap.size = g ∧ go = g + 1 from ⟨h1.out, by omega⟩)
  replace kg := hid (kg.ext x2)
  replace ko := hid ko
  have x3 := hid (x1.trans x2)
  have hal := hid (fun q (hq : atB A n q) => hl.atlt hq)
  have hac := hid (fun q (hq : atB C n q) => hv.atlt hq)
  replace hl := hid hl
  replace hv := hid hv
  clear x1 x2 s1 s2
  go_enter Tryz.func105, Tryz.ntmps105
  go_upto_region 2 with fail
  try simp only [e1.out, e2.out, h1.out, h2]
  clear e1 e2 h1 h2
  obtain ⟨a0, a1⟩ := kg.out.c2
  cases hg0 : x.gone with
  | true =>
    rw [hg0] at a0
    have z0 := ko.out.c1
    have fz := ko.out.free 0
    have xg := hid (x3.out.set (p := ⟨go, 0, none⟩) (by have := hgo.out; show w.heap.size ≤ go; omega) (.int .u8 42))
    have kg3 := hid (kg.out.other (g := go) (by have := hgo.out; omega) 0 (.int .u8 42))
    have ko3 := hid (ko.out.set 0 (.int .u8 42))
    go_upto_region 4 with fail
    clear x3 kg ko z0 fz a0 a1 hg0
    generalize w2.setCell ⟨go, 0, none⟩ (.int .u8 42) = w3 at *
    have hnb := hid (nullBytes_any A n c fs w3 (RdF.ext hl.out xg.out) (by omega))
    obtain ⟨nf, hnf, hnf2⟩ : ∃ nf : Nat, nulB fs = nf ∧ nf ≤ 2 := ⟨(nulB fs).toNat, by unfold nulB nulI; omega, by
      have h1 := List.countP_le_length (p := fun f : Fd => f.nl) (l := fs)
      have h2 := hlen.out
      unfold nulB nulI
      omega⟩
    have hbits := hid (show ∀ j : Nat, (j : Int) < nulI fs → j / 8 < nf from fun j hj => by unfold nulB at hnf; omega)
    rw [hnf] at hnb
    replace hnf := hid hnf
    have hmk := mkU nf (by omega)
    go_wp2_with fail
    refine hnb.out.mono ?_
    rintro e w4 ⟨rfl, hx4⟩
    obtain ⟨w5, bf, e5, h5, s5, kf, x5⟩ := newB w4 (bz (List.replicate nf 0)) 5
    obtain ⟨w6, bb, e6, h6, s6, kb, x6⟩ := newB w5 [.pointer none, .slice none 0 0] 216
    have h6' := h6.out
    have hord := hid (show go < bf ∧ bb = bf + 1 ∧ w6.heap.size = bb + 1 from by
      have h7 := ko3.out.lt
      have h8 := hx4.size
      have h9 := h5.out
      have h10 := s6.out
      have h11 := s5.out
      omega)
    have x36 := hid ((hx4.trans x5).trans x6)
    have xg6 := hid (xg.out.trans x36.out)
    have kg6 := hid (kg3.out.ext x36.out)
    have ko6 := hid (ko3.out.ext x36.out)
    have kf6 := hid (kf.ext x6)
    have hB0 : Hid (Lib.IsBuilderF 216 5 bb bb (Lib.byteCells []) w6) := hid (.inl ⟨Nat.le_refl _, .slice none 0 0, kb, ⟨by simp [Lib.byteCells], .inl ⟨rfl, rfl⟩⟩, by simp [Value.ownBlock]⟩)
    have h5' := h5.out
    have e5' := e5.out
    have e6' := e6.out
    have hl6 := hid (RdF.ext hl.out xg6.out)
    have hv6 := hid (RdV.ext hv.out xg6.out)
    clear hnb hx4 x5 x6 kf kb s5 s6 h5 h6 e5 e6 xg kg3 ko3 x36
    go_upto_region 7 with fail
    try simp only [e5', h5', e6', h6']
    clear e5' e6' h5' h6' hmk
    go_wp2_with fail
    go_loopw [8, 22] (fun bt v wr => ∃ (k : Nat) (lb : List UInt8) (fl : List Int), k ≤ n ∧ v = .int .i64 k ∧ bt = .int .i64 ((fs.take k).countP (fun f => f.nl) : Nat) ∧ Hid (Lib.IsBuilderF 216 5 bb bb (Lib.byteCells lb) wr) ∧ Hid (k ≤ lb.length ∧ lb.length ≤ 254 * k) ∧ Hid (Bk wr bf (bz fl) 5) ∧ Hid (fl.length = nf) ∧ Hid (Mv w6 wr (fun q => q = bf ∨ bb ≤ q))) (fun _ v _ => n - (intOf v).toNat)
    case atStart => exact ⟨0, [], _, by omega, rfl, by simp, hB0, ⟨Nat.le_refl _, Nat.zero_le _⟩, kf6, hid (by simp), Mv.refl⟩
    case round =>
      clear hB0 kf6
      obtain ⟨k, lb, fl, hk, rfl, rfl, hB, hbl, kf, hfl, hM⟩ := hrel
      have hlw := hid (show RdF wr A n c fs from Rd.keepB hl6.out (fun q hq => hM.out.at (hl6.out.atlt hq) (fun e => by have := hal.out q hq; have := hgo.out; have := hord.out; omega)))
      have hvw := hid (show RdV wr C n cv x.v from Rd.keepB hv6.out (fun q hq => hM.out.at (hv6.out.atlt hq) (fun e => by have := hac.out q hq; have := hgo.out; have := hord.out; omega)))
      have kgw := hid (kg6.out.keep (hM.out.at kg6.out.lt (fun e => by have := hgo.out; have := hord.out; omega)))
      by_cases hlt : k < n
      · obtain ⟨ad, rfl, y0, y1, y2, y3⟩ := hlw.out.at_ hlt
        obtain ⟨av, rfl, u0, u1, u2⟩ := hvw.out.at_ hlt
        have hfB := hf.out k hlt
        have hhB := hh.out k hlt
        have hcs := cnt_step fs (k := k) (by rw [hlen.out]; exact hlt)
        have hcn : ((fs.take (k + 1)).countP (fun f => f.nl) : Int) ≤ nulI fs := by unfold nulI; exact_mod_cast List.Sublist.countP_le (List.take_sublist _ _)
        generalize fth fs k = f at *
        generalize vth x.v k = v at *
        obtain ⟨w7, g10, e7, h7, s7, k10, x7⟩ := newB wr (fB f) 64
        obtain ⟨w8, g11, e8, h8, s8, k11, x8⟩ := newB w7 (vcl v) 66
        have h8 := h8.out
        have h9s := hid s7.out
        have hx8 := hid (x7.trans x8)
        replace k10 := hid (k10.ext x8)
        replace k11 := hid k11
        have hgs := hid (show bb < g10 ∧ bb < g11 from by have h9 := hM.out.size; have h10 := hord.out; have h11 := h7.out; have h12 := h9s.out; omega)
        have e7 := e7.out
        have e8 := e8.out
        have h7 := h7.out
        unfold fB at e7
        unfold vcl at e8
        obtain ⟨a0, a1⟩ := kgw.out.c2
        have a1 := x7.cell a1
        have u0 := x7.cell u0
        have u1 := x7.cell u1
        have u2 := x7.cell u2
        have ik : 0 ≤ (k : Int) ∧ (k : Int) < n := by omega
        have hwd := hid (field_wd hfB)
        clear x7 x8 s7 s8
        go_upto_region 10 with fail
        try simp only [e7, h7]
        go_upto_region 11 with fail
        try simp only [e8, h8]
        clear e7 e8 h7 h8 y0 y1 y2 y3 u0 u1 u2 a0 a1
        have hB8 := hid (BldF.ext hB.out hx8.out)
        have kf8 := hid (kf.out.ext hx8.out)
        have hM8 := hid (hM.out.ext hx8.out)
        obtain ⟨a0, a1, a2, a3⟩ := k10.out.c4
        obtain ⟨b0, b1, b2⟩ := k11.out.c3
        clear hB kf hM hlw hvw kgw hx8
        have hb8 := hid hM8.out.size
        have hcs := hid hcs
        have hcn := hid hcn
        cases hnl : f.nl with
        | true =>
          rw [hnl] at a3
          have hcs1 := hid (show (fs.take (k + 1)).countP (fun f => f.nl) = (fs.take k).countP (fun f => f.nl) + 1 from by have := hcs.out; rw [hnl] at this; simpa using this)
          have hc16 := hid (show (fs.take k).countP (fun f => f.nl) ≤ 16 from Nat.le_trans (cnt_le fs k) (by omega))
          generalize hcg : (fs.take k).countP (fun f => f.nl) = cb at *
          have ic := IntWalk.i64_in ((cb : Int) + 1) (by have := hc16.out; omega)
          have hjb := hid (hbits.out cb (by have := hcn.out; have := hcs1.out; omega))
          by_cases hk0 : v.k = 0
          · rw [hk0] at b0
            obtain ⟨j, hj⟩ : ∃ j : Nat, cb / 8 = j := ⟨_, rfl⟩
            have hj2 : j < nf := by have := hjb.out; omega
            have ij : 0 ≤ (j : Int) ∧ (j : Int) < nf := by omega
            have iq : (cb : Int).tdiv 8 = (j : Int) := by rw [← hj]; rfl
            obtain ⟨r8, hr8, hr9⟩ : ∃ r8 : Nat, (cb : Int).tmod 8 = (r8 : Int) ∧ r8 < 8 := ⟨cb % 8, rfl, Nat.mod_lt _ (by decide)⟩
            have ir : 0 ≤ (r8 : Int) ∧ (r8 : Int) < 8 := by omega
            have ijw := IntWalk.i64_in (j : Int) (by omega)
            have hj := hid hj
            have hjl := hid (show j < fl.length from by have := hfl.out; omega)
            clear a0 a1 a2 a3 b0 b1 b2
            obtain ⟨a0, a1, a2, a3⟩ := k10.out.c4
            obtain ⟨b0, b1, b2⟩ := k11.out.c3
            rw [hk0] at b0
            rw [hnl] at a3
            go_upto_region 13 with fail
            clear a0 a1 a2 a3 b0 b1 b2
            have xap := (Ext.refl w8).drew_right
            refine region_J (fun w' => Ext w8 w') 10 (by kernel_rfl) ?_
            generalize w8.drew = dap at xap ⊢
            refine JW 0 (v := ?vap1) rfl (by kernel_rfl) rfl ?yap1 xap ?rap1
            case yap1 => (intro w hw; (go_simp; with_reducible rfl))
            simp only [Act.put, lyA, lyB, lyC, lyD, lyE, lyF]
            refine JW 1 (v := ?vap2) rfl (by kernel_rfl) rfl ?yap2 xap ?rap2
            case yap2 => (intro w hw; (go_simp; with_reducible rfl))
            simp only [Act.put, lyA, lyB, lyC, lyD, lyE, lyF]
            refine JW 2 (v := ?vap3) rfl (by kernel_rfl) rfl ?yap3 xap ?rap3
            case yap3 => (intro w hw; (go_simp; with_reducible rfl))
            simp only [Act.put, lyA, lyB, lyC, lyD, lyE, lyF]
            refine JW 3 (v := ?vap4) rfl (by kernel_rfl) rfl ?yap4 xap ?rap4
            case yap4 => (intro w hw; (go_simp; with_reducible rfl))
            simp only [Act.put, lyA, lyB, lyC, lyD, lyE, lyF]
            refine JW 4 (v := ?vap5) rfl (by kernel_rfl) rfl ?yap5 xap ?rap5
            case yap5 => (intro w hw; have z0 : w.cell? ⟨bf, j, none⟩ = some (.int .u8 (fl[j]'hjl.out)) := (kf8.out.ext hw).at (by simp [bz, List.getElem?_eq_getElem hjl.out]); (go_simp; with_reducible rfl))
            simp only [Act.put, lyA, lyB, lyC, lyD, lyE, lyF]
            refine JW 5 (v := ?vap6) rfl (by kernel_rfl) rfl ?yap6 xap ?rap6
            case yap6 => (intro w hw; (go_simp; with_reducible rfl))
            simp only [Act.put, lyA, lyB, lyC, lyD, lyE, lyF]
            refine JW 6 (v := ?vap7) rfl (by kernel_rfl) rfl ?yap7 xap ?rap7
            case yap7 => (intro w hw; (go_simp; with_reducible rfl))
            simp only [Act.put, lyA, lyB, lyC, lyD, lyE, lyF]
            refine JW 7 (v := ?vap8) rfl (by kernel_rfl) rfl ?yap8 xap ?rap8
            case yap8 => (intro w hw; (go_simp; with_reducible rfl))
            simp only [Act.put, lyA, lyB, lyC, lyD, lyE, lyF]
            refine JW 8 (v := ?vap9) rfl (by kernel_rfl) rfl ?yap9 xap ?rap9
            case yap9 => (intro w hw; (go_simp; with_reducible rfl))
            simp only [Act.put, lyA, lyB, lyC, lyD, lyE, lyF]
            refine JW 9 (v := ?vap10) rfl (by kernel_rfl) rfl ?yap10 xap ?rap10
            case yap10 => (intro w hw; (go_simp; with_reducible rfl))
            simp only [Act.put, lyA, lyB, lyC, lyD, lyE, lyF]
            refine J_one 10 rfl (by kernel_rfl) (fun K hK => ?_)
            have x9 := hid (xap)
            have z0 := (kf8.out.ext x9.out).at (i := j) (v := .int .u8 (fl[j]'hjl.out)) (by simp [bz, List.getElem?_eq_getElem hjl.out])
            have fz := (kf8.out.ext x9.out).free j
            have kk : ∀ u, Hid (Bk ((dap).setCell ⟨bf, j, none⟩ (.int .u8 u)) bf (bz (fl.set j u)) 5) := fun u => by rw [bz_set]; exact (kf8.out.ext x9.out).set j (.int .u8 u)
            have kb9 : ∀ u, Hid (Lib.IsBuilderF 216 5 bb bb (Lib.byteCells lb) ((dap).setCell ⟨bf, j, none⟩ (.int .u8 u))) := fun u => hid (BldF.set (BldF.ext hB8.out x9.out) (by have := hord.out; omega))
            have km9 : ∀ u, Hid (Mv w6 ((dap).setCell ⟨bf, j, none⟩ (.int .u8 u)) (fun q => q = bf ∨ bb ≤ q)) := fun u => hid ((hM8.out.ext x9.out).set (g := bf) (.inl (.inl rfl)) j _)
            have k109 : ∀ u, Hid (Bk ((dap).setCell ⟨bf, j, none⟩ (.int .u8 u)) g10 (fB f) 64) := fun u => hid ((k10.out.ext x9.out).other (g := bf) (by have := hgs.out; have := hord.out; omega) j _)
            have k119 : ∀ u, Hid (Bk ((dap).setCell ⟨bf, j, none⟩ (.int .u8 u)) g11 (vcl v) 66) := fun u => hid ((k11.out.ext x9.out).other (g := bf) (by have := hgs.out; have := hord.out; omega) j _)
            go_simp
            refine hK _ _ ⟨fun h => absurd rfl h, ?_⟩
            clear hK K
            try simp only [Act.put, lyA, lyB, lyC, lyD, lyE, lyF]
            refine J_done (by kernel_rfl) (OnlyOn.normal ?_)
            generalize hW9 : World.setCell dap ⟨bf, j, none⟩ (Value.int .u8 _) = w9 at *
            obtain ⟨fl9, hfl9, kf9⟩ : ∃ fl9 : List Int, Hid (fl9.length = nf) ∧ Hid (Bk w9 bf (bz fl9) 5) := by
              rw [← hW9]
              exact ⟨_, hid (by rw [List.length_set]; exact hfl.out), kk _⟩
            have kb9' : Hid (Lib.IsBuilderF 216 5 bb bb (Lib.byteCells lb) w9) := by rw [← hW9]; exact kb9 _
            have km9' : Hid (Mv w6 w9 (fun q => q = bf ∨ bb ≤ q)) := by rw [← hW9]; exact km9 _
            have k109' : Hid (Bk w9 g10 (fB f) 64) := by rw [← hW9]; exact k109 _
            have k119' : Hid (Bk w9 g11 (vcl v) 66) := by rw [← hW9]; exact k119 _
            have hs9 := hid (show bb < w9.heap.size from by rw [← hW9, (setCell_at _ _ _ _).1]; have := x9.out.size; have := hb8.out; have := hord.out; omega)
            clear kk kb9 km9 k109 k119 hW9 x9 z0 fz hB8 kf8 hM8 k10 k11
            have kb9 := kb9'
            have km9 := km9'
            clear kb9' km9'
            obtain ⟨a0, a1, a2, a3⟩ := k109'.out.c4
            obtain ⟨b0, b1, b2⟩ := k119'.out.c3
            rw [hk0] at b0
            rw [hnl] at a3
            obtain ⟨wd, hwd1, hwd2⟩ : ∃ wd : Nat, f.wd = wd ∧ 1 ≤ wd ∧ wd ≤ 254 := ⟨f.wd.toNat, by have := hwd.out; omega, by have := hwd.out; omega, by have := hwd.out; omega⟩
            rw [hwd1] at a2
            have hrep := hid (fun w' => Ky.rep_any 32 wd (by omega) w')
            have hsz := hid (show 1 ≤ (Ky.repB 32 wd).size ∧ (Ky.repB 32 wd).size ≤ 254 from by rw [Ky.repB_size]; exact hwd2)
            replace hwd1 := hid hwd1
            go_wp2_with fail
            refine (hrep.out _).mono ?_
            rintro e wA ⟨rfl, hxA⟩
            clear hrep a0 a1 a2 a3 b0 b1 b2
            generalize Ky.repB 32 wd = tx at *
            have hws := hid (Tryz.Builder_WriteString_k bb bb (Lib.byteCells lb) tx wA (BldF.ext kb9.out hxA) (by rw [Lib.byteCells_length]; have := hbl.out; have := hsz.out; omega) (by have := hs9.out; have := hxA.size; omega))
            have hxA := hid hxA
            go_wp2_with fail
            refine hws.out.mono ?_
            rintro e wB ⟨rfl, hat, hbel, hoth⟩
            clear hws kb9
            have hl9 := hid (show k + 1 ≤ (lb ++ tx.data.toList).length ∧ (lb ++ tx.data.toList).length ≤ 254 * (k + 1) from by
              have q1 := hbl.out
              have q2 := hsz.out
              have q3 := dlen tx
              rw [List.length_append, q3]; omega)
            have hB10 := hid (BldF.wrote hat)
            have kf10 := hid ((kf9.out.ext hxA.out).keep (hbel.block bf (by have := hord.out; omega)))
            have hM10 := hid ((km9.out.ext hxA.out).trans (mvB hbel) (fun q e => .inl (.inr e)))
            clear hat hbel hoth
            go_wp2
            go_roundw
            case rel => exact ⟨k + 1, lb ++ tx.data.toList, fl9, by omega, rfl, by rw [hcs1.out]; rfl, hB10, hl9, kf10, hfl9, hM10⟩
            case measure => simp [intOf]; omega
          · have hcb := hid hcg
            obtain ⟨d, hkd⟩ : ∃ d, knd f.k = some d := by
              unfold fieldB at hfB
              cases hq : knd f.k with
              | none => rw [hq] at hfB; cases hfB
              | some d => exact ⟨d, rfl⟩
            obtain ⟨dL, dlo, dhi, dwr, drd⟩ := d
            have hwr := hid (show ∀ w', Calls Tryz.prog dwr #[fd f, vl v] w' (WrR w') from fun w' => writeVal_any hfB hhB hk0 hkd w')
            have hcf : ∀ args w, (callFunc dwr args).run Tryz.prog w = .ok (.enter dwr args) w := wr_enters hkd
            replace hkd := hid hkd
            unfold fd vl at hwr
            rw [hnl] at hwr
            have hk0' : (v.k == 0) = false := by simpa using hk0
            have hs9 := hid (show bb < w8.heap.size from by have := hb8.out; have := hord.out; omega)
            have kb9 := hB8
            have kf9 := kf8
            have km9 := hM8
            have hfl9 := hfl
            clear hB8 kf8 hM8 hfl
            replace hk0 := hid hk0
            go_upto_region 17 with fail
            clear a0 a1 a2 a3 b0 b1 b2
            have hxd := hid ((Ext.refl w8).drew_right)
            have f175 := fld175_3
            have xbp : (fun w' => K2 w8 w' g10 g11 f v) w8.drew := ⟨k10.out.ext (Ext.refl w8).drew_right, k11.out.ext (Ext.refl w8).drew_right, (Ext.refl w8).drew_right.size⟩
            refine region_J (fun w' => K2 w8 w' g10 g11 f v) 9 (by kernel_rfl) ?_
            generalize w8.drew = dbp at * 
            refine JR 1 (v := ?vbp1) rfl (by kernel_rfl) rfl ?ybp1 xbp ?rbp1
            case ybp1 => (intro w hw; (go_simp; with_reducible rfl))
            simp only [Act.put, lyA, lyB, lyC, lyD, lyE, lyF]
            refine JR 2 (v := ?vbp2) rfl (by kernel_rfl) rfl ?ybp2 xbp ?rbp2
            case ybp2 => (intro w hw; obtain ⟨a0, a1, a2, a3⟩ := Bk.c4 (show Bk w g10 [.string f.nm, .int .i64 f.k, .int .i64 f.wd, .bool f.nl] 64 from hw.1); obtain ⟨b0, b1, b2⟩ := Bk.c3 (show Bk w g11 [.int .i64 v.k, .int .i64 v.n, .string v.s] 66 from hw.2.1); (go_simp; with_reducible rfl))
            simp only [Act.put, lyA, lyB, lyC, lyD, lyE, lyF]
            refine JR 5 (v := ?vbp3) rfl (by kernel_rfl) rfl ?ybp3 xbp ?rbp3
            case ybp3 => (intro w hw; obtain ⟨a0, a1, a2, a3⟩ := Bk.c4 (show Bk w g10 [.string f.nm, .int .i64 f.k, .int .i64 f.wd, .bool f.nl] 64 from hw.1); obtain ⟨b0, b1, b2⟩ := Bk.c3 (show Bk w g11 [.int .i64 v.k, .int .i64 v.n, .string v.s] 66 from hw.2.1); (go_simp; with_reducible rfl))
            simp only [Act.put, lyA, lyB, lyC, lyD, lyE, lyF]
            refine JR 6 (v := ?vbp4) rfl (by kernel_rfl) rfl ?ybp4 xbp ?rbp4
            case ybp4 => (intro w hw; obtain ⟨a0, a1, a2, a3⟩ := Bk.c4 (show Bk w g10 [.string f.nm, .int .i64 f.k, .int .i64 f.wd, .bool f.nl] 64 from hw.1); obtain ⟨b0, b1, b2⟩ := Bk.c3 (show Bk w g11 [.int .i64 v.k, .int .i64 v.n, .string v.s] 66 from hw.2.1); (go_simp; with_reducible rfl))
            simp only [Act.put, lyA, lyB, lyC, lyD, lyE, lyF]
            refine J_one 0 rfl (by kernel_rfl) (fun K hK => ?_)
            go_simp
            refine (kinds_any dbp).mono ?_
            rintro e wbp5 ⟨rbp5, rfl, hmbp5, hrbp5, hxbp5⟩
            have hrbbp5 := hid (show rbp5 ≠ bb from by have := hxd.out.size; have := hs9.out; omega)
            refine hK _ _ ⟨fun _ => (K2.ext xbp hxbp5), ?_⟩
            clear hK K
            try simp only [Act.put, lyA, lyB, lyC, lyD, lyE, lyF]
            have xbp5 : (fun w' => K2 w8 w' g10 g11 f v) wbp5 := (K2.ext xbp hxbp5)
            refine J_strong (S' := fun w' => (K2 w8 w' g10 g11 f v) ∧ IsMap keyI w' rbp5 kvK) (fun w h => h.1) ?_
            refine JR 3 (v := ?vbp6) rfl (by kernel_rfl) rfl ?ybp6 ⟨xbp5, hmbp5⟩ ?rbp6
            case ybp6 => (intro w hw; obtain ⟨hw, hm⟩ := hw; have hlk := look_kinds hm f.k false; simp only [hkd.out, Option.map_some, Option.getD_some, Bool.false_eq_true, if_false, Kd.v] at hlk; (go_simp; with_reducible rfl))
            simp only [Act.put, lyA, lyB, lyC, lyD, lyE, lyF]
            refine JR 4 (v := ?vbp7) rfl (by kernel_rfl) rfl ?ybp7 ⟨xbp5, hmbp5⟩ ?rbp7
            case ybp7 => (intro w hw; obtain ⟨hw, hm⟩ := hw; (go_simp; with_reducible rfl))
            simp only [Act.put, lyA, lyB, lyC, lyD, lyE, lyF]
            refine J_one 7 rfl (by kernel_rfl) (fun K hK => ?_)
            go_simp
            refine (hwr.out _).mono ?_
            rintro e wbp8 ⟨tx, rfl, hsz0, hxbp8⟩
            have hsz := hid hsz0
            refine hK _ _ ⟨fun _ => ⟨(K2.ext xbp5 hxbp8), (hmbp5).ext hxbp8⟩, ?_⟩
            clear hK K
            try simp only [Act.put, lyA, lyB, lyC, lyD, lyE, lyF]
            have xbp8 : (fun w' => K2 w8 w' g10 g11 f v) wbp8 := (K2.ext xbp5 hxbp8)
            have mbp8 := (hmbp5).ext hxbp8
            refine J_one 8 rfl (by kernel_rfl) (fun K hK => ?_)
            have hws := hid (Tryz.Builder_WriteString_k bb bb (Lib.byteCells lb) tx wbp8 (BldF.ext kb9.out ((hxd.out.trans hxbp5).trans hxbp8)) (by rw [Lib.byteCells_length]; have := hbl.out; have := hsz.out; omega) (by have := hs9.out; have := (((hxd.out.trans hxbp5).trans hxbp8)).size; omega))
            go_simp
            refine hws.out.mono ?_
            rintro e wB ⟨rfl, hat, hbel, hoth⟩
            refine hK _ _ ⟨fun _ => ⟨(K2.kept xbp8 hoth (by have := hgs.out; omega) (by have := hgs.out; omega) hbel.size), (IsMap.kept mbp8 hoth hrbbp5.out)⟩, ?_⟩
            clear hK K
            try simp only [Act.put, lyA, lyB, lyC, lyD, lyE, lyF]
            have xbp9 : (fun w' => K2 w8 w' g10 g11 f v) wB := (K2.kept xbp8 hoth (by have := hgs.out; omega) (by have := hgs.out; omega) hbel.size)
            have mbp9 := (IsMap.kept mbp8 hoth hrbbp5.out)
            refine J_done (by kernel_rfl) (OnlyOn.normal ?_)
            have hch := hid ((hxd.out.trans hxbp5).trans hxbp8)
            clear hws hwr kb9 k10 k11
            have hl9 := hid (show k + 1 ≤ (lb ++ tx.data.toList).length ∧ (lb ++ tx.data.toList).length ≤ 254 * (k + 1) from by
              have q1 := hbl.out
              have q2 := hsz.out
              have q3 := dlen tx
              rw [List.length_append, q3]; omega)
            have hB10 := hid (BldF.wrote hat)
            have kf10 := hid ((kf9.out.ext hch.out).keep (hbel.block bf (by have := hord.out; omega)))
            have hM10 := hid ((km9.out.ext hch.out).trans (mvB hbel) (fun q e => .inl (.inr e)))
            clear hat hbel hoth
            go_wp2
            go_roundw
            case rel => exact ⟨k + 1, lb ++ tx.data.toList, fl, by omega, rfl, by rw [hcs1.out]; rfl, hB10, hl9, kf10, hfl9, hM10⟩
            case measure => simp [intOf]; omega
        | false =>
          rw [hnl] at a3
          have hcs1 := hid (show (fs.take (k + 1)).countP (fun f => f.nl) = (fs.take k).countP (fun f => f.nl) from by have := hcs.out; rw [hnl] at this; simpa using this)
          have hk0 : v.k ≠ 0 := fun e => by
            unfold holdsB at hhB
            rw [if_pos e, hnl] at hhB
            cases hhB
          obtain ⟨d, hkd⟩ : ∃ d, knd f.k = some d := by
            unfold fieldB at hfB
            cases hq : knd f.k with
            | none => rw [hq] at hfB; cases hfB
            | some d => exact ⟨d, rfl⟩
          obtain ⟨dL, dlo, dhi, dwr, drd⟩ := d
          have hwr := hid (show ∀ w', Calls Tryz.prog dwr #[fd f, vl v] w' (WrR w') from fun w' => writeVal_any hfB hhB hk0 hkd w')
          have hcf : ∀ args w, (callFunc dwr args).run Tryz.prog w = .ok (.enter dwr args) w := wr_enters hkd
          replace hkd := hid hkd
          unfold fd vl at hwr
          rw [hnl] at hwr
          have hk0' : (v.k == 0) = false := by simpa using hk0
          have hs9 := hid (show bb < w8.heap.size from by have := hb8.out; have := hord.out; omega)
          have kb9 := hB8
          have kf9 := kf8
          have km9 := hM8
          have hfl9 := hfl
          clear hB8 kf8 hM8 hfl
          replace hk0 := hid hk0
          go_upto_region 17 with fail
          clear a0 a1 a2 a3 b0 b1 b2
          have hxd := hid ((Ext.refl w8).drew_right)
          have f175 := fld175_3
          have xcp : (fun w' => K2 w8 w' g10 g11 f v) w8.drew := ⟨k10.out.ext (Ext.refl w8).drew_right, k11.out.ext (Ext.refl w8).drew_right, (Ext.refl w8).drew_right.size⟩
          refine region_J (fun w' => K2 w8 w' g10 g11 f v) 9 (by kernel_rfl) ?_
          generalize w8.drew = dcp at * 
          refine JR 1 (v := ?vcp1) rfl (by kernel_rfl) rfl ?ycp1 xcp ?rcp1
          case ycp1 => (intro w hw; (go_simp; with_reducible rfl))
          simp only [Act.put, lyA, lyB, lyC, lyD, lyE, lyF]
          refine JR 2 (v := ?vcp2) rfl (by kernel_rfl) rfl ?ycp2 xcp ?rcp2
          case ycp2 => (intro w hw; obtain ⟨a0, a1, a2, a3⟩ := Bk.c4 (show Bk w g10 [.string f.nm, .int .i64 f.k, .int .i64 f.wd, .bool f.nl] 64 from hw.1); obtain ⟨b0, b1, b2⟩ := Bk.c3 (show Bk w g11 [.int .i64 v.k, .int .i64 v.n, .string v.s] 66 from hw.2.1); (go_simp; with_reducible rfl))
          simp only [Act.put, lyA, lyB, lyC, lyD, lyE, lyF]
          refine JR 5 (v := ?vcp3) rfl (by kernel_rfl) rfl ?ycp3 xcp ?rcp3
          case ycp3 => (intro w hw; obtain ⟨a0, a1, a2, a3⟩ := Bk.c4 (show Bk w g10 [.string f.nm, .int .i64 f.k, .int .i64 f.wd, .bool f.nl] 64 from hw.1); obtain ⟨b0, b1, b2⟩ := Bk.c3 (show Bk w g11 [.int .i64 v.k, .int .i64 v.n, .string v.s] 66 from hw.2.1); (go_simp; with_reducible rfl))
          simp only [Act.put, lyA, lyB, lyC, lyD, lyE, lyF]
          refine JR 6 (v := ?vcp4) rfl (by kernel_rfl) rfl ?ycp4 xcp ?rcp4
          case ycp4 => (intro w hw; obtain ⟨a0, a1, a2, a3⟩ := Bk.c4 (show Bk w g10 [.string f.nm, .int .i64 f.k, .int .i64 f.wd, .bool f.nl] 64 from hw.1); obtain ⟨b0, b1, b2⟩ := Bk.c3 (show Bk w g11 [.int .i64 v.k, .int .i64 v.n, .string v.s] 66 from hw.2.1); (go_simp; with_reducible rfl))
          simp only [Act.put, lyA, lyB, lyC, lyD, lyE, lyF]
          refine J_one 0 rfl (by kernel_rfl) (fun K hK => ?_)
          go_simp
          refine (kinds_any dcp).mono ?_
          rintro e wcp5 ⟨rcp5, rfl, hmcp5, hrcp5, hxcp5⟩
          have hrbcp5 := hid (show rcp5 ≠ bb from by have := hxd.out.size; have := hs9.out; omega)
          refine hK _ _ ⟨fun _ => (K2.ext xcp hxcp5), ?_⟩
          clear hK K
          try simp only [Act.put, lyA, lyB, lyC, lyD, lyE, lyF]
          have xcp5 : (fun w' => K2 w8 w' g10 g11 f v) wcp5 := (K2.ext xcp hxcp5)
          refine J_strong (S' := fun w' => (K2 w8 w' g10 g11 f v) ∧ IsMap keyI w' rcp5 kvK) (fun w h => h.1) ?_
          refine JR 3 (v := ?vcp6) rfl (by kernel_rfl) rfl ?ycp6 ⟨xcp5, hmcp5⟩ ?rcp6
          case ycp6 => (intro w hw; obtain ⟨hw, hm⟩ := hw; have hlk := look_kinds hm f.k false; simp only [hkd.out, Option.map_some, Option.getD_some, Bool.false_eq_true, if_false, Kd.v] at hlk; (go_simp; with_reducible rfl))
          simp only [Act.put, lyA, lyB, lyC, lyD, lyE, lyF]
          refine JR 4 (v := ?vcp7) rfl (by kernel_rfl) rfl ?ycp7 ⟨xcp5, hmcp5⟩ ?rcp7
          case ycp7 => (intro w hw; obtain ⟨hw, hm⟩ := hw; (go_simp; with_reducible rfl))
          simp only [Act.put, lyA, lyB, lyC, lyD, lyE, lyF]
          refine J_one 7 rfl (by kernel_rfl) (fun K hK => ?_)
          go_simp
          refine (hwr.out _).mono ?_
          rintro e wcp8 ⟨tx, rfl, hsz0, hxcp8⟩
          have hsz := hid hsz0
          refine hK _ _ ⟨fun _ => ⟨(K2.ext xcp5 hxcp8), (hmcp5).ext hxcp8⟩, ?_⟩
          clear hK K
          try simp only [Act.put, lyA, lyB, lyC, lyD, lyE, lyF]
          have xcp8 : (fun w' => K2 w8 w' g10 g11 f v) wcp8 := (K2.ext xcp5 hxcp8)
          have mcp8 := (hmcp5).ext hxcp8
          refine J_one 8 rfl (by kernel_rfl) (fun K hK => ?_)
          have hws := hid (Tryz.Builder_WriteString_k bb bb (Lib.byteCells lb) tx wcp8 (BldF.ext kb9.out ((hxd.out.trans hxcp5).trans hxcp8)) (by rw [Lib.byteCells_length]; have := hbl.out; have := hsz.out; omega) (by have := hs9.out; have := (((hxd.out.trans hxcp5).trans hxcp8)).size; omega))
          go_simp
          refine hws.out.mono ?_
          rintro e wB ⟨rfl, hat, hbel, hoth⟩
          refine hK _ _ ⟨fun _ => ⟨(K2.kept xcp8 hoth (by have := hgs.out; omega) (by have := hgs.out; omega) hbel.size), (IsMap.kept mcp8 hoth hrbcp5.out)⟩, ?_⟩
          clear hK K
          try simp only [Act.put, lyA, lyB, lyC, lyD, lyE, lyF]
          have xcp9 : (fun w' => K2 w8 w' g10 g11 f v) wB := (K2.kept xcp8 hoth (by have := hgs.out; omega) (by have := hgs.out; omega) hbel.size)
          have mcp9 := (IsMap.kept mcp8 hoth hrbcp5.out)
          refine J_done (by kernel_rfl) (OnlyOn.normal ?_)
          have hch := hid ((hxd.out.trans hxcp5).trans hxcp8)
          clear hws hwr kb9 k10 k11
          have hl9 := hid (show k + 1 ≤ (lb ++ tx.data.toList).length ∧ (lb ++ tx.data.toList).length ≤ 254 * (k + 1) from by
            have q1 := hbl.out
            have q2 := hsz.out
            have q3 := dlen tx
            rw [List.length_append, q3]; omega)
          have hB10 := hid (BldF.wrote hat)
          have kf10 := hid ((kf9.out.ext hch.out).keep (hbel.block bf (by have := hord.out; omega)))
          have hM10 := hid ((km9.out.ext hch.out).trans (mvB hbel) (fun q e => .inl (.inr e)))
          clear hat hbel hoth
          go_wp2
          go_roundw
          case rel => exact ⟨k + 1, lb ++ tx.data.toList, fl, by omega, rfl, by rw [hcs1.out], hB10, hl9, kf10, hfl9, hM10⟩
          case measure => simp [intOf]; omega
      · obtain rfl : k = n := by omega
        have hne : lb ≠ [] := fun e => by have := hbl.out; rw [e] at this; simp at this; omega
        obtain ⟨g8, cap8, hg8, hg8w, hb8⟩ := BAt.of hB.out hne
        have ko := hid (ko6.out.keep (hM.out.at ko6.out.lt (fun e => by have := hgo.out; have := hord.out; omega)))
        have hYo := hid (BY.of_bk (lo := w.heap.size) (n := 1) (l := [42]) ko.out (by have := hgo.out; omega) rfl (by omega))
        have hYf := hid ((BY.of_bk (lo := w.heap.size) kf.out (by have := hgo.out; have := hord.out; omega) hfl.out (by omega)).rd)
        have xr := hid (hM.out.base xg6.out (fun q e => by have := hgo.out; have := hord.out; omega))
        have hbbw := hid (show bb < wr.heap.size from by have := hM.out.size; have := hord.out; omega)
        clear hlw hvw kgw hB hM kf ko
        go_wp2_with (at_builtin; refine wpl_bytes _ rfl _ _ rfl w.heap.size (some ⟨go, 0, none⟩) 1 1 [42] rfl hYo.out (some ⟨bf, 0, none⟩) nf nf fl rfl hYf.out xr.out.size (by omega) ?_)
        intro B1 d1 wa hO1 hg1 hq1
        have hba := hid (BAt.keep hb8 (hg1.block bb hbbw.out (fun e => by simp [Value.ownBlock] at e; have := hord.out; omega)) (hg1.block g8 hg8w (fun e => by simp [Value.ownBlock] at e; have := hord.out; omega)))
        have xa := hid (Ext.app xr.out hg1 (fun q e => by simp [Value.ownBlock] at e; have := hgo.out; omega))
        have hO1k := hid (fun q (hq : (Value.slice B1 (1 + nf) d1).ownBlock = some q) => (show q ≠ g8 from by
          rcases hq1 with e | e
          · rw [e] at hq; simp [Value.ownBlock] at hq; have := hord.out; omega
          · have := e q hq; omega))
        have hsa := hid (show wr.heap.size ≤ wa.heap.size from hg1.size)
        replace hO1 := hid hO1
        clear hg1 hq1 hYo hYf hb8
        go_wp2_with fail
        refine (String_any hba.out hne).mono ?_
        rintro e wb ⟨rfl, ho, ht, hou, hsz, hkp⟩
        have xb := hid (show Ext w wb from ⟨ho.trans xa.out.os, ht.trans xa.out.tape, hou.trans xa.out.output, by rw [hsz]; exact xa.out.size, fun q hq => (hkp q (by have := hgo.out; have := hord.out; omega)).trans (xa.out.block hq)⟩)
        have hO2 := hid (hO1.out.keep (fun q hq => hkp q (hO1k.out q hq)))
        have hlt := hid (show (⟨lb.toArray⟩ : ByteArray).size ≤ 4064 from by have := hbl.out; simp [ByteArray.size]; omega)
        clear ho ht hou hsz hkp hO1 hO1k xa hba
        go_wp2_with (at_builtin; refine wpl_bstr _ rfl _ _ rfl w.heap.size B1 (1 + nf) d1 _ rfl hO2.out ⟨lb.toArray⟩ rfl xb.out.size (by have := hlt.out; omega) ?_)
        intro B3 d3 wc hO3 hg3
        have xc := hid (Ext.app xb.out hg3 (fun q e => (hO2.out.lt e).1))
        have hsl : (⟨lb.toArray⟩ : ByteArray).size = lb.length := by simp [ByteArray.size]
        have hlt := hlt.out
        rw [hsl] at hlt
        replace hO3 := hid hO3
        have hmm := hid (show 1 + nf + lb.length ≤ 5000 from by omega)
        clear hO2 hg3 xb hsl hlt
        go_wp2
        go_ret
        exact ⟨B3, _, d3, _, rfl, hO3.out, hmm.out, xc.out⟩
  | false =>
    rw [hg0] at a0
    have xg := x3
    have kg3 := kg
    have ko3 := ko
    go_upto_region 4 with fail
    clear x3 kg ko a0 a1 hg0
    generalize w2 = w3 at *
    have hnb := hid (nullBytes_any A n c fs w3 (RdF.ext hl.out xg.out) (by omega))
    obtain ⟨nf, hnf, hnf2⟩ : ∃ nf : Nat, nulB fs = nf ∧ nf ≤ 2 := ⟨(nulB fs).toNat, by unfold nulB nulI; omega, by
      have h1 := List.countP_le_length (p := fun f : Fd => f.nl) (l := fs)
      have h2 := hlen.out
      unfold nulB nulI
      omega⟩
    have hbits := hid (show ∀ j : Nat, (j : Int) < nulI fs → j / 8 < nf from fun j hj => by unfold nulB at hnf; omega)
    rw [hnf] at hnb
    replace hnf := hid hnf
    have hmk := mkU nf (by omega)
    go_wp2_with fail
    refine hnb.out.mono ?_
    rintro e w4 ⟨rfl, hx4⟩
    obtain ⟨w5, bf, e5, h5, s5, kf, x5⟩ := newB w4 (bz (List.replicate nf 0)) 5
    obtain ⟨w6, bb, e6, h6, s6, kb, x6⟩ := newB w5 [.pointer none, .slice none 0 0] 216
    have h6' := h6.out
    have hord := hid (show go < bf ∧ bb = bf + 1 ∧ w6.heap.size = bb + 1 from by
      have h7 := ko3.out.lt
      have h8 := hx4.size
      have h9 := h5.out
      have h10 := s6.out
      have h11 := s5.out
      omega)
    have x36 := hid ((hx4.trans x5).trans x6)
    have xg6 := hid (xg.out.trans x36.out)
    have kg6 := hid (kg3.out.ext x36.out)
    have ko6 := hid (ko3.out.ext x36.out)
    have kf6 := hid (kf.ext x6)
    have hB0 : Hid (Lib.IsBuilderF 216 5 bb bb (Lib.byteCells []) w6) := hid (.inl ⟨Nat.le_refl _, .slice none 0 0, kb, ⟨by simp [Lib.byteCells], .inl ⟨rfl, rfl⟩⟩, by simp [Value.ownBlock]⟩)
    have h5' := h5.out
    have e5' := e5.out
    have e6' := e6.out
    have hl6 := hid (RdF.ext hl.out xg6.out)
    have hv6 := hid (RdV.ext hv.out xg6.out)
    clear hnb hx4 x5 x6 kf kb s5 s6 h5 h6 e5 e6 xg kg3 ko3 x36
    go_upto_region 7 with fail
    try simp only [e5', h5', e6', h6']
    clear e5' e6' h5' h6' hmk
    go_wp2_with fail
    go_loopw [8, 22] (fun bt v wr => ∃ (k : Nat) (lb : List UInt8) (fl : List Int), k ≤ n ∧ v = .int .i64 k ∧ bt = .int .i64 ((fs.take k).countP (fun f => f.nl) : Nat) ∧ Hid (Lib.IsBuilderF 216 5 bb bb (Lib.byteCells lb) wr) ∧ Hid (k ≤ lb.length ∧ lb.length ≤ 254 * k) ∧ Hid (Bk wr bf (bz fl) 5) ∧ Hid (fl.length = nf) ∧ Hid (Mv w6 wr (fun q => q = bf ∨ bb ≤ q))) (fun _ v _ => n - (intOf v).toNat)
    case atStart => exact ⟨0, [], _, by omega, rfl, by simp, hB0, ⟨Nat.le_refl _, Nat.zero_le _⟩, kf6, hid (by simp), Mv.refl⟩
    case round =>
      clear hB0 kf6
      obtain ⟨k, lb, fl, hk, rfl, rfl, hB, hbl, kf, hfl, hM⟩ := hrel
      have hlw := hid (show RdF wr A n c fs from Rd.keepB hl6.out (fun q hq => hM.out.at (hl6.out.atlt hq) (fun e => by have := hal.out q hq; have := hgo.out; have := hord.out; omega)))
      have hvw := hid (show RdV wr C n cv x.v from Rd.keepB hv6.out (fun q hq => hM.out.at (hv6.out.atlt hq) (fun e => by have := hac.out q hq; have := hgo.out; have := hord.out; omega)))
      have kgw := hid (kg6.out.keep (hM.out.at kg6.out.lt (fun e => by have := hgo.out; have := hord.out; omega)))
      by_cases hlt : k < n
      · obtain ⟨ad, rfl, y0, y1, y2, y3⟩ := hlw.out.at_ hlt
        obtain ⟨av, rfl, u0, u1, u2⟩ := hvw.out.at_ hlt
        have hfB := hf.out k hlt
        have hhB := hh.out k hlt
        have hcs := cnt_step fs (k := k) (by rw [hlen.out]; exact hlt)
        have hcn : ((fs.take (k + 1)).countP (fun f => f.nl) : Int) ≤ nulI fs := by unfold nulI; exact_mod_cast List.Sublist.countP_le (List.take_sublist _ _)
        generalize fth fs k = f at *
        generalize vth x.v k = v at *
        obtain ⟨w7, g10, e7, h7, s7, k10, x7⟩ := newB wr (fB f) 64
        obtain ⟨w8, g11, e8, h8, s8, k11, x8⟩ := newB w7 (vcl v) 66
        have h8 := h8.out
        have h9s := hid s7.out
        have hx8 := hid (x7.trans x8)
        replace k10 := hid (k10.ext x8)
        replace k11 := hid k11
        have hgs := hid (show bb < g10 ∧ bb < g11 from by have h9 := hM.out.size; have h10 := hord.out; have h11 := h7.out; have h12 := h9s.out; omega)
        have e7 := e7.out
        have e8 := e8.out
        have h7 := h7.out
        unfold fB at e7
        unfold vcl at e8
        obtain ⟨a0, a1⟩ := kgw.out.c2
        have a1 := x7.cell a1
        have u0 := x7.cell u0
        have u1 := x7.cell u1
        have u2 := x7.cell u2
        have ik : 0 ≤ (k : Int) ∧ (k : Int) < n := by omega
        have hwd := hid (field_wd hfB)
        clear x7 x8 s7 s8
        go_upto_region 10 with fail
        try simp only [e7, h7]
        go_upto_region 11 with fail
        try simp only [e8, h8]
        clear e7 e8 h7 h8 y0 y1 y2 y3 u0 u1 u2 a0 a1
        have hB8 := hid (BldF.ext hB.out hx8.out)
        have kf8 := hid (kf.out.ext hx8.out)
        have hM8 := hid (hM.out.ext hx8.out)
        obtain ⟨a0, a1, a2, a3⟩ := k10.out.c4
        obtain ⟨b0, b1, b2⟩ := k11.out.c3
        clear hB kf hM hlw hvw kgw hx8
        have hb8 := hid hM8.out.size
        have hcs := hid hcs
        have hcn := hid hcn
        cases hnl : f.nl with
        | true =>
          rw [hnl] at a3
          have hcs1 := hid (show (fs.take (k + 1)).countP (fun f => f.nl) = (fs.take k).countP (fun f => f.nl) + 1 from by have := hcs.out; rw [hnl] at this; simpa using this)
          have hc16 := hid (show (fs.take k).countP (fun f => f.nl) ≤ 16 from Nat.le_trans (cnt_le fs k) (by omega))
          generalize hcg : (fs.take k).countP (fun f => f.nl) = cb at *
          have ic := IntWalk.i64_in ((cb : Int) + 1) (by have := hc16.out; omega)
          have hjb := hid (hbits.out cb (by have := hcn.out; have := hcs1.out; omega))
          by_cases hk0 : v.k = 0
          · rw [hk0] at b0
            obtain ⟨j, hj⟩ : ∃ j : Nat, cb / 8 = j := ⟨_, rfl⟩
            have hj2 : j < nf := by have := hjb.out; omega
            have ij : 0 ≤ (j : Int) ∧ (j : Int) < nf := by omega
            have iq : (cb : Int).tdiv 8 = (j : Int) := by rw [← hj]; rfl
            obtain ⟨r8, hr8, hr9⟩ : ∃ r8 : Nat, (cb : Int).tmod 8 = (r8 : Int) ∧ r8 < 8 := ⟨cb % 8, rfl, Nat.mod_lt _ (by decide)⟩
            have ir : 0 ≤ (r8 : Int) ∧ (r8 : Int) < 8 := by omega
            have ijw := IntWalk.i64_in (j : Int) (by omega)
            have hj := hid hj
            have hjl := hid (show j < fl.length from by have := hfl.out; omega)
            clear a0 a1 a2 a3 b0 b1 b2
            obtain ⟨a0, a1, a2, a3⟩ := k10.out.c4
            obtain ⟨b0, b1, b2⟩ := k11.out.c3
            rw [hk0] at b0
            rw [hnl] at a3
            go_upto_region 13 with fail
            clear a0 a1 a2 a3 b0 b1 b2
            have xaq := (Ext.refl w8).drew_right
            refine region_J (fun w' => Ext w8 w') 10 (by kernel_rfl) ?_
            generalize w8.drew = daq at xaq ⊢
            refine JW 0 (v := ?vaq1) rfl (by kernel_rfl) rfl ?yaq1 xaq ?raq1
            case yaq1 => (intro w hw; (go_simp; with_reducible rfl))
            simp only [Act.put, lyA, lyB, lyC, lyD, lyE, lyF]
            refine JW 1 (v := ?vaq2) rfl (by kernel_rfl) rfl ?yaq2 xaq ?raq2
            case yaq2 => (intro w hw; (go_simp; with_reducible rfl))
            simp only [Act.put, lyA, lyB, lyC, lyD, lyE, lyF]
            refine JW 2 (v := ?vaq3) rfl (by kernel_rfl) rfl ?yaq3 xaq ?raq3
            case yaq3 => (intro w hw; (go_simp; with_reducible rfl))
            simp only [Act.put, lyA, lyB, lyC, lyD, lyE, lyF]
            refine JW 3 (v := ?vaq4) rfl (by kernel_rfl) rfl ?yaq4 xaq ?raq4
            case yaq4 => (intro w hw; (go_simp; with_reducible rfl))
            simp only [Act.put, lyA, lyB, lyC, lyD, lyE, lyF]
            refine JW 4 (v := ?vaq5) rfl (by kernel_rfl) rfl ?yaq5 xaq ?raq5
            case yaq5 => (intro w hw; have z0 : w.cell? ⟨bf, j, none⟩ = some (.int .u8 (fl[j]'hjl.out)) := (kf8.out.ext hw).at (by simp [bz, List.getElem?_eq_getElem hjl.out]); (go_simp; with_reducible rfl))
            simp only [Act.put, lyA, lyB, lyC, lyD, lyE, lyF]
            refine JW 5 (v := ?vaq6) rfl (by kernel_rfl) rfl ?yaq6 xaq ?raq6
            case yaq6 => (intro w hw; (go_simp; with_reducible rfl))
            simp only [Act.put, lyA, lyB, lyC, lyD, lyE, lyF]
            refine JW 6 (v := ?vaq7) rfl (by kernel_rfl) rfl ?yaq7 xaq ?raq7
            case yaq7 => (intro w hw; (go_simp; with_reducible rfl))
            simp only [Act.put, lyA, lyB, lyC, lyD, lyE, lyF]
            refine JW 7 (v := ?vaq8) rfl (by kernel_rfl) rfl ?yaq8 xaq ?raq8
            case yaq8 => (intro w hw; (go_simp; with_reducible rfl))
            simp only [Act.put, lyA, lyB, lyC, lyD, lyE, lyF]
            refine JW 8 (v := ?vaq9) rfl (by kernel_rfl) rfl ?yaq9 xaq ?raq9
            case yaq9 => (intro w hw; (go_simp; with_reducible rfl))
            simp only [Act.put, lyA, lyB, lyC, lyD, lyE, lyF]
            refine JW 9 (v := ?vaq10) rfl (by kernel_rfl) rfl ?yaq10 xaq ?raq10
            case yaq10 => (intro w hw; (go_simp; with_reducible rfl))
            simp only [Act.put, lyA, lyB, lyC, lyD, lyE, lyF]
            refine J_one 10 rfl (by kernel_rfl) (fun K hK => ?_)
            have x9 := hid (xaq)
            have z0 := (kf8.out.ext x9.out).at (i := j) (v := .int .u8 (fl[j]'hjl.out)) (by simp [bz, List.getElem?_eq_getElem hjl.out])
            have fz := (kf8.out.ext x9.out).free j
            have kk : ∀ u, Hid (Bk ((daq).setCell ⟨bf, j, none⟩ (.int .u8 u)) bf (bz (fl.set j u)) 5) := fun u => by rw [bz_set]; exact (kf8.out.ext x9.out).set j (.int .u8 u)
            have kb9 : ∀ u, Hid (Lib.IsBuilderF 216 5 bb bb (Lib.byteCells lb) ((daq).setCell ⟨bf, j, none⟩ (.int .u8 u))) := fun u => hid (BldF.set (BldF.ext hB8.out x9.out) (by have := hord.out; omega))
            have km9 : ∀ u, Hid (Mv w6 ((daq).setCell ⟨bf, j, none⟩ (.int .u8 u)) (fun q => q = bf ∨ bb ≤ q)) := fun u => hid ((hM8.out.ext x9.out).set (g := bf) (.inl (.inl rfl)) j _)
            have k109 : ∀ u, Hid (Bk ((daq).setCell ⟨bf, j, none⟩ (.int .u8 u)) g10 (fB f) 64) := fun u => hid ((k10.out.ext x9.out).other (g := bf) (by have := hgs.out; have := hord.out; omega) j _)
            have k119 : ∀ u, Hid (Bk ((daq).setCell ⟨bf, j, none⟩ (.int .u8 u)) g11 (vcl v) 66) := fun u => hid ((k11.out.ext x9.out).other (g := bf) (by have := hgs.out; have := hord.out; omega) j _)
            go_simp
            refine hK _ _ ⟨fun h => absurd rfl h, ?_⟩
            clear hK K
            try simp only [Act.put, lyA, lyB, lyC, lyD, lyE, lyF]
            refine J_done (by kernel_rfl) (OnlyOn.normal ?_)
            generalize hW9 : World.setCell daq ⟨bf, j, none⟩ (Value.int .u8 _) = w9 at *
            obtain ⟨fl9, hfl9, kf9⟩ : ∃ fl9 : List Int, Hid (fl9.length = nf) ∧ Hid (Bk w9 bf (bz fl9) 5) := by
              rw [← hW9]
              exact ⟨_, hid (by rw [List.length_set]; exact hfl.out), kk _⟩
            have kb9' : Hid (Lib.IsBuilderF 216 5 bb bb (Lib.byteCells lb) w9) := by rw [← hW9]; exact kb9 _
            have km9' : Hid (Mv w6 w9 (fun q => q = bf ∨ bb ≤ q)) := by rw [← hW9]; exact km9 _
            have k109' : Hid (Bk w9 g10 (fB f) 64) := by rw [← hW9]; exact k109 _
            have k119' : Hid (Bk w9 g11 (vcl v) 66) := by rw [← hW9]; exact k119 _
            have hs9 := hid (show bb < w9.heap.size from by rw [← hW9, (setCell_at _ _ _ _).1]; have := x9.out.size; have := hb8.out; have := hord.out; omega)
            clear kk kb9 km9 k109 k119 hW9 x9 z0 fz hB8 kf8 hM8 k10 k11
            have kb9 := kb9'
            have km9 := km9'
            clear kb9' km9'
            obtain ⟨a0, a1, a2, a3⟩ := k109'.out.c4
            obtain ⟨b0, b1, b2⟩ := k119'.out.c3
            rw [hk0] at b0
            rw [hnl] at a3
            obtain ⟨wd, hwd1, hwd2⟩ : ∃ wd : Nat, f.wd = wd ∧ 1 ≤ wd ∧ wd ≤ 254 := ⟨f.wd.toNat, by have := hwd.out; omega, by have := hwd.out; omega, by have := hwd.out; omega⟩
            rw [hwd1] at a2
            have hrep := hid (fun w' => Ky.rep_any 32 wd (by omega) w')
            have hsz := hid (show 1 ≤ (Ky.repB 32 wd).size ∧ (Ky.repB 32 wd).size ≤ 254 from by rw [Ky.repB_size]; exact hwd2)
            replace hwd1 := hid hwd1
            go_wp2_with fail
            refine (hrep.out _).mono ?_
            rintro e wA ⟨rfl, hxA⟩
            clear hrep a0 a1 a2 a3 b0 b1 b2
            generalize Ky.repB 32 wd = tx at *
            have hws := hid (Tryz.Builder_WriteString_k bb bb (Lib.byteCells lb) tx wA (BldF.ext kb9.out hxA) (by rw [Lib.byteCells_length]; have := hbl.out; have := hsz.out; omega) (by have := hs9.out; have := hxA.size; omega))
            have hxA := hid hxA
            go_wp2_with fail
            refine hws.out.mono ?_
            rintro e wB ⟨rfl, hat, hbel, hoth⟩
            clear hws kb9
            have hl9 := hid (show k + 1 ≤ (lb ++ tx.data.toList).length ∧ (lb ++ tx.data.toList).length ≤ 254 * (k + 1) from by
              have q1 := hbl.out
              have q2 := hsz.out
              have q3 := dlen tx
              rw [List.length_append, q3]; omega)
            have hB10 := hid (BldF.wrote hat)
            have kf10 := hid ((kf9.out.ext hxA.out).keep (hbel.block bf (by have := hord.out; omega)))
            have hM10 := hid ((km9.out.ext hxA.out).trans (mvB hbel) (fun q e => .inl (.inr e)))
            clear hat hbel hoth
            go_wp2
            go_roundw
            case rel => exact ⟨k + 1, lb ++ tx.data.toList, fl9, by omega, rfl, by rw [hcs1.out]; rfl, hB10, hl9, kf10, hfl9, hM10⟩
            case measure => simp [intOf]; omega
          · have hcb := hid hcg
            obtain ⟨d, hkd⟩ : ∃ d, knd f.k = some d := by
              unfold fieldB at hfB
              cases hq : knd f.k with
              | none => rw [hq] at hfB; cases hfB
              | some d => exact ⟨d, rfl⟩
            obtain ⟨dL, dlo, dhi, dwr, drd⟩ := d
            have hwr := hid (show ∀ w', Calls Tryz.prog dwr #[fd f, vl v] w' (WrR w') from fun w' => writeVal_any hfB hhB hk0 hkd w')
            have hcf : ∀ args w, (callFunc dwr args).run Tryz.prog w = .ok (.enter dwr args) w := wr_enters hkd
            replace hkd := hid hkd
            unfold fd vl at hwr
            rw [hnl] at hwr
            have hk0' : (v.k == 0) = false := by simpa using hk0
            have hs9 := hid (show bb < w8.heap.size from by have := hb8.out; have := hord.out; omega)
            have kb9 := hB8
            have kf9 := kf8
            have km9 := hM8
            have hfl9 := hfl
            clear hB8 kf8 hM8 hfl
            replace hk0 := hid hk0
            go_upto_region 17 with fail
            clear a0 a1 a2 a3 b0 b1 b2
            have hxd := hid ((Ext.refl w8).drew_right)
            have f175 := fld175_3
            have xbq : (fun w' => K2 w8 w' g10 g11 f v) w8.drew := ⟨k10.out.ext (Ext.refl w8).drew_right, k11.out.ext (Ext.refl w8).drew_right, (Ext.refl w8).drew_right.size⟩
            refine region_J (fun w' => K2 w8 w' g10 g11 f v) 9 (by kernel_rfl) ?_
            generalize w8.drew = dbq at * 
            refine JR 1 (v := ?vbq1) rfl (by kernel_rfl) rfl ?ybq1 xbq ?rbq1
            case ybq1 => (intro w hw; (go_simp; with_reducible rfl))
            simp only [Act.put, lyA, lyB, lyC, lyD, lyE, lyF]
            refine JR 2 (v := ?vbq2) rfl (by kernel_rfl) rfl ?ybq2 xbq ?rbq2
            case ybq2 => (intro w hw; obtain ⟨a0, a1, a2, a3⟩ := Bk.c4 (show Bk w g10 [.string f.nm, .int .i64 f.k, .int .i64 f.wd, .bool f.nl] 64 from hw.1); obtain ⟨b0, b1, b2⟩ := Bk.c3 (show Bk w g11 [.int .i64 v.k, .int .i64 v.n, .string v.s] 66 from hw.2.1); (go_simp; with_reducible rfl))
            simp only [Act.put, lyA, lyB, lyC, lyD, lyE, lyF]
            refine JR 5 (v := ?vbq3) rfl (by kernel_rfl) rfl ?ybq3 xbq ?rbq3
            case ybq3 => (intro w hw; obtain ⟨a0, a1, a2, a3⟩ := Bk.c4 (show Bk w g10 [.string f.nm, .int .i64 f.k, .int .i64 f.wd, .bool f.nl] 64 from hw.1); obtain ⟨b0, b1, b2⟩ := Bk.c3 (show Bk w g11 [.int .i64 v.k, .int .i64 v.n, .string v.s] 66 from hw.2.1); (go_simp; with_reducible rfl))
            simp only [Act.put, lyA, lyB, lyC, lyD, lyE, lyF]
            refine JR 6 (v := ?vbq4) rfl (by kernel_rfl) rfl ?ybq4 xbq ?rbq4
            case ybq4 => (intro w hw; obtain ⟨a0, a1, a2, a3⟩ := Bk.c4 (show Bk w g10 [.string f.nm, .int .i64 f.k, .int .i64 f.wd, .bool f.nl] 64 from hw.1); obtain ⟨b0, b1, b2⟩ := Bk.c3 (show Bk w g11 [.int .i64 v.k, .int .i64 v.n, .string v.s] 66 from hw.2.1); (go_simp; with_reducible rfl))
            simp only [Act.put, lyA, lyB, lyC, lyD, lyE, lyF]
            refine J_one 0 rfl (by kernel_rfl) (fun K hK => ?_)
            go_simp
            refine (kinds_any dbq).mono ?_
            rintro e wbq5 ⟨rbq5, rfl, hmbq5, hrbq5, hxbq5⟩
            have hrbbq5 := hid (show rbq5 ≠ bb from by have := hxd.out.size; have := hs9.out; omega)
            refine hK _ _ ⟨fun _ => (K2.ext xbq hxbq5), ?_⟩
            clear hK K
            try simp only [Act.put, lyA, lyB, lyC, lyD, lyE, lyF]
            have xbq5 : (fun w' => K2 w8 w' g10 g11 f v) wbq5 := (K2.ext xbq hxbq5)
            refine J_strong (S' := fun w' => (K2 w8 w' g10 g11 f v) ∧ IsMap keyI w' rbq5 kvK) (fun w h => h.1) ?_
            refine JR 3 (v := ?vbq6) rfl (by kernel_rfl) rfl ?ybq6 ⟨xbq5, hmbq5⟩ ?rbq6
            case ybq6 => (intro w hw; obtain ⟨hw, hm⟩ := hw; have hlk := look_kinds hm f.k false; simp only [hkd.out, Option.map_some, Option.getD_some, Bool.false_eq_true, if_false, Kd.v] at hlk; (go_simp; with_reducible rfl))
            simp only [Act.put, lyA, lyB, lyC, lyD, lyE, lyF]
            refine JR 4 (v := ?vbq7) rfl (by kernel_rfl) rfl ?ybq7 ⟨xbq5, hmbq5⟩ ?rbq7
            case ybq7 => (intro w hw; obtain ⟨hw, hm⟩ := hw; (go_simp; with_reducible rfl))
            simp only [Act.put, lyA, lyB, lyC, lyD, lyE, lyF]
            refine J_one 7 rfl (by kernel_rfl) (fun K hK => ?_)
            go_simp
            refine (hwr.out _).mono ?_
            rintro e wbq8 ⟨tx, rfl, hsz0, hxbq8⟩
            have hsz := hid hsz0
            refine hK _ _ ⟨fun _ => ⟨(K2.ext xbq5 hxbq8), (hmbq5).ext hxbq8⟩, ?_⟩
            clear hK K
            try simp only [Act.put, lyA, lyB, lyC, lyD, lyE, lyF]
            have xbq8 : (fun w' => K2 w8 w' g10 g11 f v) wbq8 := (K2.ext xbq5 hxbq8)
            have mbq8 := (hmbq5).ext hxbq8
            refine J_one 8 rfl (by kernel_rfl) (fun K hK => ?_)
            have hws := hid (Tryz.Builder_WriteString_k bb bb (Lib.byteCells lb) tx wbq8 (BldF.ext kb9.out ((hxd.out.trans hxbq5).trans hxbq8)) (by rw [Lib.byteCells_length]; have := hbl.out; have := hsz.out; omega) (by have := hs9.out; have := (((hxd.out.trans hxbq5).trans hxbq8)).size; omega))
            go_simp
            refine hws.out.mono ?_
            rintro e wB ⟨rfl, hat, hbel, hoth⟩
            refine hK _ _ ⟨fun _ => ⟨(K2.kept xbq8 hoth (by have := hgs.out; omega) (by have := hgs.out; omega) hbel.size), (IsMap.kept mbq8 hoth hrbbq5.out)⟩, ?_⟩
            clear hK K
            try simp only [Act.put, lyA, lyB, lyC, lyD, lyE, lyF]
            have xbq9 : (fun w' => K2 w8 w' g10 g11 f v) wB := (K2.kept xbq8 hoth (by have := hgs.out; omega) (by have := hgs.out; omega) hbel.size)
            have mbq9 := (IsMap.kept mbq8 hoth hrbbq5.out)
            refine J_done (by kernel_rfl) (OnlyOn.normal ?_)
            have hch := hid ((hxd.out.trans hxbq5).trans hxbq8)
            clear hws hwr kb9 k10 k11
            have hl9 := hid (show k + 1 ≤ (lb ++ tx.data.toList).length ∧ (lb ++ tx.data.toList).length ≤ 254 * (k + 1) from by
              have q1 := hbl.out
              have q2 := hsz.out
              have q3 := dlen tx
              rw [List.length_append, q3]; omega)
            have hB10 := hid (BldF.wrote hat)
            have kf10 := hid ((kf9.out.ext hch.out).keep (hbel.block bf (by have := hord.out; omega)))
            have hM10 := hid ((km9.out.ext hch.out).trans (mvB hbel) (fun q e => .inl (.inr e)))
            clear hat hbel hoth
            go_wp2
            go_roundw
            case rel => exact ⟨k + 1, lb ++ tx.data.toList, fl, by omega, rfl, by rw [hcs1.out]; rfl, hB10, hl9, kf10, hfl9, hM10⟩
            case measure => simp [intOf]; omega
        | false =>
          rw [hnl] at a3
          have hcs1 := hid (show (fs.take (k + 1)).countP (fun f => f.nl) = (fs.take k).countP (fun f => f.nl) from by have := hcs.out; rw [hnl] at this; simpa using this)
          have hk0 : v.k ≠ 0 := fun e => by
            unfold holdsB at hhB
            rw [if_pos e, hnl] at hhB
            cases hhB
          obtain ⟨d, hkd⟩ : ∃ d, knd f.k = some d := by
            unfold fieldB at hfB
            cases hq : knd f.k with
            | none => rw [hq] at hfB; cases hfB
            | some d => exact ⟨d, rfl⟩
          obtain ⟨dL, dlo, dhi, dwr, drd⟩ := d
          have hwr := hid (show ∀ w', Calls Tryz.prog dwr #[fd f, vl v] w' (WrR w') from fun w' => writeVal_any hfB hhB hk0 hkd w')
          have hcf : ∀ args w, (callFunc dwr args).run Tryz.prog w = .ok (.enter dwr args) w := wr_enters hkd
          replace hkd := hid hkd
          unfold fd vl at hwr
          rw [hnl] at hwr
          have hk0' : (v.k == 0) = false := by simpa using hk0
          have hs9 := hid (show bb < w8.heap.size from by have := hb8.out; have := hord.out; omega)
          have kb9 := hB8
          have kf9 := kf8
          have km9 := hM8
          have hfl9 := hfl
          clear hB8 kf8 hM8 hfl
          replace hk0 := hid hk0
          go_upto_region 17 with fail
          clear a0 a1 a2 a3 b0 b1 b2
          have hxd := hid ((Ext.refl w8).drew_right)
          have f175 := fld175_3
          have xcq : (fun w' => K2 w8 w' g10 g11 f v) w8.drew := ⟨k10.out.ext (Ext.refl w8).drew_right, k11.out.ext (Ext.refl w8).drew_right, (Ext.refl w8).drew_right.size⟩
          refine region_J (fun w' => K2 w8 w' g10 g11 f v) 9 (by kernel_rfl) ?_
          generalize w8.drew = dcq at * 
          refine JR 1 (v := ?vcq1) rfl (by kernel_rfl) rfl ?ycq1 xcq ?rcq1
          case ycq1 => (intro w hw; (go_simp; with_reducible rfl))
          simp only [Act.put, lyA, lyB, lyC, lyD, lyE, lyF]
          refine JR 2 (v := ?vcq2) rfl (by kernel_rfl) rfl ?ycq2 xcq ?rcq2
          case ycq2 => (intro w hw; obtain ⟨a0, a1, a2, a3⟩ := Bk.c4 (show Bk w g10 [.string f.nm, .int .i64 f.k, .int .i64 f.wd, .bool f.nl] 64 from hw.1); obtain ⟨b0, b1, b2⟩ := Bk.c3 (show Bk w g11 [.int .i64 v.k, .int .i64 v.n, .string v.s] 66 from hw.2.1); (go_simp; with_reducible rfl))
          simp only [Act.put, lyA, lyB, lyC, lyD, lyE, lyF]
          refine JR 5 (v := ?vcq3) rfl (by kernel_rfl) rfl ?ycq3 xcq ?rcq3
          case ycq3 => (intro w hw; obtain ⟨a0, a1, a2, a3⟩ := Bk.c4 (show Bk w g10 [.string f.nm, .int .i64 f.k, .int .i64 f.wd, .bool f.nl] 64 from hw.1); obtain ⟨b0, b1, b2⟩ := Bk.c3 (show Bk w g11 [.int .i64 v.k, .int .i64 v.n, .string v.s] 66 from hw.2.1); (go_simp; with_reducible rfl))
          simp only [Act.put, lyA, lyB, lyC, lyD, lyE, lyF]
          refine JR 6 (v := ?vcq4) rfl (by kernel_rfl) rfl ?ycq4 xcq ?rcq4
          case ycq4 => (intro w hw; obtain ⟨a0, a1, a2, a3⟩ := Bk.c4 (show Bk w g10 [.string f.nm, .int .i64 f.k, .int .i64 f.wd, .bool f.nl] 64 from hw.1); obtain ⟨b0, b1, b2⟩ := Bk.c3 (show Bk w g11 [.int .i64 v.k, .int .i64 v.n, .string v.s] 66 from hw.2.1); (go_simp; with_reducible rfl))
          simp only [Act.put, lyA, lyB, lyC, lyD, lyE, lyF]
          refine J_one 0 rfl (by kernel_rfl) (fun K hK => ?_)
          go_simp
          refine (kinds_any dcq).mono ?_
          rintro e wcq5 ⟨rcq5, rfl, hmcq5, hrcq5, hxcq5⟩
          have hrbcq5 := hid (show rcq5 ≠ bb from by have := hxd.out.size; have := hs9.out; omega)
          refine hK _ _ ⟨fun _ => (K2.ext xcq hxcq5), ?_⟩
          clear hK K
          try simp only [Act.put, lyA, lyB, lyC, lyD, lyE, lyF]
          have xcq5 : (fun w' => K2 w8 w' g10 g11 f v) wcq5 := (K2.ext xcq hxcq5)
          refine J_strong (S' := fun w' => (K2 w8 w' g10 g11 f v) ∧ IsMap keyI w' rcq5 kvK) (fun w h => h.1) ?_
          refine JR 3 (v := ?vcq6) rfl (by kernel_rfl) rfl ?ycq6 ⟨xcq5, hmcq5⟩ ?rcq6
          case ycq6 => (intro w hw; obtain ⟨hw, hm⟩ := hw; have hlk := look_kinds hm f.k false; simp only [hkd.out, Option.map_some, Option.getD_some, Bool.false_eq_true, if_false, Kd.v] at hlk; (go_simp; with_reducible rfl))
          simp only [Act.put, lyA, lyB, lyC, lyD, lyE, lyF]
          refine JR 4 (v := ?vcq7) rfl (by kernel_rfl) rfl ?ycq7 ⟨xcq5, hmcq5⟩ ?rcq7
          case ycq7 => (intro w hw; obtain ⟨hw, hm⟩ := hw; (go_simp; with_reducible rfl))
          simp only [Act.put, lyA, lyB, lyC, lyD, lyE, lyF]
          refine J_one 7 rfl (by kernel_rfl) (fun K hK => ?_)
          go_simp
          refine (hwr.out _).mono ?_
          rintro e wcq8 ⟨tx, rfl, hsz0, hxcq8⟩
          have hsz := hid hsz0
          refine hK _ _ ⟨fun _ => ⟨(K2.ext xcq5 hxcq8), (hmcq5).ext hxcq8⟩, ?_⟩
          clear hK K
          try simp only [Act.put, lyA, lyB, lyC, lyD, lyE, lyF]
          have xcq8 : (fun w' => K2 w8 w' g10 g11 f v) wcq8 := (K2.ext xcq5 hxcq8)
          have mcq8 := (hmcq5).ext hxcq8
          refine J_one 8 rfl (by kernel_rfl) (fun K hK => ?_)
          have hws := hid (Tryz.Builder_WriteString_k bb bb (Lib.byteCells lb) tx wcq8 (BldF.ext kb9.out ((hxd.out.trans hxcq5).trans hxcq8)) (by rw [Lib.byteCells_length]; have := hbl.out; have := hsz.out; omega) (by have := hs9.out; have := (((hxd.out.trans hxcq5).trans hxcq8)).size; omega))
          go_simp
          refine hws.out.mono ?_
          rintro e wB ⟨rfl, hat, hbel, hoth⟩
          refine hK _ _ ⟨fun _ => ⟨(K2.kept xcq8 hoth (by have := hgs.out; omega) (by have := hgs.out; omega) hbel.size), (IsMap.kept mcq8 hoth hrbcq5.out)⟩, ?_⟩
          clear hK K
          try simp only [Act.put, lyA, lyB, lyC, lyD, lyE, lyF]
          have xcq9 : (fun w' => K2 w8 w' g10 g11 f v) wB := (K2.kept xcq8 hoth (by have := hgs.out; omega) (by have := hgs.out; omega) hbel.size)
          have mcq9 := (IsMap.kept mcq8 hoth hrbcq5.out)
          refine J_done (by kernel_rfl) (OnlyOn.normal ?_)
          have hch := hid ((hxd.out.trans hxcq5).trans hxcq8)
          clear hws hwr kb9 k10 k11
          have hl9 := hid (show k + 1 ≤ (lb ++ tx.data.toList).length ∧ (lb ++ tx.data.toList).length ≤ 254 * (k + 1) from by
            have q1 := hbl.out
            have q2 := hsz.out
            have q3 := dlen tx
            rw [List.length_append, q3]; omega)
          have hB10 := hid (BldF.wrote hat)
          have kf10 := hid ((kf9.out.ext hch.out).keep (hbel.block bf (by have := hord.out; omega)))
          have hM10 := hid ((km9.out.ext hch.out).trans (mvB hbel) (fun q e => .inl (.inr e)))
          clear hat hbel hoth
          go_wp2
          go_roundw
          case rel => exact ⟨k + 1, lb ++ tx.data.toList, fl, by omega, rfl, by rw [hcs1.out], hB10, hl9, kf10, hfl9, hM10⟩
          case measure => simp [intOf]; omega
      · obtain rfl : k = n := by omega
        have hne : lb ≠ [] := fun e => by have := hbl.out; rw [e] at this; simp at this; omega
        obtain ⟨g8, cap8, hg8, hg8w, hb8⟩ := BAt.of hB.out hne
        have ko := hid (ko6.out.keep (hM.out.at ko6.out.lt (fun e => by have := hgo.out; have := hord.out; omega)))
        have hYo := hid (BY.of_bk (lo := w.heap.size) (n := 1) (l := [32]) ko.out (by have := hgo.out; omega) rfl (by omega))
        have hYf := hid ((BY.of_bk (lo := w.heap.size) kf.out (by have := hgo.out; have := hord.out; omega) hfl.out (by omega)).rd)
        have xr := hid (hM.out.base xg6.out (fun q e => by have := hgo.out; have := hord.out; omega))
        have hbbw := hid (show bb < wr.heap.size from by have := hM.out.size; have := hord.out; omega)
        clear hlw hvw kgw hB hM kf ko
        go_wp2_with (at_builtin; refine wpl_bytes _ rfl _ _ rfl w.heap.size (some ⟨go, 0, none⟩) 1 1 [32] rfl hYo.out (some ⟨bf, 0, none⟩) nf nf fl rfl hYf.out xr.out.size (by omega) ?_)
        intro B1 d1 wa hO1 hg1 hq1
        have hba := hid (BAt.keep hb8 (hg1.block bb hbbw.out (fun e => by simp [Value.ownBlock] at e; have := hord.out; omega)) (hg1.block g8 hg8w (fun e => by simp [Value.ownBlock] at e; have := hord.out; omega)))
        have xa := hid (Ext.app xr.out hg1 (fun q e => by simp [Value.ownBlock] at e; have := hgo.out; omega))
        have hO1k := hid (fun q (hq : (Value.slice B1 (1 + nf) d1).ownBlock = some q) => (show q ≠ g8 from by
          rcases hq1 with e | e
          · rw [e] at hq; simp [Value.ownBlock] at hq; have := hord.out; omega
          · have := e q hq; omega))
        have hsa := hid (show wr.heap.size ≤ wa.heap.size from hg1.size)
        replace hO1 := hid hO1
        clear hg1 hq1 hYo hYf hb8
        go_wp2_with fail
        refine (String_any hba.out hne).mono ?_
        rintro e wb ⟨rfl, ho, ht, hou, hsz, hkp⟩
        have xb := hid (show Ext w wb from ⟨ho.trans xa.out.os, ht.trans xa.out.tape, hou.trans xa.out.output, by rw [hsz]; exact xa.out.size, fun q hq => (hkp q (by have := hgo.out; have := hord.out; omega)).trans (xa.out.block hq)⟩)
        have hO2 := hid (hO1.out.keep (fun q hq => hkp q (hO1k.out q hq)))
        have hlt := hid (show (⟨lb.toArray⟩ : ByteArray).size ≤ 4064 from by have := hbl.out; simp [ByteArray.size]; omega)
        clear ho ht hou hsz hkp hO1 hO1k xa hba
        go_wp2_with (at_builtin; refine wpl_bstr _ rfl _ _ rfl w.heap.size B1 (1 + nf) d1 _ rfl hO2.out ⟨lb.toArray⟩ rfl xb.out.size (by have := hlt.out; omega) ?_)
        intro B3 d3 wc hO3 hg3
        have xc := hid (Ext.app xb.out hg3 (fun q e => (hO2.out.lt e).1))
        have hsl : (⟨lb.toArray⟩ : ByteArray).size = lb.length := by simp [ByteArray.size]
        have hlt := hlt.out
        rw [hsl] at hlt
        replace hO3 := hid hO3
        have hmm := hid (show 1 + nf + lb.length ≤ 5000 from by omega)
        clear hO2 hg3 xb hsl hlt
        go_wp2
        go_ret
        exact ⟨B3, _, d3, _, rfl, hO3.out, hmm.out, xc.out⟩
end Go.Proofs.YtngoebbmgpdeiaaGreatDoor
