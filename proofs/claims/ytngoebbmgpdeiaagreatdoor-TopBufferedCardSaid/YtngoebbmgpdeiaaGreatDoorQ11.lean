/-
  A desk: how it is entered, whether a buffer is empty, the mode; A desk: how it lies in memory. No function of the program in sight; A desk: the mode; A desk: what is seen; A record of the log; a write upon files; The bytes of a table; The bytes of a table's header; The bytes of one record of a table, of changes; a record of the log; slices.Sorted(maps.Keys(m)) at this dump: the layings (printed by the kit's lay-plain out of three shelf_lay_g).
-/
import Derived.Test.YtngoebbmgpdeiaaGreatDoorQ10
import Derived.Laws.CopyRow
import Derived.Lib.BufferWrite
import Derived.Test.YtngoebbmgpdeiaaGreatDoorQ8
import Derived.Shelf.SlIterI.Nil
import Derived.Shelf.SortM.Plain
import Derived.Shelf.SortM.SortNone
import Derived.Test.YtngoebbmgpdeiaaGreatDoorProg
import Derived.Test.YtngoebbmgpdeiaaGreatDoorQ6
set_option maxRecDepth 100000
set_option maxHeartbeats 40000000
set_option linter.unusedVariables false
set_option linter.unusedSimpArgs false
namespace Go.Proofs.YtngoebbmgpdeiaaGreatDoor
open Go.RowKit Go.Shelf
def BYn (w : World) (lo : Nat) (A : Option Addr) (n c : Nat) : Prop := ∃ l, BY w lo A n c l
theorem rowOf {w : World} {p : Int} {fs : List Fd} {rs : List Rc} {A B : Option Addr} {n c m d i : Nat} (hE : okT p fs rs) (hf : RdF w A n c fs) (hr : RdR w B m d rs) (hi : i < rs.length) : ∃ ad C cv, B = some ad ∧ w.cell? (ad.add (i * 2)) = some (.bool (rth rs i).gone) ∧
    w.cell? ⟨(ad.add (i * 2)).block, (ad.add (i * 2)).off + 1, none⟩ = some (.slice C n cv) ∧ RdV w C n cv (rth rs i).v ∧ (∀ k, k < n → fieldB (fth fs k) = true) ∧ (∀ k, k < n → holdsB (fth fs k) p (vth (rth rs i).v k) = true) ∧ 0 < n ∧ n ≤ 16 := by
  obtain ⟨ad, C, m', d', e1, c0, c1, hv⟩ := hr.at_ (by have := hr.len; omega : i < m)
  obtain ⟨q1, q2⟩ := recE_iff.1 ((okT_iff.1 hE).2.2.2 i hi)
  have e2 : m' = n := by have := hv.len; have := hf.len; omega
  subst e2
  have hl := hE.len
  have := hf.len
  exact ⟨ad, C, d', e1, c0, c1, hv, fun k hk => hE.field (by omega), fun k hk => q2 k (by omega), by omega, by omega⟩
theorem Row_any (p : Int) (A : Option Addr) (n c : Nat) (B : Option Addr) (m d : Nat) (fs : List Fd) (rs : List Rc) (k : Int) (w : World) (hf : RdF w A n c fs) (hr : RdR w B m d rs) (hE : okT p fs rs) :
    Calls Tryz.prog 131 #[tb p A n c B m d, .int .i64 k] w fun e w' => ∃ S q cs er, e = .returned (.tuple #[.slice S q cs, .int .i64 er]) ∧ BYn w' w.heap.size S q cs ∧ q ≤ 5000 ∧ Ext w w' := by
  have hm := hr.len
  have hmx := hr.max
  obtain ⟨w1, g, e1, h1, s1, kg, x1⟩ := newB w [.int .i64 p, .slice A n c, .slice B m d] 25
  have hV := hid (Validate_any p A n c B m d fs rs w1 (hf.ext x1) (hr.ext x1))
  have hE' := hE
  unfold okT at hE'
  rw [hE'] at hV
  have hE := hid hE
  have hf := hid hf
  have hr := hid hr
  replace kg := hid kg
  replace x1 := hid x1
  unfold tb at hV ⊢
  go_enter Tryz.func131, Tryz.ntmps131
  go_upto_region 1 with fail
  simp only [e1.out, h1.out]
  clear e1 h1 s1
  obtain ⟨a0, a1, a2⟩ := kg.out.c3
  go_wp2_with fail
  refine hV.out.mono ?_
  rintro e w2 ⟨rfl, hx2⟩
  have hx := hid (x1.out.trans hx2)
  have k2 := hid (kg.out.ext hx2)
  clear hV hx2 x1 kg a0 a1 a2
  obtain ⟨a0, a1, a2⟩ := k2.out.c3
  by_cases h1 : k < 1
  · have hres := hid (show BYn w2 w.heap.size none 0 0 from ⟨[], BY.nil⟩)
    go_wp2
    exact bodyPost_ret (v := .tuple #[.slice none 0 0, .int .i64 4]) (by simp [results, Tryz.results131, go_sem]) rfl ⟨none, 0, 0, 4, rfl, hres.out, by omega, hx.out⟩
  · by_cases h2 : (m : Int) < k
    · have hres := hid (show BYn w2 w.heap.size none 0 0 from ⟨[], BY.nil⟩)
      go_wp2
      exact bodyPost_ret (v := .tuple #[.slice none 0 0, .int .i64 4]) (by simp [results, Tryz.results131, go_sem]) rfl ⟨none, 0, 0, 4, rfl, hres.out, by omega, hx.out⟩
    · obtain ⟨i, rfl, hi⟩ : ∃ i : Nat, k = (i : Int) + 1 ∧ i < rs.length := ⟨(k - 1).toNat, by omega, by omega⟩
      obtain ⟨ad, C, cv, eB, c0, c1, hv, hh1, hh2, hh3, hh4⟩ := rowOf hE.out (RdF.ext hf.out hx.out) (RdR.ext hr.out hx.out) hi
      subst eB
      have i3 := IntWalk.i64_in ((i : Int) + 1 - 1) (by omega)
      have i4 := IntWalk.i64_in (i : Int) (by omega)
      have i5 : 0 ≤ (i : Int) ∧ (i : Int) < m := by omega
      have c0 := hid c0
      have c1 := hid c1
      have hrow := hid (fun w' (hx' : Ext w2 w') => rowB_any p A n c fs C cv (rth rs i) w' (RdF.ext hf.out (hx.out.trans hx')) (hv.ext hx') hh3 hh4 hh1 hh2)
      clear hv hh1 hh2
      go_upto_region 6 with fail
      clear a0 a1 a2
      have xa := (Ext.refl w2).drew_right
      refine region_J (fun w' => Ext w2 w') 11 (by kernel_rfl) ?_
      generalize w2.drew = da at xa ⊢
      refine JR 0 (v := ?va1) rfl (by kernel_rfl) rfl ?ya1 xa ?ra1
      case ya1 => (intro w hw; (go_simp; with_reducible rfl))
      simp only [Act.put, lyA, lyB, lyC, lyD, lyE, lyF]
      refine JR 1 (v := ?va2) rfl (by kernel_rfl) rfl ?ya2 xa ?ra2
      case ya2 => (intro w hw; obtain ⟨a0, a1, a2⟩ := (k2.out.ext hw).c3; have y0 := hw.cell c0.out; have y1 := hw.cell c1.out; (go_simp; with_reducible rfl))
      simp only [Act.put, lyA, lyB, lyC, lyD, lyE, lyF]
      refine JR 2 (v := ?va3) rfl (by kernel_rfl) rfl ?ya3 xa ?ra3
      case ya3 => (intro w hw; (go_simp; with_reducible rfl))
      simp only [Act.put, lyA, lyB, lyC, lyD, lyE, lyF]
      refine JR 3 (v := ?va4) rfl (by kernel_rfl) rfl ?ya4 xa ?ra4
      case ya4 => (intro w hw; obtain ⟨a0, a1, a2⟩ := (k2.out.ext hw).c3; have y0 := hw.cell c0.out; have y1 := hw.cell c1.out; (go_simp; with_reducible rfl))
      simp only [Act.put, lyA, lyB, lyC, lyD, lyE, lyF]
      refine JR 4 (v := ?va5) rfl (by kernel_rfl) rfl ?ya5 xa ?ra5
      case ya5 => (intro w hw; (go_simp; with_reducible rfl))
      simp only [Act.put, lyA, lyB, lyC, lyD, lyE, lyF]
      refine JR 5 (v := ?va6) rfl (by kernel_rfl) rfl ?ya6 xa ?ra6
      case ya6 => (intro w hw; (go_simp; with_reducible rfl))
      simp only [Act.put, lyA, lyB, lyC, lyD, lyE, lyF]
      refine JR 6 (v := ?va7) rfl (by kernel_rfl) rfl ?ya7 xa ?ra7
      case ya7 => (intro w hw; (go_simp; with_reducible rfl))
      simp only [Act.put, lyA, lyB, lyC, lyD, lyE, lyF]
      refine JR 7 (v := ?va8) rfl (by kernel_rfl) rfl ?ya8 xa ?ra8
      case ya8 => (intro w hw; obtain ⟨a0, a1, a2⟩ := (k2.out.ext hw).c3; have y0 := hw.cell c0.out; have y1 := hw.cell c1.out; (go_simp; with_reducible rfl))
      simp only [Act.put, lyA, lyB, lyC, lyD, lyE, lyF]
      refine J_one 8 rfl (by kernel_rfl) (fun K hK => ?_)
      go_simp
      refine (hrow.out _ xa).mono ?_
      rintro e9 wa9 ⟨S, q, cs, l, rfl, hY, hq, hxa9⟩
      have hY2 := hid (BY.lo' hY (hx.out.trans xa).size)
      clear hY
      refine hK _ _ ⟨fun _ => ((xa).trans hxa9), ?_⟩
      clear hK K
      try simp only [Act.put, lyA, lyB, lyC, lyD, lyE, lyF]
      have xa9 := ((xa).trans hxa9)
      refine JR 9 (v := ?va10) rfl (by kernel_rfl) rfl ?ya10 xa9 ?ra10
      case ya10 => (intro w hw; (go_simp; with_reducible rfl))
      simp only [Act.put, lyA, lyB, lyC, lyD, lyE, lyF]
      refine JR 10 (v := ?va11) rfl (by kernel_rfl) rfl ?ya11 xa9 ?ra11
      case ya11 => (intro w hw; (go_simp; with_reducible rfl))
      simp only [Act.put, lyA, lyB, lyC, lyD, lyE, lyF]
      refine J_done (by kernel_rfl) (OnlyOn.normal ?_)
      have hres := hid (hx.out.trans xa9)
      clear hrow
      go_wp2
      exact bodyPost_ret (v := .tuple #[.slice S q cs, .int .i64 0]) (by simp [results, Tryz.results131, go_sem]) rfl ⟨S, q, cs, 0, rfl, ⟨l, hY2.out⟩, hq, hres.out⟩
theorem Change_any (p : Int) (A : Option Addr) (n c : Nat) (B : Option Addr) (m d : Nat) (fs : List Fd) (rs : List Rc) (S : Option Addr) (ks : List Int) (cs : Nat) (w : World) (hf : RdF w A n c fs) (hr : RdR w B m d rs) (hE : okT p fs rs) (hs : Rd w 1 S ks.length cs (zs ks)) (hk : ks.length ≤ 300) :
    Calls Tryz.prog 96 #[tb p A n c B m d, .slice S ks.length cs] w fun e w' => ∃ S' q cs', e = .returned (.slice S' q cs') ∧ BYn w' w.heap.size S' q cs' ∧ (2 ≤ q ∧ q ≤ 2000000) ∧ Ext w w' := by
  have hmx := Rd.max hs
  have hrm := hr.max
  have hnum := hid (fun (z : Int) w' => Number_any z 2 (by omega) w')
  obtain ⟨w1, g, e1, h1, s1, kg, x1⟩ := newB w [.int .i64 p, .slice A n c, .slice B m d] 25
  have hrow := hid (fun (k : Int) w' (hx' : Ext w1 w') => Row_any p A n c B m d fs rs k w' ((hf.ext x1).ext hx') ((hr.ext x1).ext hx') hE)
  have hs := hid (hs.ext x1)
  replace kg := hid kg
  have x1s := hid x1.size
  replace x1 := hid x1
  clear hf hr
  unfold tb at hrow ⊢
  go_enter Tryz.func96, Tryz.ntmps96
  go_upto_region 1 with fail
  simp only [e1.out, h1.out]
  clear e1 h1 s1
  obtain ⟨a0, a1, a2⟩ := kg.out.c3
  go_wp2_with fail
  refine (hnum.out _ _).mono ?_
  rintro e w2 ⟨S0, c0, l0, rfl, hY0, hx2⟩
  have hb0 := hid (show BYn w2 w1.heap.size S0 2 c0 from ⟨l0, hY0⟩)
  have hx2 := hid hx2
  clear a0 a1 a2 hY0
  go_wp2_with fail
  go_loopw [5, 16] (fun o v wr => ∃ (i : Nat) (S' : Option Addr) (q cs' : Nat), i ≤ ks.length ∧ v = .int .i64 i ∧ o = .slice S' q cs' ∧ Hid (BYn wr w1.heap.size S' q cs') ∧ Hid (2 ≤ q ∧ q ≤ 2 + 5002 * i) ∧ Hid (Ext w1 wr)) (fun _ v _ => ks.length - (intOf v).toNat)
  case atStart => exact ⟨0, S0, 2, c0, by omega, rfl, rfl, hb0, hid (by omega), hx2⟩
  case round =>
    clear hb0 hx2
    obtain ⟨i, S', q, cs', hi, rfl, rfl, hb, hq, hx⟩ := hrel
    by_cases hlt : i < ks.length
    · obtain ⟨ad, hS, hc⟩ := hs.out.2.2.2 (by omega)
      subst hS
      have c0 := hx.out.cell (hc i (.int .i64 (ks[i]'hlt)) (by simp [zs, List.getElem?_eq_getElem hlt]))
      generalize ks[i]'hlt = kv at *
      clear hc
      obtain ⟨a0, a1, a2⟩ := (kg.out.ext hx.out).c3
      by_cases hkv : (m : Int) < kv
      · go_wp2
        go_roundw
        case rel => exact ⟨i + 1, S', q, cs', by omega, rfl, rfl, hb, hid (by have := hq.out; omega), hx⟩
        case measure => simp [intOf]; omega
      · have hcl := hid (hrow.out kv wr hx.out)
        go_wp2_with fail
        refine hcl.out.mono ?_
        rintro e w3 ⟨S3, q3, c3, er, rfl, hY3, hq3, hx3⟩
        have hY3 := hid hY3
        have hx3 := hid hx3
        have hq3 := hid hq3
        clear hcl a0 a1 a2 c0
        go_wp2_with fail
        refine (hnum.out _ _).mono ?_
        rintro e w4 ⟨S4, c4, l4, rfl, hY4, hx4⟩
        obtain ⟨l1, hb1⟩ := hb.out
        obtain ⟨l3, hb3⟩ := hY3.out
        have hA1 := hid (hb1.ext (hx3.out.trans hx4))
        have hA3 := hid (hb3.ext hx4)
        have hA4 := hid hY4.rd
        have hx14 := hid (hx.out.trans (hx3.out.trans hx4))
        have hq0 := hid hq.out
        have hblk := hid (fun g' (hg : (Value.slice S3 q3 c3).ownBlock = some g') => (show (Value.slice S' q cs').ownBlock ≠ some g' from fun e => by have h1 := (hb1.lt e).2; have h2 := (hb3.lt hg).1; omega))
        clear hb hY3 hb1 hb3 hY4 hx4 hx3
        go_wp2_with (at_builtin; refine wpl_bytes _ rfl _ _ rfl w1.heap.size S' q cs' l1 rfl hA1.out S4 2 c4 l4 rfl hA4.out hx14.out.size (by have := hq0.out; omega) ?_)
        intro B5 d5 w5 hO5 hg5 hq5
        have hx5 := hid (Ext.app hx14.out hg5 (fun k e => (hA1.out.lt e).1))
        have hA5 := hid (hA3.out.keep (w' := w5) (fun g' hg => hg5.block g' (hA3.out.lt hg).2 (fun e => hblk.out g' hg e.symm)))
        have hA6 := hid hA5.out.rd
        have hA2 := hid hA1.out
        have hO5 := hid hO5
        clear hg5 hq5 hA3 hA4 hx14
        go_wp2_with (at_builtin; refine wpl_bytes _ rfl _ _ rfl w1.heap.size B5 (q + 2) d5 _ rfl hO5.out S3 q3 c3 l3 rfl hA6.out hx5.out.size (by have := hq0.out; have := hq3.out; omega) ?_)
        intro B6 d6 w6 hO6 hg6 hq6
        have hx6 := hid (Ext.app hx5.out hg6 (fun k e => (hO5.out.lt e).1))
        have hb6 := hid (show BYn w6 w1.heap.size B6 (q + 2 + q3) d6 from ⟨_, hO6⟩)
        clear hg6 hq6 hO6 hO5 hA5 hA6 hA1 hA2
        go_wp2
        go_roundw
        case rel => exact ⟨i + 1, B6, q + 2 + q3, d6, by omega, rfl, rfl, hb6, hid (by have := hq0.out; have := hq3.out; omega), hx6⟩
        case measure => simp [intOf]; omega
    · obtain rfl : i = ks.length := by omega
      obtain ⟨l1, hb1⟩ := hb.out
      have hres := hid (show BYn wr w.heap.size S' q cs' from ⟨l1, hb1.lo' x1s.out⟩)
      have hqf := hid (show 2 ≤ q ∧ q ≤ 2000000 from by have := hq.out; omega)
      have hxf := hid (x1.out.trans hx.out)
      clear hb hb1 hq
      go_wp2
      go_ret
      exact ⟨S', q, cs', rfl, hres.out, hqf.out, hxf.out⟩
open Go.RowKit Go.Shelf
theorem Rd.atlt1 {w : World} {A : Option Addr} {n c : Nat} {l : List Int} (h : Rd w 1 A n c (bz l)) {g : Nat} (hg : atB A n g) : g < w.heap.size := by
  obtain ⟨ad, e, hn, rfl⟩ := hg
  obtain ⟨ad', e', hc⟩ := h.2.2.2 hn
  rw [e] at e'
  injection e' with e'
  subst e'
  have hl := h.1
  rw [bz_len] at hl
  have := World.block_lt_of_cell? _ _ (hc 0 (.int .u8 (l[0]'(by omega))) (by simp [bz, List.getElem?_eq_getElem (show 0 < l.length by omega)]))
  rwa [add_blk] at this
theorem copyB {w : World} {g o dLen dCap m c : Nat} {A : Option Addr} {l l' : List Int} {t : TypeId} (ty : TypeId) (hg : Bk w g (bz l) t) (hr : Rd w 1 A m c (bz l')) (hm0 : 0 < m) (hm : m ≤ dLen) (hfit : o + m ≤ l.length) :
    ∃ w' l2, (Builtin.copy_ #[94, 94] ty #[.slice (some ⟨g, o, none⟩) dLen dCap, .slice A m c]).run Tryz.prog w = .ok (.int .i64 m) w' ∧ Bk w' g (bz l2) t ∧ l2.length = l.length ∧ w'.heap.size = w.heap.size ∧ (∀ k, k ≠ g → w'.heap[k]? = w.heap[k]?) ∧ w'.os = w.os ∧ w'.tape = w.tape ∧ w'.output = w.output := by
  have hl : l'.length = m := by have := hr.1; rw [bz_len] at this; omega
  have hs1 : (Tryz.prog.info? 5).map (·.size) = some 1 := by kernel_rfl
  rcases A with _ | ad
  · obtain ⟨ad, h, _⟩ := hr.2.2.2 hm0
    cases h
  · have hc : ∀ j u, (bz l')[j]? = some u → w.cell? (ad.add j) = some u := fun j u hu => by
      rcases Nat.eq_zero_or_pos m with h0 | h0
      · have : l' = [] := List.eq_nil_of_length_eq_zero (by omega)
        subst this
        simp [bz] at hu
      · obtain ⟨ad', e', hc⟩ := hr.2.2.2 h0
        have e' := Option.some.inj e'
        subst e'
        exact hc j u hu
    have hmin : Nat.min m dLen = m := Nat.min_eq_left hm
    have h := run_copy_row (P := Tryz.prog) w 94 94 ty 5 g o dLen dCap ad m c (bz l).toArray t (bz l') Tryz.underlying94 hs1 hg (by rw [bz_len, hl, hmin]) hc (by rw [bz_len, hl]; simp [bz_len]; omega) (bz_one l')
    rw [bz_len, hl] at h
    have e : ((bz l).toArray.toList.take o ++ bz l' ++ (bz l).toArray.toList.drop (o + m)) = bz (l.take o ++ l' ++ l.drop (o + m)) := by simp [bz]
    rw [e] at h
    refine ⟨_, l.take o ++ l' ++ l.drop (o + m), h, setRow_heap w g _ _ t _ hg, by simp; omega, by simp [World.setRow], fun k hk => setRow_other w g k _ hk, rfl, rfl, rfl⟩
theorem Record_any (z : Int) (S : Option Addr) (q cs : Nat) (l : List Int) (w : World) (hs : Rd w 1 S q cs (bz l)) (hq0 : 0 < q) (hq : q ≤ 2000000) : Calls Tryz.prog 95 #[.int .u8 z, .slice S q cs] w fun e w' => ∃ S' q' cs', e = .returned (.slice S' q' cs') ∧ BYn w' w.heap.size S' q' cs' ∧ (0 < q' ∧ q' ≤ 3000000) ∧ Ext w w' := by
  have hmx := Rd.max hs
  have hal := hid (fun g' (hg' : atB S q g') => Rd.atlt1 hs hg')
  have hmk : ∀ wx, (Instr.makeSlice 94 (.int .i64 (5 + (q : Int))) (.int .i64 (5 + (q : Int)))).run Tryz.prog wx = .ok (.slice (some ⟨wx.heap.size, 0, none⟩) (5 + q) (5 + q)) (wx.alloc (.cells (bz (List.replicate (5 + q) 0)).toArray 5)) := fun wx => mkU (5 + q) (by omega) wx
  have i1 := IntWalk.i64_in (5 + (q : Int)) (by omega)
  have hnum := hid (fun (z : Int) w' => Number_any z 4 (by omega) w')
  obtain ⟨w1, g, e1, h1, s1, kg, x1⟩ := newB w (bz (List.replicate (5 + q) 0)) 5
  have hs := hid (hs.ext x1)
  have hg := hid (show w.heap.size = g from h1.out)
  replace x1 := hid x1
  have i2 : (0 : Int) < 5 + (q : Int) := by omega
  have hl0 : (List.replicate (5 + q) (0 : Int)).length = 5 + q := by simp
  have z0 : w1.cell? ⟨g, 0, none⟩ = some (.int .u8 0) := kg.at (by rw [show 5 + q = (4 + q) + 1 by omega, List.replicate_succ]; rfl)
  have fz := kg.free 0
  have kg2 := hid (show Bk (w1.setCell ⟨g, 0, none⟩ (.int .u8 z)) g (bz ((List.replicate (5 + q) 0).set 0 z)) 5 from by rw [bz_set]; exact kg.set 0 _)
  have hl2 : ((List.replicate (5 + q) (0 : Int)).set 0 z).length = 5 + q := by simp
  generalize (List.replicate (5 + q) (0 : Int)).set 0 z = la at *
  have xg := hid (x1.out.set (p := ⟨g, 0, none⟩) (by have := hg.out; show w.heap.size ≤ g; omega) (.int .u8 z))
  have hs2 := hid (Rd.keepB hs.out (w' := w1.setCell ⟨g, 0, none⟩ (.int .u8 z)) (fun g' hg' => (setCell_at w1 g 0 _).2 g' (fun e => by have := hal.out g' hg'; have := hg.out; omega)))
  replace kg := hid kg
  replace hl2 := hid hl2
  have e1 := e1.out
  have h1 := h1.out
  clear hl0
  go_enter Tryz.func95, Tryz.ntmps95
  go_upto_region 2 with fail
  try simp only [e1, h1]
  clear e1 h1 s1 hmk
  go_upto_region 3 with fail
  clear z0 fz kg x1 hs
  generalize w1.setCell ⟨g, 0, none⟩ (.int .u8 z) = w2 at *
  have i3 : (5 : Int) ≤ 5 + (q : Int) := by omega
  have i51 : ¬ 5 + q = 1 := by omega
  have i55 : ¬ 5 + q = 5 := by omega
  have xa := (Ext.refl w2).drew_right
  refine region_K (fun w' => Ext w2 w') 5 (by kernel_rfl) ?_
  generalize w2.drew = da at xa ⊢
  refine KF 0 (v := ?va1) rfl (by kernel_rfl) rfl ?ya1 (.inr xa) ?ra1
  case ya1 => (intro w; (go_simp; with_reducible rfl))
  simp only [Act.put, lyA, lyB, lyC, lyD, lyE, lyF]
  refine KF 1 (v := ?va2) rfl (by kernel_rfl) rfl ?ya2 (.inr xa) ?ra2
  case ya2 => (intro w; (go_simp; with_reducible rfl))
  simp only [Act.put, lyA, lyB, lyC, lyD, lyE, lyF]
  refine KF 2 (v := ?va3) rfl (by kernel_rfl) rfl ?ya3 (.inr xa) ?ra3
  case ya3 => (intro w; (go_simp; with_reducible rfl))
  simp only [Act.put, lyA, lyB, lyC, lyD, lyE, lyF]
  refine KF 3 (v := ?va4) rfl (by kernel_rfl) rfl ?ya4 (.inr xa) ?ra4
  case ya4 => (intro w; (go_simp; with_reducible rfl))
  simp only [Act.put, lyA, lyB, lyC, lyD, lyE, lyF]
  refine K_one 4 rfl (by kernel_rfl) (fun K hK => ?_)
  go_simp
  refine (hnum.out _ _).mono ?_
  rintro e9 wa5 ⟨S4, c4, l4, rfl, hY4, hxa5⟩
  refine hK _ _ ⟨fun _ _ => ((xa).trans hxa5), ?_⟩
  clear hK K
  try simp only [Act.put, lyA, lyB, lyC, lyD, lyE, lyF]
  have xa5 := ((xa).trans hxa5)
  refine K_end 5 rfl (by kernel_rfl) (by kernel_rfl) (fun K hK => ?_)
  have x3 := hid (xa5)
  obtain ⟨w5, l5, hcp, k5, hl5, hsz5, hkp5, ho5, ht5, hu5⟩ := copyB (o := 1) (dLen := 4) (dCap := 4 + q) 3 (kg2.out.ext x3.out) hY4.rd (by omega) (by omega) (by have := hl2.out; omega)
  go_simp
  refine hK _ _ ?_
  clear hK K
  try simp only [Act.put, lyA, lyB, lyC, lyD, lyE, lyF]
  refine K_done (by kernel_rfl) (OnlyOn.normal ?_)
  have hk5 := hid k5
  have hl5' := hid (hl5.trans hl2.out)
  have hs5 := hid (Rd.keepB (hs2.out.ext x3.out) (w' := w5) (fun g' hg' => hkp5 g' (fun e => by have := hal.out g' hg'; have := hg.out; omega)))
  have xw5 := hid (show Ext w w5 from ⟨ho5.trans (xg.out.trans x3.out).os, ht5.trans (xg.out.trans x3.out).tape, hu5.trans (xg.out.trans x3.out).output, by rw [hsz5]; exact (xg.out.trans x3.out).size, fun k hk => (hkp5 k (by have := hg.out; omega)).trans ((xg.out.trans x3.out).block hk)⟩)
  clear hcp k5 hl5 hsz5 hkp5 ho5 ht5 hu5 hY4 x3 kg2 hs2 xg
  obtain ⟨w6, l6, hcp, k6, hl6, hsz6, hkp6, ho6, ht6, hu6⟩ := copyB (o := 5) (dLen := q) (dCap := q) 3 hk5.out hs5.out hq0 (Nat.le_refl _) (by have := hl5'.out; omega)
  have xw6 := hid (show Ext w w6 from ⟨ho6.trans xw5.out.os, ht6.trans xw5.out.tape, hu6.trans xw5.out.output, by rw [hsz6]; exact xw5.out.size, fun k hk => (hkp6 k (by have := hg.out; omega)).trans (xw5.out.block hk)⟩)
  have hY6 := hid (BY.of_bk (lo := w.heap.size) k6 (by have := hg.out; omega) (hl6.trans hl5'.out) (by omega))
  clear k6 hl6 hsz6 hkp6 ho6 ht6 hu6 hk5 hs5
  have hsum := hid (sum_any (some ⟨g, 0, none⟩) (5 + q) (5 + q) l6 w6 hY6.out.rd)
  go_wp2_with fail
  refine hsum.out.mono ?_
  rintro e w7 ⟨⟨zs, rfl⟩, hx7⟩
  have hY7 := hid (hY6.out.ext hx7)
  have xw7 := hid (xw6.out.trans hx7)
  clear hsum hx7 hcp hY6
  go_wp2_with fail
  refine (hnum.out _ _).mono ?_
  rintro e w8 ⟨S8, c8, l8, rfl, hY8, hx8⟩
  have hY9 := hid (hY7.out.ext hx8)
  have xw8 := hid (xw7.out.trans hx8)
  have hR8 := hid hY8.rd
  clear hY7 hx8 hY8
  go_wp2_with (at_builtin; refine wpl_bytes _ rfl _ _ rfl w.heap.size (some ⟨g, 0, none⟩) (5 + q) (5 + q) _ rfl hY9.out S8 4 c8 l8 rfl hR8.out xw8.out.size (by omega) ?_)
  intro B d w9 hO9 hg9 hq9
  have xw9 := hid (Ext.app xw8.out hg9 (fun k e => (hY9.out.lt e).1))
  have hres := hid (show BYn w9 w.heap.size B (5 + q + 4) d from ⟨_, hO9⟩)
  clear hg9 hq9 hO9 hY9 hR8
  go_wp2
  go_ret
  exact ⟨B, 5 + q + 4, d, rfl, hres.out, by omega, xw9.out⟩
theorem Whole_any (f at_ : Int) (S : Option Addr) (q cs : Nat) (w : World) (hq : q ≤ 3000000) : Calls Tryz.prog 175 #[.agg #[.int .i64 f, .int .i64 at_, .slice S q cs]] w (Give (.int .i64 ((q : Int) + 1)) w) := by
  obtain ⟨w1, g, e1, h1, s1, kg, x1⟩ := newB w [.int .i64 f, .int .i64 at_, .slice S q cs] 163
  replace x1 := hid x1
  have i1 := IntWalk.i64_in ((q : Int) + 1) (by omega)
  obtain ⟨a0, a1, a2⟩ := kg.c3
  clear kg
  go_enter Tryz.func175, Tryz.ntmps175
  go_upto_region 1 with fail
  simp only [e1.out, h1.out]
  clear e1 h1 s1
  go_wp2
  go_ret
  exact ⟨rfl, x1.out⟩
theorem Done_any (S : Option Addr) (q cs : Nat) (l : List Int) (F : Option Addr) (fc : Nat) (bA : Option Addr) (bn bc : Nat) (w : World) (hs : Rd w 1 S q cs (bz l)) (hq0 : 0 < q) (hq : q ≤ 3000000) (hF : Rd w 1 F 2 fc [.slice bA bn bc, .slice none 0 0]) :
    Calls Tryz.prog 174 #[.agg #[.int .i64 1, .int .i64 0, .slice S q cs], .slice F 2 fc, .int .i64 ((q : Int) + 1)] w fun e w' => ∃ G d, e = .returned (.slice G 2 d) ∧ Ext w w' := by
  have hmx := Rd.max hs
  obtain ⟨w1, g, e1, h1, s1, kg, x1⟩ := newB w [.int .i64 1, .int .i64 0, .slice S q cs] 163
  have hcl := hid (clone210 F 2 fc _ w1 (hF.ext x1) (by intro u hu; simp at hu; rcases hu with rfl | rfl <;> rfl) (by omega))
  have hs := hid (hs.ext x1)
  have hgw := hid (show w.heap.size = g from h1.out)
  replace kg := hid kg
  replace x1 := hid x1
  go_enter Tryz.func174, Tryz.ntmps174
  go_upto_region 1 with fail
  simp only [e1.out, h1.out]
  clear e1 h1 s1
  go_wp2_with fail
  refine hcl.out.mono ?_
  rintro e w2 ⟨G, d, rfl, hown, hx2⟩
  obtain ⟨gG, rfl, hg1, hg2⟩ := own_blk hown (by omega)
  have hx := hid (x1.out.trans hx2)
  have k2 := hid (kg.out.ext hx2)
  have hs2 := hid (hs.out.ext hx2)
  have hgl := hid kg.out.lt
  have hfree := hid (show w2.frozen? ⟨gG, 1, none⟩ = false ∧ w2.cell? ⟨gG, 1, none⟩ = some (.slice none 0 0) from by
    have hr := Rd.of_own hown
    obtain ⟨ad, e, hc⟩ := hr.2.2.2 (by omega)
    injection e with e
    subst e
    have c1 := hc 1 (.slice none 0 0) rfl
    rw [lit_add0] at c1
    exact ⟨(row_there (o := 1) (s := 1) hown (by omega) 0 (by omega)).2, c1⟩)
  have hG := hid hown
  clear hcl x1 kg hs hx2 hown
  have hq1 : ¬ (q : Int) + 1 ≤ 0 := by omega
  have hcn := hid (fun w' => clone211 none 0 0 [] w' ⟨rfl, by omega, by unfold maxLen; omega, fun h => absurd h (by omega)⟩ (by simp) (by omega))
  go_upto_region 4 with fail
  have xb := (Ext.refl w2).drew_right
  refine region_J (fun w' => Ext w2 w') 17 (by kernel_rfl) ?_
  generalize w2.drew = db at xb ⊢
  refine JR 0 (v := ?vb1) rfl (by kernel_rfl) rfl ?yb1 xb ?rb1
  case yb1 => (intro w hw; (go_simp; with_reducible rfl))
  simp only [Act.put, lyA, lyB, lyC, lyD, lyE, lyF]
  refine JR 1 (v := ?vb2) rfl (by kernel_rfl) rfl ?yb2 xb ?rb2
  case yb2 => (intro w hw; (go_simp; with_reducible rfl))
  simp only [Act.put, lyA, lyB, lyC, lyD, lyE, lyF]
  refine JR 2 (v := ?vb3) rfl (by kernel_rfl) rfl ?yb3 xb ?rb3
  case yb3 => (intro w hw; obtain ⟨q0, q1, q2⟩ := (k2.out.ext hw).c3; have f1 := hw.cell hfree.out.2; (go_simp; with_reducible rfl))
  simp only [Act.put, lyA, lyB, lyC, lyD, lyE, lyF]
  refine JR 3 (v := ?vb4) rfl (by kernel_rfl) rfl ?yb4 xb ?rb4
  case yb4 => (intro w hw; (go_simp; with_reducible rfl))
  simp only [Act.put, lyA, lyB, lyC, lyD, lyE, lyF]
  refine JR 4 (v := ?vb5) rfl (by kernel_rfl) rfl ?yb5 xb ?rb5
  case yb5 => (intro w hw; obtain ⟨q0, q1, q2⟩ := (k2.out.ext hw).c3; have f1 := hw.cell hfree.out.2; (go_simp; with_reducible rfl))
  simp only [Act.put, lyA, lyB, lyC, lyD, lyE, lyF]
  refine JR 5 (v := ?vb6) rfl (by kernel_rfl) rfl ?yb6 xb ?rb6
  case yb6 => (intro w hw; (go_simp; with_reducible rfl))
  simp only [Act.put, lyA, lyB, lyC, lyD, lyE, lyF]
  refine JR 6 (v := ?vb7) rfl (by kernel_rfl) rfl ?yb7 xb ?rb7
  case yb7 => (intro w hw; obtain ⟨q0, q1, q2⟩ := (k2.out.ext hw).c3; have f1 := hw.cell hfree.out.2; (go_simp; with_reducible rfl))
  simp only [Act.put, lyA, lyB, lyC, lyD, lyE, lyF]
  refine JR 7 (v := ?vb8) rfl (by kernel_rfl) rfl ?yb8 xb ?rb8
  case yb8 => (intro w hw; (go_simp; with_reducible rfl))
  simp only [Act.put, lyA, lyB, lyC, lyD, lyE, lyF]
  refine JR 8 (v := ?vb9) rfl (by kernel_rfl) rfl ?yb9 xb ?rb9
  case yb9 => (intro w hw; (go_simp; with_reducible rfl))
  simp only [Act.put, lyA, lyB, lyC, lyD, lyE, lyF]
  refine JR 9 (v := ?vb10) rfl (by kernel_rfl) rfl ?yb10 xb ?rb10
  case yb10 => (intro w hw; obtain ⟨q0, q1, q2⟩ := (k2.out.ext hw).c3; have f1 := hw.cell hfree.out.2; (go_simp; with_reducible rfl))
  simp only [Act.put, lyA, lyB, lyC, lyD, lyE, lyF]
  refine JR 10 (v := ?vb11) rfl (by kernel_rfl) rfl ?yb11 xb ?rb11
  case yb11 => (intro w hw; (go_simp; with_reducible rfl))
  simp only [Act.put, lyA, lyB, lyC, lyD, lyE, lyF]
  refine JR 11 (v := ?vb12) rfl (by kernel_rfl) rfl ?yb12 xb ?rb12
  case yb12 => (intro w hw; obtain ⟨q0, q1, q2⟩ := (k2.out.ext hw).c3; have f1 := hw.cell hfree.out.2; (go_simp; with_reducible rfl))
  simp only [Act.put, lyA, lyB, lyC, lyD, lyE, lyF]
  refine JR 12 (v := ?vb13) rfl (by kernel_rfl) rfl ?yb13 xb ?rb13
  case yb13 => (intro w hw; (go_simp; with_reducible rfl))
  simp only [Act.put, lyA, lyB, lyC, lyD, lyE, lyF]
  refine JR 13 (v := ?vb14) rfl (by kernel_rfl) rfl ?yb14 xb ?rb14
  case yb14 => (intro w hw; (go_simp; with_reducible rfl))
  simp only [Act.put, lyA, lyB, lyC, lyD, lyE, lyF]
  refine JR 14 (v := ?vb15) rfl (by kernel_rfl) rfl ?yb15 xb ?rb15
  case yb15 => (intro w hw; (go_simp; with_reducible rfl))
  simp only [Act.put, lyA, lyB, lyC, lyD, lyE, lyF]
  refine J_one 15 rfl (by kernel_rfl) (fun K hK => ?_)
  go_simp
  refine (hcn.out _).mono ?_
  rintro e9 wb16 ⟨B5, d5, rfl, hO5, hxb16⟩
  have hbs := hid (xb).size
  refine hK _ _ ⟨fun _ => ((xb).trans hxb16), ?_⟩
  clear hK K
  try simp only [Act.put, lyA, lyB, lyC, lyD, lyE, lyF]
  have xb16 := ((xb).trans hxb16)
  refine JR 16 (v := ?vb17) rfl (by kernel_rfl) rfl ?yb17 xb16 ?rb17
  case yb17 => (intro w hw; (go_simp; with_reducible rfl))
  simp only [Act.put, lyA, lyB, lyC, lyD, lyE, lyF]
  refine J_done (by kernel_rfl) (OnlyOn.normal ?_)
  have x5 := hid (xb16)
  have k5 := hid (k2.out.ext x5.out)
  have hb5 := hid (show BY wb16 w2.heap.size B5 0 d5 [] from own_baseK hO5 (by have := hbs.out; omega))
  have hs5 := hid (hs2.out.ext x5.out)
  have hfz := hid (show (wb16).cell? ⟨gG, 1, none⟩ = some (.slice none 0 0) ∧ (wb16).frozen? ⟨gG, 1, none⟩ = false from ⟨x5.out.cell hfree.out.2, (row_there (o := 1) (s := 1) (x5.out.own hG.out) (by omega) 0 (by omega)).2⟩)
  generalize wb16 = w5 at *
  clear hO5 hcn k2 hs2
  obtain ⟨a0, a1, a2⟩ := k5.out.c3
  have i0 : (0 : Int) < (q : Int) := by omega
  have imn : min ((q : Int) + 1) (q : Int) = (q : Int) := by omega
  have iq : 0 ≤ (q : Int) ∧ (q : Int) ≤ cs := by omega
  obtain ⟨aS, hSe, -⟩ := hs5.out.2.2.2 hq0
  subst hSe
  have hgG := hid (show gG ≠ g ∧ gG < w5.heap.size ∧ gG < w2.heap.size from ⟨by have := hgl.out; omega, by have := x5.out.size; omega, hg2⟩)
  go_wp2_with (at_builtin; refine wpl_bytes _ rfl _ _ rfl w2.heap.size B5 0 d5 [] rfl hb5.out (some aS) q cs l rfl hs5.out x5.out.size (by omega) ?_)
  intro B6 d6 w6 hO6 hg6 hq6
  have xw6 := hid (show Ext w2 w6 from Ext.app x5.out hg6 (fun k e => (hb5.out.lt e).1))
  have kG6 : w6.heap[gG]? = w5.heap[gG]? := hg6.block gG hgG.out.2.1 (fun e => by have := (hb5.out.lt e.symm).1; have := hgG.out.2.2; omega)
  have k6 := hid (k5.out.keep (hg6.block g k5.out.lt (fun e => by have := (hb5.out.lt e.symm).1; have := hgl.out; have := hgG.out; have := k5.out.lt; omega)))
  have y1 : w6.cell? ⟨gG, 1, none⟩ = some (.slice none 0 0) := (World.cell?_of_block kG6).trans hfz.out.1
  have yz : w6.frozen? ⟨gG, 1, none⟩ = false := (row_there (o := 1) (s := 1) (own_same (hG.out) (w' := w6) (fun q' hq' => by injection hq' with hq'; subst hq'; exact kG6.trans (x5.out.block hgG.out.2.2))) (by omega) 0 (by omega)).2
  obtain ⟨b0, b1, b2⟩ := k6.out.c3
  have xfin := hid (hx.out.trans xw6.out)
  have xf : ∀ u, Hid (Ext w (w6.setCell ⟨gG, 1, none⟩ u)) := fun u => hid (xfin.out.set (p := ⟨gG, 1, none⟩) (show w.heap.size ≤ gG by have := hgw.out; have := hgl.out; omega) u)
  clear a0 a1 a2 hb5 hs5 k5 k6 hO6 hg6 hq6 kG6 hfz hG
  go_wp2
  go_ret
  exact ⟨_, d, rfl, (xf _).out⟩
open Go.RowKit Go.Shelf
theorem rd_bk {w : World} {g n : Nat} {l : List Int} {t : TypeId} (h : Bk w g (bz l) t) (hl : l.length = n) (hn : n ≤ 9223372036854775807) : Rd w 1 (some ⟨g, 0, none⟩) n n (bz l) :=
  ⟨by rw [bz_len, hl, Nat.mul_one], Nat.le_refl _, by unfold maxLen; omega, fun _ => ⟨_, rfl, fun j u hu => by rw [lit_add0]; exact h.at hu⟩⟩
theorem copyS {w : World} {g dLen dCap : Nat} {s : ByteArray} {l : List Int} {t : TypeId} (ty : TypeId) (hg : Bk w g (bz l) t) (hm : s.size ≤ dLen) (hfit : s.size ≤ l.length) :
    ∃ w' l2, (Builtin.copy_ #[94, 9] ty #[.slice (some ⟨g, 0, none⟩) dLen dCap, .string s]).run Tryz.prog w = .ok (.int .i64 s.size) w' ∧ Bk w' g (bz l2) t ∧ l2.length = l.length ∧ w'.heap.size = w.heap.size ∧ (∀ k, k ≠ g → w'.heap[k]? = w.heap[k]?) ∧ w'.os = w.os ∧ w'.tape = w.tape ∧ w'.output = w.output := by
  have hs1 : (Tryz.prog.info? 5).map (·.size) = some 1 := by kernel_rfl
  have h := Lib.run_copy_row_string (P := Tryz.prog) w 94 9 ty 5 g 0 dLen dCap s (bz l).toArray t Tryz.underlying94 hs1 hg hm (by simp [bz_len]; omega)
  have hd : s.data.toList.length = s.size := by rw [Array.length_toList]; rfl
  have e : ((bz l).toArray.toList.take 0 ++ Lib.byteCells s.data.toList ++ (bz l).toArray.toList.drop (0 + s.size)) = bz (s.data.toList.map (fun b => (b.toNat : Int)) ++ l.drop s.size) := by simp [bz, Lib.byteCells]
  rw [e] at h
  refine ⟨_, s.data.toList.map (fun b => (b.toNat : Int)) ++ l.drop s.size, h, setRow_heap w g _ _ t _ hg, by simp [hd]; omega, by simp [World.setRow], fun k hk => setRow_other w g k _ hk, rfl, rfl, rfl⟩
theorem bk_get {w : World} {g : Nat} {l : List Int} {t : TypeId} {k : Nat} (h : Bk w g (bz l) t) (hk : k < l.length) : ∃ z, w.cell? ⟨g, k, none⟩ = some (.int .u8 z) := ⟨_, h.at (v := .int .u8 (l[k]'hk)) (by simp [bz, List.getElem?_eq_getElem hk])⟩
theorem bk_put {w : World} {g : Nat} {l : List Int} {t : TypeId} (h : Bk w g (bz l) t) (k : Nat) (z : Int) : ∃ l2, Bk (w.setCell ⟨g, k, none⟩ (.int .u8 z)) g (bz l2) t ∧ l2.length = l.length := ⟨l.set k z, by rw [bz_set]; exact h.set k _, by simp⟩
theorem header_any (p : Int) (A : Option Addr) (n c : Nat) (B : Option Addr) (m d : Nat) (fs : List Fd) (rs : List Rc) (w : World) (hf : RdF w A n c fs) (hr : RdR w B m d rs) (hE : okT p fs rs) :
    Calls Tryz.prog 104 #[tb p A n c B m d] w fun e w' => ∃ S q cs l, e = .returned (.slice S q cs) ∧ BY w' w.heap.size S q cs l ∧ q ≤ 1000 ∧ Ext w w' := by
  have hlen := hf.len
  have hl := hE.len
  have hmx := Rd.max hf
  have hrx := hr.max
  have hfk := hid (fun k (hk : k < fs.length) => hE.field hk)
  have hlow := hid (fun (z : Int) (k : Nat) (hk : k ≤ 8) w' => low_any z k hk w')
  obtain ⟨w1, g, e1, h1, s1, kg, x1⟩ := newB w [.int .i64 p, .slice A n c, .slice B m d] 25
  have hf1 := hid (hf.ext x1)
  have hlf := hid (fun w' (hx : Ext w1 w') => length_any A n c fs w' (hf1.out.ext hx) (by omega) (fun i hi => ⟨by have := (field_wd (hfk.out i (by omega))).1; omega, (field_wd (hfk.out i (by omega))).2⟩))
  replace kg := hid kg
  have x1s := hid x1.size
  replace x1 := hid x1
  clear hf hr hE
  unfold tb
  go_enter Tryz.func104, Tryz.ntmps104
  go_upto_region 1 with fail
  simp only [e1.out, h1.out]
  clear e1 h1 s1
  go_cut [3] (fun v wx => ∃ S d, v = .slice S 6 d ∧ Hid (BYn wx w1.heap.size S 6 d) ∧ Hid (Ext w1 wx))
  case first =>
    have xa := (Ext.refl w1).drew_right
    refine region_J (fun w' => Ext w1 w') 10 (by kernel_rfl) ?_
    generalize w1.drew = da at xa ⊢
    refine JR 0 (v := ?va1) rfl (by kernel_rfl) rfl ?ya1 xa ?ra1
    case ya1 => (intro w hw; (go_simp; with_reducible rfl))
    simp only [Act.put, lyA, lyB, lyC, lyD, lyE, lyF]
    refine JR 1 (v := ?va2) rfl (by kernel_rfl) rfl ?ya2 xa ?ra2
    case ya2 => (intro w hw; obtain ⟨a0, a1, a2⟩ := (kg.out.ext hw).c3; (go_simp; with_reducible rfl))
    simp only [Act.put, lyA, lyB, lyC, lyD, lyE, lyF]
    refine JR 2 (v := ?va3) rfl (by kernel_rfl) rfl ?ya3 xa ?ra3
    case ya3 => (intro w hw; (go_simp; with_reducible rfl))
    simp only [Act.put, lyA, lyB, lyC, lyD, lyE, lyF]
    refine JR 4 (v := ?va4) rfl (by kernel_rfl) rfl ?ya4 xa ?ra4
    case ya4 => (intro w hw; (go_simp; with_reducible rfl))
    simp only [Act.put, lyA, lyB, lyC, lyD, lyE, lyF]
    refine JR 5 (v := ?va5) rfl (by kernel_rfl) rfl ?ya5 xa ?ra5
    case ya5 => (intro w hw; obtain ⟨a0, a1, a2⟩ := (kg.out.ext hw).c3; (go_simp; with_reducible rfl))
    simp only [Act.put, lyA, lyB, lyC, lyD, lyE, lyF]
    refine JR 6 (v := ?va6) rfl (by kernel_rfl) rfl ?ya6 xa ?ra6
    case ya6 => (intro w hw; (go_simp; with_reducible rfl))
    simp only [Act.put, lyA, lyB, lyC, lyD, lyE, lyF]
    refine J_two 3 7 rfl rfl (by kernel_rfl) (fun K hK => ?_) (fun K hK => ?_)
    · go_simp
      obtain ⟨wa7, ba7, ewa7, eba7, -, kba7, hxa7⟩ := newB da (bz [67, IntKind.u8.wrap p]) 5
      unfold bz at ewa7
      simp only [List.map_cons, List.map_nil] at ewa7
      try simp only [ewa7.out, eba7.out]
      have lba7 := hid (show w1.heap.size ≤ ba7 by rw [← eba7.out]; exact (xa).size)
      clear ewa7 eba7
      refine hK _ _ ⟨fun _ => ((xa).trans hxa7), ?_⟩
      clear hK K
      try simp only [Act.put, lyA, lyB, lyC, lyD, lyE, lyF]
      have xa7 := ((xa).trans hxa7)
      refine J_one 7 rfl (by kernel_rfl) (fun K hK => ?_)
      go_simp
      refine (hlow.out _ 4 (by omega) wa7).mono ?_
      rintro e9 wa8 ⟨A4, c4, l4, rfl, hYa8, hxa8⟩
      refine hK _ _ ⟨fun _ => ((xa7).trans hxa8), ?_⟩
      clear hK K
      try simp only [Act.put, lyA, lyB, lyC, lyD, lyE, lyF]
      replace kba7 := kba7.ext hxa8
      have xa8 := ((xa7).trans hxa8)
      refine J_one 8 rfl (by kernel_rfl) (fun K hK => ?_)
      have hAa9 : BY wa8 w1.heap.size (some ⟨ba7, 0, none⟩) 2 2 [67, IntKind.u8.wrap p] := BY.of_bk kba7 lba7.out rfl (by omega)
      obtain ⟨Aa9, ca9, wa9, happa9, owna9, hga9, hgba9⟩ := appB wa8 w1.heap.size 94 hAa9 A4 4 c4 l4 hYa8.rd ((xa8).size) (by omega)
      replace happa9 := hid happa9
      refine step_run rfl _ (ex_append _ _ _ _ rfl _ _ (by simp [Act.eval, Act.put]) (by simp [Act.eval, Act.put]) _ happa9.out) ?_
      refine hK _ _ ⟨fun _ => (Ext.app (xa8) hga9 (fun k e => (hAa9.lt e).1)), ?_⟩
      clear hK K
      try simp only [Act.put, lyA, lyB, lyC, lyD, lyE, lyF]
      have xa9 := (Ext.app (xa8) hga9 (fun k e => (hAa9.lt e).1))
      refine JR 9 (v := ?va10) rfl (by kernel_rfl) rfl ?ya10 xa9 ?ra10
      case ya10 => (intro w hw; (go_simp; with_reducible rfl))
      simp only [Act.put, lyA, lyB, lyC, lyD, lyE, lyF]
      refine J_done (by kernel_rfl) (OnlyOn.normal ?_)
      go_wp2_with fail
      go_meet
      exact ⟨Aa9, ca9, rfl, hid ⟨_, owna9⟩, hid (xa9)⟩
    · go_simp
      refine (hlow.out _ 4 (by omega) da).mono ?_
      rintro e9 wa11 ⟨A4, c4, l4, rfl, hYa11, hxa11⟩
      refine hK _ _ ⟨fun _ => ((xa).trans hxa11), ?_⟩
      clear hK K
      try simp only [Act.put, lyA, lyB, lyC, lyD, lyE, lyF]
      have xa11 := ((xa).trans hxa11)
      refine J_one 3 rfl (by kernel_rfl) (fun K hK => ?_)
      go_simp
      obtain ⟨wa12, ba12, ewa12, eba12, -, kba12, hxa12⟩ := newB wa11 (bz [67, IntKind.u8.wrap p]) 5
      unfold bz at ewa12
      simp only [List.map_cons, List.map_nil] at ewa12
      try simp only [ewa12.out, eba12.out]
      have lba12 := hid (show w1.heap.size ≤ ba12 by rw [← eba12.out]; exact (xa11).size)
      clear ewa12 eba12
      refine hK _ _ ⟨fun _ => ((xa11).trans hxa12), ?_⟩
      clear hK K
      try simp only [Act.put, lyA, lyB, lyC, lyD, lyE, lyF]
      replace hYa11 := hYa11.ext hxa12
      have xa12 := ((xa11).trans hxa12)
      refine J_one 8 rfl (by kernel_rfl) (fun K hK => ?_)
      have hAa13 : BY wa12 w1.heap.size (some ⟨ba12, 0, none⟩) 2 2 [67, IntKind.u8.wrap p] := BY.of_bk kba12 lba12.out rfl (by omega)
      obtain ⟨Aa13, ca13, wa13, happa13, owna13, hga13, hgba13⟩ := appB wa12 w1.heap.size 94 hAa13 A4 4 c4 l4 hYa11.rd ((xa12).size) (by omega)
      replace happa13 := hid happa13
      refine step_run rfl _ (ex_append _ _ _ _ rfl _ _ (by simp [Act.eval, Act.put]) (by simp [Act.eval, Act.put]) _ happa13.out) ?_
      refine hK _ _ ⟨fun _ => (Ext.app (xa12) hga13 (fun k e => (hAa13.lt e).1)), ?_⟩
      clear hK K
      try simp only [Act.put, lyA, lyB, lyC, lyD, lyE, lyF]
      have xa13 := (Ext.app (xa12) hga13 (fun k e => (hAa13.lt e).1))
      refine JR 9 (v := ?va14) rfl (by kernel_rfl) rfl ?ya14 xa13 ?ra14
      case ya14 => (intro w hw; (go_simp; with_reducible rfl))
      simp only [Act.put, lyA, lyB, lyC, lyD, lyE, lyF]
      refine J_done (by kernel_rfl) (OnlyOn.normal ?_)
      go_wp2_with fail
      go_meet
      exact ⟨Aa13, ca13, rfl, hid ⟨_, owna13⟩, hid (xa13)⟩
  case rest =>
    obtain ⟨S1, d1, rfl, hO1, hX1⟩ := hcut
    obtain ⟨l1, hO1⟩ := hO1.out
    have hO1 := hid hO1
    obtain ⟨a0, a1, a2⟩ := (kg.out.ext hX1.out).c3
    have hl1 := hid (headLen_any n wc)
    go_wp2_with fail
    refine hl1.out.mono ?_
    rintro e w3 ⟨⟨z3, rfl⟩, hx3⟩
    clear hl1 a0 a1 a2
    have hl2 := hid (hlow.out z3 2 (by omega) w3)
    obtain ⟨a0, a1, a2⟩ := (kg.out.ext (hX1.out.trans hx3)).c3
    go_wp2_with fail
    refine hl2.out.mono ?_
    rintro e w4 ⟨S4, c4', l4', rfl, hY4, hx4⟩
    have hx34 := hid (hx3.trans hx4)
    have hX4 := hid (hX1.out.trans hx34.out)
    have hO4 := hid (hO1.out.ext hx34.out)
    have hR4 := hid hY4.rd
    clear hl2 a0 a1 a2 hx3 hx4 hO1 hX1 hY4
    go_wp2_with (at_builtin; refine wpl_bytes _ rfl _ _ rfl w1.heap.size S1 6 d1 _ rfl hO4.out S4 2 c4' l4' rfl hR4.out hX4.out.size (by omega) ?_)
    intro B5 d5 w5 hO5 hg5 hq5
    have hX5 := hid (Ext.app hX4.out hg5 (fun k e => (hO4.out.lt e).1))
    have hO5 := hid hO5
    clear hg5 hq5 hO4 hR4 hX4 hx34
    obtain ⟨a0, a1, a2⟩ := (kg.out.ext hX5.out).c3
    have hl1 := hid (hlf.out w5 hX5.out)
    go_wp2_with fail
    refine hl1.out.mono ?_
    rintro e w6 ⟨rfl, hx6⟩
    generalize lenI fs = z6 at *
    clear hl1 a0 a1 a2
    have hl2 := hid (hlow.out z6 2 (by omega) w6)
    obtain ⟨a0, a1, a2⟩ := (kg.out.ext (hX5.out.trans hx6)).c3
    go_wp2_with fail
    refine hl2.out.mono ?_
    rintro e w7 ⟨S7, c7', l7', rfl, hY7, hx7⟩
    have hx67 := hid (hx6.trans hx7)
    have hX7 := hid (hX5.out.trans hx67.out)
    have hO7 := hid (hO5.out.ext hx67.out)
    have hR7 := hid hY7.rd
    clear hl2 a0 a1 a2 hx6 hx7 hO5 hX5 hY7
    go_wp2_with (at_builtin; refine wpl_bytes _ rfl _ _ rfl w1.heap.size B5 8 d5 _ rfl hO7.out S7 2 c7' l7' rfl hR7.out hX7.out.size (by omega) ?_)
    intro B8 d8 w8 hO8 hg8 hq8
    have hX8 := hid (Ext.app hX7.out hg8 (fun k e => (hO7.out.lt e).1))
    have hO8 := hid hO8
    clear hg8 hq8 hO7 hR7 hX7 hx67
    obtain ⟨a0, a1, a2⟩ := (kg.out.ext hX8.out).c3
    go_wp2_with (at_builtin; refine wpl_bytes _ rfl _ _ rfl w1.heap.size B8 10 d8 _ rfl (hO8.out.ext (Ext.new _ _)) _ 2 2 _ rfl (two_bz _ _ _) (hX8.out.trans (Ext.new _ _)).size (by omega) ?_)
    intro B9 d9 w9 hO9 hg9 hq9
    have hX9 := hid (Ext.app (hX8.out.trans (Ext.new _ _)) hg9 (fun k e => (hO8.out.lt e).1))
    have hb9 := hid (show BYn w9 w1.heap.size B9 12 d9 from ⟨_, hO9⟩)
    clear hg9 hq9 hO8 hX8 a0 a1 a2 hO9
    obtain ⟨a0, a1, a2⟩ := (kg.out.ext hX9.out).c3
    go_upto_region 6 with fail
    clear a0 a1 a2
    go_wp2_with fail
    go_loopw [3, 39] (fun o v wr => ∃ (i : Nat) (S' : Option Addr) (q cs' : Nat), i ≤ n ∧ v = .int .i64 i ∧ o = .slice S' q cs' ∧ Hid (BYn wr w1.heap.size S' q cs') ∧ Hid (q = 12 + 16 * i) ∧ Hid (Ext w1 wr)) (fun _ v _ => n - (intOf v).toNat)
    case atStart => exact ⟨0, B9, 12, d9, by omega, rfl, rfl, hb9, hid rfl, hX9⟩
    case round =>
      clear hb9 hX9
      obtain ⟨i, S', q, cs', hi, rfl, rfl, hb, hq, hx⟩ := hrel
      by_cases hlt : i < n
      · obtain ⟨ad, eA, y0, y1, y2, y3⟩ := (hf1.out.ext hx.out).at_ hlt
        subst eA
        have hfB := hfk.out i (by omega)
        generalize fth fs i = f at *
        have hnm := hid (show f.nm.size ≤ 10 from by
          unfold fieldB at hfB
          cases hq : knd f.k with
          | none => rw [hq] at hfB; cases hfB
          | some d => rw [hq] at hfB; simp only [nameB, Bool.and_eq_true, decide_eq_true_eq] at hfB; exact hfB.1.2.1)
        obtain ⟨dk, hkd⟩ : ∃ dk, knd f.k = some dk := by
          unfold fieldB at hfB
          cases hq : knd f.k with
          | none => rw [hq] at hfB; cases hfB
          | some dk => exact ⟨dk, rfl⟩
        obtain ⟨dL, dlo, dhi, dwr, drd⟩ := dk
        replace hkd := hid hkd
        clear hfB
        obtain ⟨w3, gf, e3, h3, s3, kf, x3⟩ := newB wr (fB f) 64
        obtain ⟨w4, gd, e4, h4, s4, kd, x4⟩ := newB w3 [.int .u8 0, .int .u8 0, .int .u8 0, .int .u8 0, .int .u8 0, .int .u8 0, .int .u8 0, .int .u8 0, .int .u8 0, .int .u8 0, .int .u8 0, .int .u8 0, .int .u8 0, .int .u8 0, .int .u8 0, .int .u8 0] 213
        have kd0 := hid (show Bk w4 gd (bz (List.replicate 16 0)) 213 from kd)
        have h4' := s3.out.symm.trans h4.out
        have h4 := h4.out
        have hgd := hid (show wr.heap.size = gf ∧ gd = gf + 1 from ⟨h3.out, by omega⟩)
        have kf := hid (kf.ext x4)
        have hx4 := hid (x3.trans x4)
        have e3 := e3.out
        have e4 := e4.out
        have h3 := h3.out
        unfold fB at e3
        clear x3 x4 kd s3 s4
        have ii : 0 ≤ (i : Int) ∧ (i : Int) < n := by omega
        go_upto_region 9 with fail
        try simp only [e3, e4, h3, h4, h4']
        clear e3 e4 h3 h4 h4' y0 y1 y2 y3
        have xb := (Ext.refl w4).drew_right
        refine region_J (fun w' => Ext w4 w') 3 (by kernel_rfl) ?_
        generalize w4.drew = db at xb ⊢
        refine JW 0 (v := ?vb1) rfl (by kernel_rfl) rfl ?yb1 xb ?rb1
        case yb1 => (intro w hw; (go_simp; with_reducible rfl))
        simp only [Act.put, lyA, lyB, lyC, lyD, lyE, lyF]
        refine J_one 1 rfl (by kernel_rfl) (fun K hK => ?_)
        go_simp
        refine hK _ _ ⟨fun _ => xb, ?_⟩
        clear hK K
        try simp only [Act.put, lyA, lyB, lyC, lyD, lyE, lyF]
        refine JW 2 (v := ?vb3) rfl (by kernel_rfl) rfl ?yb3 xb ?rb3
        case yb3 => (intro w hw; obtain ⟨a0, a1, a2, a3⟩ := Bk.c4 (show Bk w gf [.string f.nm, .int .i64 f.k, .int .i64 f.wd, .bool f.nl] 64 from kf.out.ext hw); (go_simp; with_reducible rfl))
        simp only [Act.put, lyA, lyB, lyC, lyD, lyE, lyF]
        refine J_one 3 rfl (by kernel_rfl) (fun K hK => ?_)
        have x9 := hid (xb)
        obtain ⟨w5, l5, hcp, k5, hl5, hsz5, hkp5, ho5, ht5, hu5⟩ := copyS (dLen := 10) (dCap := 10) 3 (kd0.out.ext x9.out) hnm.out (by have := hnm.out; simp; omega)
        go_simp
        refine hK _ _ ⟨fun h => absurd rfl h, ?_⟩
        clear hK K
        try simp only [Act.put, lyA, lyB, lyC, lyD, lyE, lyF]
        refine J_done (by kernel_rfl) (OnlyOn.normal ?_)
        have hX5 := hid (show Ext wr w5 from ⟨ho5.trans (hx4.out.trans x9.out).os, ht5.trans (hx4.out.trans x9.out).tape, hu5.trans (hx4.out.trans x9.out).output, by rw [hsz5]; exact (hx4.out.trans x9.out).size, fun k hk => (hkp5 k (by have := hgd.out; omega)).trans ((hx4.out.trans x9.out).block hk)⟩)
        have kf5 := hid ((kf.out.ext x9.out).keep (hkp5 gf (by have := hgd.out; omega)))
        have k5 := hid k5
        have hl5 := hid (show l5.length = 16 from hl5.trans (by simp))
        clear hcp hsz5 hkp5 ho5 ht5 hu5 x9 kd0 kf hx4 hnm
        have xd := (Ext.refl w5).drew_right
        go_upto_region 10 with fail
        have xc : (fun w' => Ext wr w' ∧ Bk w' gf [.string f.nm, .int .i64 f.k, .int .i64 f.wd, .bool f.nl] 64) w5.drew := ⟨hX5.out.drew_right, kf5.out.ext (Ext.refl w5).drew_right⟩
        refine region_J (fun w' => Ext wr w' ∧ Bk w' gf [.string f.nm, .int .i64 f.k, .int .i64 f.wd, .bool f.nl] 64) 12 (by kernel_rfl) ?_
        generalize w5.drew = dc at * 
        refine JR 1 (v := ?vc1) rfl (by kernel_rfl) rfl ?yc1 xc ?rc1
        case yc1 => (intro w hw; (go_simp; with_reducible rfl))
        simp only [Act.put, lyA, lyB, lyC, lyD, lyE, lyF]
        refine JR 2 (v := ?vc2) rfl (by kernel_rfl) rfl ?yc2 xc ?rc2
        case yc2 => (intro w hw; obtain ⟨a0, a1, a2, a3⟩ := Bk.c4 (show Bk w gf [.string f.nm, .int .i64 f.k, .int .i64 f.wd, .bool f.nl] 64 from hw.2); (go_simp; with_reducible rfl))
        simp only [Act.put, lyA, lyB, lyC, lyD, lyE, lyF]
        refine JR 5 (v := ?vc3) rfl (by kernel_rfl) rfl ?yc3 xc ?rc3
        case yc3 => (intro w hw; (go_simp; with_reducible rfl))
        simp only [Act.put, lyA, lyB, lyC, lyD, lyE, lyF]
        refine JR 6 (v := ?vc4) rfl (by kernel_rfl) rfl ?yc4 xc ?rc4
        case yc4 => (intro w hw; obtain ⟨a0, a1, a2, a3⟩ := Bk.c4 (show Bk w gf [.string f.nm, .int .i64 f.k, .int .i64 f.wd, .bool f.nl] 64 from hw.2); (go_simp; with_reducible rfl))
        simp only [Act.put, lyA, lyB, lyC, lyD, lyE, lyF]
        refine JR 7 (v := ?vc5) rfl (by kernel_rfl) rfl ?yc5 xc ?rc5
        case yc5 => (intro w hw; (go_simp; with_reducible rfl))
        simp only [Act.put, lyA, lyB, lyC, lyD, lyE, lyF]
        refine J_one 0 rfl (by kernel_rfl) (fun K hK => ?_)
        go_simp
        refine (kinds_any dc).mono ?_
        rintro e9 wc6 ⟨rc6, rfl, hmc6, -, hxc6⟩
        have hlk := look_kinds hmc6 f.k false
        simp only [hkd.out, Option.map_some, Option.getD_some, Bool.false_eq_true, if_false, Kd.v] at hlk
        refine hK _ _ ⟨fun _ => ⟨((xc).1).trans hxc6, ((xc).2).ext hxc6⟩, ?_⟩
        clear hK K
        try simp only [Act.put, lyA, lyB, lyC, lyD, lyE, lyF]
        have xc6 : (fun w' => Ext wr w' ∧ Bk w' gf [.string f.nm, .int .i64 f.k, .int .i64 f.wd, .bool f.nl] 64) wc6 := ⟨((xc).1).trans hxc6, ((xc).2).ext hxc6⟩
        refine J_one 3 rfl (by kernel_rfl) (fun K hK => ?_)
        go_simp
        refine hK _ _ ⟨fun _ => xc6, ?_⟩
        clear hK K
        try simp only [Act.put, lyA, lyB, lyC, lyD, lyE, lyF]
        have xc7 : (fun w' => Ext wr w' ∧ Bk w' gf [.string f.nm, .int .i64 f.k, .int .i64 f.wd, .bool f.nl] 64) wc6 := xc6
        refine J_one 4 rfl (by kernel_rfl) (fun K hK => ?_)
        have hfl := fld175_0 (.int .u8 dL) (.int .i64 dlo) (.int .i64 dhi) (.func (.func dwr) #[] #[]) (.func (.func drd) #[] #[]) wc6
        go_simp
        refine hK _ _ ⟨fun _ => xc7, ?_⟩
        clear hK K
        try simp only [Act.put, lyA, lyB, lyC, lyD, lyE, lyF]
        have xc8 : (fun w' => Ext wr w' ∧ Bk w' gf [.string f.nm, .int .i64 f.k, .int .i64 f.wd, .bool f.nl] 64) wc6 := xc7
        refine JR 8 (v := ?vc9) rfl (by kernel_rfl) rfl ?yc9 xc8 ?rc9
        case yc9 => (intro w hw; (go_simp; with_reducible rfl))
        simp only [Act.put, lyA, lyB, lyC, lyD, lyE, lyF]
        refine J_one 9 rfl (by kernel_rfl) (fun K hK => ?_)
        have k10 := k5.out.ext (xd.trans hxc6)
        obtain ⟨z10, hz10⟩ := bk_get (k := 10) k10 (by have := hl5.out; omega)
        have fz := k10.free 10
        obtain ⟨l6, k11, hl6⟩ := bk_put k10 10 dL
        have kf11 := ((xc8).2).other (g := gd) (by have := hgd.out; omega) 10 (.int .u8 dL)
        have xx11 := ((xc8).1).set (p := ⟨gd, 10, none⟩) (show wr.heap.size ≤ gd by have := hgd.out; omega) (.int .u8 dL)
        go_simp
        generalize World.setCell wc6 ⟨gd, 10, none⟩ (.int .u8 dL) = w11 at *
        refine hK _ _ ⟨fun _ => ⟨xx11, kf11⟩, ?_⟩
        clear hK K
        try simp only [Act.put, lyA, lyB, lyC, lyD, lyE, lyF]
        have xc10 : (fun w' => Ext wr w' ∧ Bk w' gf [.string f.nm, .int .i64 f.k, .int .i64 f.wd, .bool f.nl] 64) w11 := ⟨xx11, kf11⟩
        refine JR 10 (v := ?vc11) rfl (by kernel_rfl) rfl ?yc11 xc10 ?rc11
        case yc11 => (intro w hw; (go_simp; with_reducible rfl))
        simp only [Act.put, lyA, lyB, lyC, lyD, lyE, lyF]
        refine J_one 11 rfl (by kernel_rfl) (fun K hK => ?_)
        obtain ⟨z11, hz11⟩ := bk_get (k := 11) k11 (by have := hl6; have := hl5.out; omega)
        have fz2 := k11.free 11
        have kk12 := fun u => bk_put k11 11 u
        have kff12 := fun u => ((xc10).2).other (g := gd) (by have := hgd.out; omega) 11 (.int .u8 u)
        have xxx12 := fun u => ((xc10).1).set (p := ⟨gd, 11, none⟩) (show wr.heap.size ≤ gd by have := hgd.out; omega) (.int .u8 u)
        go_simp
        generalize hw12 : World.setCell w11 ⟨gd, 11, none⟩ (Value.int .u8 _) = w12 at *
        obtain ⟨l7, k12, hl7⟩ : ∃ l7, Bk w12 gd (bz l7) 213 ∧ l7.length = l6.length := by rw [← hw12]; exact kk12 _
        have kf12 : Bk w12 gf [.string f.nm, .int .i64 f.k, .int .i64 f.wd, .bool f.nl] 64 := by rw [← hw12]; exact kff12 _
        have xx12 : Ext wr w12 := by rw [← hw12]; exact xxx12 _
        clear kk12 kff12 xxx12 hw12
        refine hK _ _ ⟨fun _ => ⟨xx12, kf12⟩, ?_⟩
        clear hK K
        try simp only [Act.put, lyA, lyB, lyC, lyD, lyE, lyF]
        have xc12 : (fun w' => Ext wr w' ∧ Bk w' gf [.string f.nm, .int .i64 f.k, .int .i64 f.wd, .bool f.nl] 64) w12 := ⟨xx12, kf12⟩
        refine J_done (by kernel_rfl) (OnlyOn.normal ?_)
        replace kf12 := hid kf12
        replace xx12 := hid xx12
        replace k12 := hid k12
        have hl12 := hid (hl7.trans (hl6.trans hl5.out))
        clear hlk hz10 fz hz11 fz2 k10 k11 kf11 xx11 xd hX5 k5 hfl
        obtain ⟨a0, a1, a2, a3⟩ := kf12.out.c4
        obtain ⟨l1, hb1⟩ := hb.out
        cases hnl : f.nl with
        | true =>
          rw [hnl] at a3
          obtain ⟨z12, hz12⟩ := bk_get (k := 12) k12.out (by have := hl12.out; omega)
          have fz := k12.out.free 12
          obtain ⟨l8, k13, hl8⟩ := bk_put k12.out 12 1
          have hR := hid (rd_bk k13 (hl8.trans hl12.out) (by omega))
          have xx13 := hid (xx12.out.set (p := ⟨gd, 12, none⟩) (show wr.heap.size ≤ gd by have := hgd.out; omega) (.int .u8 1))
          have hx13 := hid (hx.out.trans xx13.out)
          have hA1 := hid (hb1.ext xx13.out)
          have hq0 := hid hq.out
          clear k13 hl8 xx13 hb hb1 hx hq xx12 kf12
          go_wp2_with (at_builtin; refine wpl_bytes _ rfl _ _ rfl w1.heap.size S' q cs' l1 rfl hA1.out (some ⟨gd, 0, none⟩) 16 16 _ rfl hR.out hx13.out.size (by have := hq0.out; omega) ?_)
          intro B5 d5 w5 hO5 hg5 hq5
          have hx5 := hid (Ext.app hx13.out hg5 (fun k e => (hA1.out.lt e).1))
          have hb5 := hid (show BYn w5 w1.heap.size B5 (q + 16) d5 from ⟨_, hO5⟩)
          clear hg5 hq5 hA1 hx13 hO5 hR
          go_wp2
          go_roundw
          case rel => exact ⟨i + 1, B5, q + 16, d5, by omega, by go_num, rfl, hb5, hid (by have := hq0.out; omega), hx5⟩
          case measure => simp [intOf]; omega
        | false =>
          rw [hnl] at a3
          have hR := hid (rd_bk k12.out hl12.out (by omega))
          have hx13 := hid (hx.out.trans xx12.out)
          have hA1 := hid (hb1.ext xx12.out)
          have hq0 := hid hq.out
          clear hb hb1 hx hq xx12 kf12
          go_wp2_with (at_builtin; refine wpl_bytes _ rfl _ _ rfl w1.heap.size S' q cs' l1 rfl hA1.out (some ⟨gd, 0, none⟩) 16 16 _ rfl hR.out hx13.out.size (by have := hq0.out; omega) ?_)
          intro B5 d5 w5 hO5 hg5 hq5
          have hx5 := hid (Ext.app hx13.out hg5 (fun k e => (hA1.out.lt e).1))
          have hb5 := hid (show BYn w5 w1.heap.size B5 (q + 16) d5 from ⟨_, hO5⟩)
          clear hg5 hq5 hA1 hx13 hO5 hR
          go_wp2
          go_roundw
          case rel => exact ⟨i + 1, B5, q + 16, d5, by omega, by go_num, rfl, hb5, hid (by have := hq0.out; omega), hx5⟩
          case measure => simp [intOf]; omega
      · obtain rfl : i = n := by omega
        obtain ⟨l1, hb1⟩ := hb.out
        have hA1 := hid (hb1.ext (Ext.new wr (.cells #[.int .u8 13] 5)))
        have hx1 := hid (hx.out.trans (Ext.new wr (.cells #[.int .u8 13] 5)))
        have hq0 := hid hq.out
        clear hb hb1 hx hq
        go_wp2_with (at_builtin; refine wpl_bytes _ rfl _ _ rfl w1.heap.size S' q cs' l1 rfl hA1.out _ 1 1 _ rfl (one_bz _ _) hx1.out.size (by have := hq0.out; omega) ?_)
        intro B5 d5 w5 hO5 hg5 hq5
        have hx5 := hid (x1.out.trans (Ext.app hx1.out hg5 (fun k e => (hA1.out.lt e).1)))
        have hb5 := hid (BY.lo' hO5 x1s.out)
        have hqq := hid (show q + 1 ≤ 1000 from by have := hq0.out; omega)
        clear hg5 hq5 hA1 hx1 hO5
        go_wp2
        go_ret
        exact ⟨B5, q + 1, d5, _, rfl, hb5.out, hqq.out, hx5.out⟩
open Go.RowKit Go.Shelf
theorem written_any (p : Int) (A : Option Addr) (n c : Nat) (B : Option Addr) (m d : Nat) (fs : List Fd) (rs : List Rc) (w : World) (hf : RdF w A n c fs) (hr : RdR w B m d rs) (hE : okT p fs rs) :
    Calls Tryz.prog 67 #[tb p A n c B m d] w fun e w' => ∃ S q cs, e = .returned (.slice S q cs) ∧ BYn w' w.heap.size S q cs ∧ Ext w w' := by
  have hm := hr.len
  have hmx := hr.max
  have hl := hE.len
  obtain ⟨w1, g, e1, h1, s1, kg, x1⟩ := newB w [.int .i64 p, .slice A n c, .slice B m d] 25
  have hH := hid (header_any p A n c B m d fs rs w1 (hf.ext x1) (hr.ext x1) hE)
  have hrow := hid (fun (i : Nat) (hi : i < rs.length) (w' : World) (hx' : Ext w1 w') => rowOf hE ((hf.ext x1).ext hx') ((hr.ext x1).ext hx') hi)
  have hf1 := hid (hf.ext x1)
  replace kg := hid kg
  have x1s := hid x1.size
  replace x1 := hid x1
  clear hf hr
  unfold tb at hH ⊢
  go_enter Tryz.func67, Tryz.ntmps67
  go_upto_region 1 with fail
  simp only [e1.out, h1.out]
  clear e1 h1 s1
  obtain ⟨a0, a1, a2⟩ := kg.out.c3
  go_wp2_with fail
  refine hH.out.mono ?_
  rintro e w2 ⟨S0, q0, c0, l0, rfl, hY0, hq0, hx2⟩
  have hb0 := hid (show BYn w2 w1.heap.size S0 q0 c0 from ⟨l0, hY0⟩)
  have hx2 := hid hx2
  clear a0 a1 a2 hY0 hH
  obtain ⟨a0, a1, a2⟩ := (kg.out.ext hx2.out).c3
  go_upto_region 3 with fail
  clear a0 a1 a2
  go_wp2_with fail
  go_loopw [3, 11] (fun o v wr => ∃ (i : Nat) (S' : Option Addr) (q cs' : Nat), i ≤ m ∧ v = .int .i64 i ∧ o = .slice S' q cs' ∧ Hid (BYn wr w1.heap.size S' q cs') ∧ Hid (q ≤ 1000 + 5000 * i) ∧ Hid (Ext w1 wr)) (fun _ v _ => m - (intOf v).toNat)
  case atStart => exact ⟨0, S0, q0, c0, by omega, rfl, rfl, hb0, hid (by omega), hx2⟩
  case round =>
    clear hb0 hx2 hq0
    obtain ⟨i, S', q, cs', hi, rfl, rfl, hb, hq, hx⟩ := hrel
    by_cases hlt : i < m
    · obtain ⟨ad, C, cv, eB, c0, c1, hv, hh1, hh2, hh3, hh4⟩ := hrow.out i (by omega) wr hx.out
      subst eB
      obtain ⟨w3, g3, e3, h3, s3, k3, x3⟩ := newB wr [.bool (rth rs i).gone, .slice C n cv] 69
      have hcl := hid (fun w' (hx' : Ext w3 w') => rowB_any p A n c fs C cv (rth rs i) w' (RdF.ext hf1.out (hx.out.trans (x3.trans hx'))) ((hv.ext x3).ext hx') hh3 hh4 hh1 hh2)
      have x3 := hid x3
      have e3 := e3.out
      have h3 := h3.out
      have k3 := hid k3
      have ii : 0 ≤ (i : Int) ∧ (i : Int) < m := by omega
      generalize rth rs i = x at *
      clear hv hh1 hh2
      go_upto_region 5 with fail
      try simp only [e3, h3]
      clear e3 h3 s3 c0 c1
      obtain ⟨a0, a1, a2⟩ := ((kg.out.ext hx.out).ext x3.out).c3
      obtain ⟨b0, b1⟩ := k3.out.c2
      have hcl2 := hid (hcl.out w3 (Ext.refl _))
      go_wp2_with fail
      refine hcl2.out.mono ?_
      rintro e w4 ⟨S4, q4, c4, l4, rfl, hY4, hq4, hx4⟩
      obtain ⟨l1, hb1⟩ := hb.out
      have hA1 := hid (hb1.ext (x3.out.trans hx4))
      have hA4 := hid hY4.rd
      have hx14 := hid (hx.out.trans (x3.out.trans hx4))
      have hq0 := hid hq.out
      have hq4 := hid hq4
      clear hb hb1 hY4 hx4 hcl hcl2 a0 a1 a2 b0 b1 k3 x3
      go_wp2_with (at_builtin; refine wpl_bytes _ rfl _ _ rfl w1.heap.size S' q cs' l1 rfl hA1.out S4 q4 c4 l4 rfl hA4.out hx14.out.size (by have := hq0.out; have := hq4.out; omega) ?_)
      intro B5 d5 w5 hO5 hg5 hq5
      have hx5 := hid (Ext.app hx14.out hg5 (fun k e => (hA1.out.lt e).1))
      have hb5 := hid (show BYn w5 w1.heap.size B5 (q + q4) d5 from ⟨_, hO5⟩)
      clear hg5 hq5 hA1 hA4 hx14 hO5
      go_wp2
      go_roundw
      case rel => exact ⟨i + 1, B5, q + q4, d5, by omega, by go_num, rfl, hb5, hid (by have := hq0.out; have := hq4.out; omega), hx5⟩
      case measure => simp [intOf]; omega
    · obtain rfl : i = m := by omega
      obtain ⟨l1, hb1⟩ := hb.out
      have hA1 := hid (hb1.ext (Ext.new wr (.cells #[.int .u8 26] 5)))
      have hx1 := hid (hx.out.trans (Ext.new wr (.cells #[.int .u8 26] 5)))
      have hq0 := hid hq.out
      clear hb hb1 hx
      go_wp2_with (at_builtin; refine wpl_bytes _ rfl _ _ rfl w1.heap.size S' q cs' l1 rfl hA1.out _ 1 1 _ rfl (one_bz _ _) hx1.out.size (by have := hq0.out; omega) ?_)
      intro B5 d5 w5 hO5 hg5 hq5
      have hx5 := hid (x1.out.trans (Ext.app hx1.out hg5 (fun k e => (hA1.out.lt e).1)))
      have hb5 := hid (show BYn w5 w.heap.size B5 (q + 1) d5 from ⟨_, BY.lo' hO5 x1s.out⟩)
      clear hg5 hq5 hA1 hx1 hO5
      go_wp2
      go_ret
      exact ⟨B5, q + 1, d5, rfl, hb5.out, hx5.out⟩
theorem Bytes_any (p : Int) (A : Option Addr) (n c : Nat) (B : Option Addr) (m d : Nat) (fs : List Fd) (rs : List Rc) (w : World) (hf : RdF w A n c fs) (hr : RdR w B m d rs) (hE : okT p fs rs) :
    Calls Tryz.prog 32 #[tb p A n c B m d] w fun e w' => ∃ S q cs, e = .returned (.tuple #[.slice S q cs, .int .i64 0]) ∧ Ext w w' := by
  obtain ⟨w1, g, e1, h1, s1, kg, x1⟩ := newB w [.int .i64 p, .slice A n c, .slice B m d] 25
  have hV := hid (Validate_any p A n c B m d fs rs w1 (hf.ext x1) (hr.ext x1))
  have hE' := hE
  unfold okT at hE'
  rw [hE'] at hV
  have hW := hid (fun w' (hx' : Ext w1 w') => written_any p A n c B m d fs rs w' ((hf.ext x1).ext hx') ((hr.ext x1).ext hx') hE)
  replace kg := hid kg
  replace x1 := hid x1
  clear hf hr hE hE'
  unfold tb at hV hW ⊢
  go_enter Tryz.func32, Tryz.ntmps32
  go_upto_region 1 with fail
  simp only [e1.out, h1.out]
  clear e1 h1 s1
  obtain ⟨a0, a1, a2⟩ := kg.out.c3
  go_wp2_with fail
  refine hV.out.mono ?_
  rintro e w2 ⟨rfl, hx2⟩
  have k2 := hid (kg.out.ext hx2)
  have hx := hid (x1.out.trans hx2)
  have hW2 := hid (hW.out w2 hx2)
  clear hV a0 a1 a2 x1 kg hW hx2
  obtain ⟨a0, a1, a2⟩ := k2.out.c3
  go_wp2_with fail
  refine hW2.out.mono ?_
  rintro e w3 ⟨S, q, cs, rfl, hY, hx3⟩
  have hxf := hid (hx.out.trans hx3)
  clear hW2 hY hx3 hx a0 a1 a2 k2
  go_wp2
  exact bodyPost_ret (v := .tuple #[.slice S q cs, .int .i64 0]) (by simp [results, Tryz.results32, go_sem]) rfl ⟨S, q, cs, rfl, hxf.out⟩
theorem Bytes_bad (p : Int) (A : Option Addr) (n c : Nat) (B : Option Addr) (m d : Nat) (fs : List Fd) (rs : List Rc) (w : World) (hf : RdF w A n c fs) (hr : RdR w B m d rs) (hE : ¬ okT p fs rs) :
    Calls Tryz.prog 32 #[tb p A n c B m d] w fun e w' => e = .returned (.tuple #[.slice none 0 0, .int .i64 (vtE p fs rs)]) ∧ Ext w w' := by
  unfold okT at hE
  obtain ⟨w1, g, e1, h1, s1, kg, x1⟩ := newB w [.int .i64 p, .slice A n c, .slice B m d] 25
  have hV := hid (Validate_any p A n c B m d fs rs w1 (hf.ext x1) (hr.ext x1))
  replace kg := hid kg
  replace x1 := hid x1
  clear hf hr
  generalize vtE p fs rs = er at *
  unfold tb at hV ⊢
  go_enter Tryz.func32, Tryz.ntmps32
  go_upto_region 1 with fail
  simp only [e1.out, h1.out]
  clear e1 h1 s1
  obtain ⟨a0, a1, a2⟩ := kg.out.c3
  go_wp2_with fail
  refine hV.out.mono ?_
  rintro e w2 ⟨rfl, hx2⟩
  have hxf := hid (x1.out.trans hx2)
  clear hV a0 a1 a2 x1 kg hx2
  go_wp2
  exact bodyPost_ret (v := .tuple #[.slice none 0 0, .int .i64 er]) (by simp [results, Tryz.results32, go_sem]) rfl ⟨rfl, hxf.out⟩
end Go.Proofs.YtngoebbmgpdeiaaGreatDoor
namespace Go.Proofs
open Go.Shelf
def Tryz.keysA_ren : Go.Shelf.Ren := ⟨fun | 7 => 124 | 10 => 171 | n => n, fun | 23 => 88 | 26 => 3 | 3 => 156 | 28 => 198 | 0 => 0 | 27 => 197 | 33 => 133 | 4 => 4 | n => n, fun | n => n⟩
theorem Tryz.keysA : Go.Proofs.SlLaysZI.n7 Tryz.prog Tryz.keysA_ren := {
  mixed := by kernel_rfl
  f7 := ⟨Tryz.f124.name, by decide, Tryz.func124.trans (congrArg some (by kernel_rfl))⟩
  f10 := ⟨Tryz.f171.name, by decide, Tryz.func171.trans (congrArg some (by kernel_rfl))⟩
  t0 := Tryz.underlying0
  a0 := Tryz.isAgg0
  z0 := Tryz.sizeOf0
  v0 := Tryz.zeroValue0
  t4 := Tryz.underlying4
  a4 := Tryz.isAgg4
  z4 := Tryz.sizeOf4
  v4 := Tryz.zeroValue4
  t23 := Tryz.underlying88
  a23 := Tryz.isAgg88
  z23 := Tryz.sizeOf88
  v23 := Tryz.zeroValue88
  t26 := Tryz.underlying3
  a26 := Tryz.isAgg3
  z26 := Tryz.sizeOf3
  v26 := Tryz.zeroValue3
  t27 := Tryz.underlying197
  a27 := Tryz.isAgg197
  z27 := Tryz.sizeOf197
  v27 := Tryz.zeroValue197
  t28 := Tryz.underlying198
  a28 := Tryz.isAgg198
  z28 := Tryz.sizeOf198
  v28 := Tryz.zeroValue198
  t33 := Tryz.underlying133
  a33 := Tryz.isAgg133
  z33 := Tryz.sizeOf133
  v33 := Tryz.zeroValue133 }
def Tryz.sortedA_ren : Go.Shelf.Ren := ⟨fun | 6 => 123 | 8 => 169 | 9 => 170 | 11 => 207 | 13 => 209 | 12 => 208 | 23 => 242 | 24 => 243 | 14 => 233 | 15 => 234 | 16 => 235 | 17 => 236 | 18 => 237 | 19 => 238 | 20 => 239 | 21 => 240 | 22 => 241 | 25 => 271 | 26 => 272 | 27 => 273 | 28 => 274 | 29 => 275 | 30 => 276 | 31 => 302 | n => n, fun | 26 => 3 | 28 => 198 | 24 => 51 | 0 => 0 | 3 => 3 | 37 => 232 | 48 => 78 | 50 => 263 | 4 => 4 | 40 => 315 | 39 => 314 | 45 => 111 | 5 => 5 | 9 => 9 | 51 => 349 | 55 => 353 | 57 => 371 | 58 => 372 | 33 => 133 | n => n, fun | n => n⟩
theorem Tryz.sortedA : Go.Proofs.SlLaysZI.n6 Tryz.prog Tryz.sortedA_ren := {
  mixed := by kernel_rfl
  f6 := ⟨Tryz.f123.name, by decide, Tryz.func123.trans (congrArg some (by kernel_rfl))⟩
  f8 := ⟨Tryz.f169.name, by decide, Tryz.func169.trans (congrArg some (by kernel_rfl))⟩
  f11 := ⟨Tryz.f207.name, by decide, Tryz.func207.trans (congrArg some (by kernel_rfl))⟩
  t0 := Tryz.underlying0
  a0 := Tryz.isAgg0
  z0 := Tryz.sizeOf0
  v0 := Tryz.zeroValue0
  t24 := Tryz.underlying51
  a24 := Tryz.isAgg51
  z24 := Tryz.sizeOf51
  v24 := Tryz.zeroValue51
  t26 := Tryz.underlying3
  a26 := Tryz.isAgg3
  z26 := Tryz.sizeOf3
  v26 := Tryz.zeroValue3
  t28 := Tryz.underlying198
  a28 := Tryz.isAgg198
  z28 := Tryz.sizeOf198
  v28 := Tryz.zeroValue198
  i26 := by kernel_rfl }
def Tryz.sortA_ren : Go.Shelf.Ren := ⟨fun | 5 => 170 | 8 => 209 | 7 => 208 | 19 => 242 | 20 => 243 | 10 => 233 | 11 => 234 | 12 => 235 | 13 => 236 | 14 => 237 | 15 => 238 | 16 => 239 | 17 => 240 | 18 => 241 | 30 => 271 | 31 => 272 | 32 => 273 | 33 => 274 | 34 => 275 | 35 => 276 | 40 => 302 | n => n, fun | 23 => 51 | 25 => 3 | 3 => 3 | 32 => 232 | 22 => 51 | 0 => 0 | 44 => 78 | 46 => 263 | 4 => 4 | 36 => 315 | 35 => 314 | 41 => 111 | 5 => 5 | 9 => 9 | 53 => 349 | 57 => 353 | 63 => 371 | 64 => 372 | n => n, fun | n => n⟩
theorem Tryz.sortA : Go.Proofs.SlLaysM.n5 Tryz.prog Tryz.sortA_ren := {
  mixed := by kernel_rfl
  f5 := ⟨Tryz.f170.name, by decide, Tryz.func170.trans (congrArg some (by kernel_rfl))⟩
  f7 := ⟨Tryz.f208.name, by decide, Tryz.func208.trans (congrArg some (by kernel_rfl))⟩
  f8 := Tryz.func209.trans (congrArg some (by kernel_rfl))
  f10 := ⟨Tryz.f233.name, by decide, Tryz.func233.trans (congrArg some (by kernel_rfl))⟩
  f11 := ⟨Tryz.f234.name, by decide, Tryz.func234.trans (congrArg some (by kernel_rfl))⟩
  f12 := ⟨Tryz.f235.name, by decide, Tryz.func235.trans (congrArg some (by kernel_rfl))⟩
  f13 := ⟨Tryz.f236.name, by decide, Tryz.func236.trans (congrArg some (by kernel_rfl))⟩
  f14 := ⟨Tryz.f237.name, by decide, Tryz.func237.trans (congrArg some (by kernel_rfl))⟩
  f15 := ⟨Tryz.f238.name, by decide, Tryz.func238.trans (congrArg some (by kernel_rfl))⟩
  f16 := ⟨Tryz.f239.name, by decide, Tryz.func239.trans (congrArg some (by kernel_rfl))⟩
  f17 := ⟨Tryz.f240.name, by decide, Tryz.func240.trans (congrArg some (by kernel_rfl))⟩
  f18 := ⟨Tryz.f241.name, by decide, Tryz.func241.trans (congrArg some (by kernel_rfl))⟩
  f19 := Tryz.func242.trans (congrArg some (by kernel_rfl))
  f20 := Tryz.func243.trans (congrArg some (by kernel_rfl))
  f30 := ⟨Tryz.f271.name, by decide, Tryz.func271.trans (congrArg some (by kernel_rfl))⟩
  f31 := Tryz.func272.trans (congrArg some (by kernel_rfl))
  f32 := Tryz.func273.trans (congrArg some (by kernel_rfl))
  f33 := ⟨Tryz.f274.name, by decide, Tryz.func274.trans (congrArg some (by kernel_rfl))⟩
  f34 := ⟨Tryz.f275.name, by decide, Tryz.func275.trans (congrArg some (by kernel_rfl))⟩
  f35 := ⟨Tryz.f276.name, by decide, Tryz.func276.trans (congrArg some (by kernel_rfl))⟩
  f40 := ⟨Tryz.f302.name, by decide, Tryz.func302.trans (congrArg some (by kernel_rfl))⟩
  t0 := Tryz.underlying0
  a0 := Tryz.isAgg0
  z0 := Tryz.sizeOf0
  v0 := Tryz.zeroValue0
  t3 := Tryz.underlying3
  a3 := Tryz.isAgg3
  z3 := Tryz.sizeOf3
  v3 := Tryz.zeroValue3
  t4 := Tryz.underlying4
  a4 := Tryz.isAgg4
  z4 := Tryz.sizeOf4
  v4 := Tryz.zeroValue4
  t5 := Tryz.underlying5
  a5 := Tryz.isAgg5
  z5 := Tryz.sizeOf5
  v5 := Tryz.zeroValue5
  t9 := Tryz.underlying9
  a9 := Tryz.isAgg9
  z9 := Tryz.sizeOf9
  v9 := Tryz.zeroValue9
  t22 := Tryz.underlying51
  a22 := Tryz.isAgg51
  z22 := Tryz.sizeOf51
  v22 := Tryz.zeroValue51
  t23 := Tryz.underlying51
  a23 := Tryz.isAgg51
  z23 := Tryz.sizeOf51
  v23 := Tryz.zeroValue51
  t25 := Tryz.underlying3
  a25 := Tryz.isAgg3
  z25 := Tryz.sizeOf3
  v25 := Tryz.zeroValue3
  t32 := Tryz.underlying232
  a32 := Tryz.isAgg232
  z32 := Tryz.sizeOf232
  v32 := Tryz.zeroValue232
  t35 := Tryz.underlying314
  a35 := Tryz.isAgg314
  z35 := Tryz.sizeOf314
  v35 := Tryz.zeroValue314
  t36 := Tryz.underlying315
  a36 := Tryz.isAgg315
  z36 := Tryz.sizeOf315
  v36 := Tryz.zeroValue315
  t41 := Tryz.underlying111
  a41 := Tryz.isAgg111
  z41 := Tryz.sizeOf111
  v41 := Tryz.zeroValue111
  t44 := Tryz.underlying78
  a44 := Tryz.isAgg78
  z44 := Tryz.sizeOf78
  v44 := Tryz.zeroValue78
  t46 := Tryz.underlying263
  a46 := Tryz.isAgg263
  z46 := Tryz.sizeOf263
  v46 := Tryz.zeroValue263
  t53 := Tryz.underlying349
  a53 := Tryz.isAgg349
  z53 := Tryz.sizeOf349
  v53 := Tryz.zeroValue349
  t57 := Tryz.underlying353
  a57 := Tryz.isAgg353
  z57 := Tryz.sizeOf353
  v57 := Tryz.zeroValue353
  t63 := Tryz.underlying371
  a63 := Tryz.isAgg371
  z63 := Tryz.sizeOf371
  v63 := Tryz.zeroValue371
  t64 := Tryz.underlying372
  a64 := Tryz.isAgg372
  z64 := Tryz.sizeOf372
  v64 := Tryz.zeroValue372 }
end Go.Proofs
namespace Go.Proofs.YtngoebbmgpdeiaaGreatDoor
open Go.RowKit Go.Shelf Go.MuLone
inductive Tg
  | no
  | desk
  | tab
  | chm
  | lck
  | app
  | old (k : Int)
  | now (k : Int)
structure Dm where
  t : Tt
  bm : Nat
  ch : List (Int × Rr × Rr)
  pA : Option Addr
  pn : Nat
  pc : Nat
  pr : List Rr
  m1 : Nat
  m2 : Nat
  m3 : Nat
  bl : Nat
  lk : List Int
  τ : Nat → Tg
def chV (o n : Rr) : Value := .agg #[.bool o.g, .slice o.A o.n o.c, .bool n.g, .slice n.A n.n n.c]
def chK (l : List (Int × Rr × Rr)) : List (Int × Value) := l.map (fun e => (e.1, chV e.2.1 e.2.2))
def lkK (l : List Int) : List (Int × Value) := l.map (fun k => (k, .int .i64 0))
def deskC (s p mode at_ : Int) (M : Dm) : List Value :=
  [.int .i32 s, .int .u32 0, .int .i64 p, .slice M.t.A M.t.n M.t.c, .slice M.t.B M.t.m M.t.d, .int .i64 mode, .int .i64 at_, .map (some M.bm), .slice M.pA M.pn M.pc,
   .int .i64 0, .int .i64 0, .map (some M.m1), .slice none 0 0, .int .i64 0, .int .i64 0, .map (some M.m2), .slice none 0 0, .int .i64 0, .int .i64 0, .map (some M.m3), .slice none 0 0, .map (some M.bl)]
def apF (M : Dm) (k : Nat) : Prop := (Value.slice M.pA M.pn M.pc).ownBlock = some k ∨ ∃ i, i < M.pr.length ∧ rb (rrth M.pr i) = k
structure DeskI (w : World) (lo b : Nat) (s p : Int) (fs : List Fd) (rs vb ra : List Rc) (mode at_ : Int) (M : Dm) : Prop where
  bk : Bk w b (deskC s p mode at_ M) 93
  ow : OwTt w lo fs.length fs rs M.t
  cm : IsMap keyI w M.bm (chK M.ch)
  lm : IsMap keyI w M.bl (lkK M.lk)
  ap : OwR w lo fs.length (.slice M.pA M.pn M.pc) M.pr ra ra.length
  pl : M.pr.length = ra.length ∧ M.pn = ra.length
  cv : ∀ e ∈ M.ch, ∃ i : Nat, i < rs.length ∧ e.1 = (i : Int) + 1 ∧ OwV w lo fs.length e.2.1 (rth rs i) ∧ OwV w lo fs.length e.2.2 (rth vb i)
  un : ∀ i : Nat, i < rs.length → (∀ e ∈ M.ch, e.1 ≠ (i : Int) + 1) → rth vb i = rth rs i
  len : vb.length = rs.length
  td : M.τ b = .desk
  tt : ∀ k, M.t.F k → M.τ k = .tab
  tc : M.τ M.bm = .chm
  tl : M.τ M.bl = .lck
  ta : ∀ k, apF M k → M.τ k = .app
  tv : ∀ e ∈ M.ch, M.τ (rb e.2.1) = .old e.1 ∧ M.τ (rb e.2.2) = .now e.1
  bd : ∀ k, M.τ k ≠ .no → lo ≤ k ∧ k < w.heap.size
def DeskF (M : Dm) (k : Nat) : Prop := M.τ k ≠ .no
def DeskTo (w w' : World) (lo b : Nat) (p : Int) (fs : List Fd) (rs vb ra : List Rc) (mode at_ : Int) (M : Dm) : Prop :=
  ∃ M', DeskI w' lo b 0 p fs rs vb ra mode at_ M' ∧ Mv w w' (DeskF M) ∧ ∀ k, DeskF M' k → DeskF M k ∨ w.heap.size ≤ k
section
variable {w w' : World} {lo b : Nat} {s p : Int} {fs : List Fd} {rs vb ra : List Rc} {mode at_ : Int} {M : Dm}
theorem DeskI.keep (h : DeskI w lo b s p fs rs vb ra mode at_ M) (hk : ∀ k, DeskF M k → w'.heap[k]? = w.heap[k]?) (hs : w.heap.size ≤ w'.heap.size) : DeskI w' lo b s p fs rs vb ra mode at_ M := by
  have nt : ∀ {k : Nat} {g : Tg}, M.τ k = g → g ≠ .no → DeskF M k := fun e hg => by unfold DeskF; rw [e]; exact hg
  refine ⟨h.bk.keep (hk b (nt h.td (by simp))), h.ow.keep (fun k q => hk k (nt (h.tt k q) (by simp))), h.cm.keep (hk _ (nt h.tc (by simp))), h.lm.keep (hk _ (nt h.tl (by simp))),
    h.ap.keep (fun g hg => hk g (nt (h.ta g (.inl hg)) (by simp))) (fun i hi => hk _ (nt (h.ta _ (.inr ⟨i, by have := h.pl.1; omega, rfl⟩)) (by simp))), h.pl, fun e he => ?_, h.un, h.len, h.td, h.tt, h.tc, h.tl, h.ta, h.tv,
    fun k q => ⟨(h.bd k q).1, Nat.lt_of_lt_of_le (h.bd k q).2 hs⟩⟩
  obtain ⟨i, h1, h2, h3, h4⟩ := h.cv e he
  exact ⟨i, h1, h2, h3.keep (hk _ (nt (h.tv e he).1 (by simp))), h4.keep (hk _ (nt (h.tv e he).2 (by simp)))⟩
theorem DeskI.ext (h : DeskI w lo b s p fs rs vb ra mode at_ M) (hx : Ext w w') : DeskI w' lo b s p fs rs vb ra mode at_ M := h.keep (fun k q => hx.block (h.bd k q).2) hx.size
theorem DeskI.fb (h : DeskI w lo b s p fs rs vb ra mode at_ M) : DeskF M b := by unfold DeskF; rw [h.td]; simp
theorem DeskI.turn {s' mode' at' : Int} {o : Nat} {u : Value} (h : DeskI w lo b s p fs rs vb ra mode at_ M) (e : (deskC s p mode at_ M).set o u = deskC s' p mode' at' M) : DeskI (w.setCell ⟨b, o, none⟩ u) lo b s' p fs rs vb ra mode' at' M := by
  have hk : ∀ k, k ≠ b → (w.setCell ⟨b, o, none⟩ u).heap[k]? = w.heap[k]? := (setCell_at w b o u).2
  have ne : ∀ {k : Nat} {g : Tg}, M.τ k = g → g ≠ .desk → k ≠ b := fun e1 hg e2 => hg (by rw [← e1, e2, h.td])
  refine ⟨by rw [← e]; exact h.bk.set o u, h.ow.keep (fun k q => hk k (ne (h.tt k q) (by simp))), h.cm.keep (hk _ (ne h.tc (by simp))), h.lm.keep (hk _ (ne h.tl (by simp))),
    h.ap.keep (fun g hg => hk g (ne (h.ta g (.inl hg)) (by simp))) (fun i hi => hk _ (ne (h.ta _ (.inr ⟨i, by have := h.pl.1; omega, rfl⟩)) (by simp))), h.pl, fun e he => ?_, h.un, h.len, h.td, h.tt, h.tc, h.tl, h.ta, h.tv,
    fun k q => ⟨(h.bd k q).1, by rw [(setCell_at _ _ _ _).1]; exact (h.bd k q).2⟩⟩
  obtain ⟨i, h1, h2, h3, h4⟩ := h.cv e he
  exact ⟨i, h1, h2, h3.keep (hk _ (ne (h.tv e he).1 (by simp))), h4.keep (hk _ (ne (h.tv e he).2 (by simp)))⟩
theorem DeskI.lock {s' : Int} (h : DeskI w lo b s p fs rs vb ra mode at_ M) : DeskI (w.setCell ⟨b, 0, none⟩ (.int .i32 s')) lo b s' p fs rs vb ra mode at_ M := h.turn rfl
theorem DeskI.c (h : DeskI w lo b s p fs rs vb ra mode at_ M) : w.cell? ⟨b, 0, none⟩ = some (.int .i32 s) ∧ w.cell? ⟨b, 2, none⟩ = some (.int .i64 p) ∧ w.cell? ⟨b, 3, none⟩ = some (.slice M.t.A fs.length M.t.c) ∧ w.cell? ⟨b, 4, none⟩ = some (.slice M.t.B rs.length M.t.d) ∧
    w.cell? ⟨b, 5, none⟩ = some (.int .i64 mode) ∧ w.cell? ⟨b, 6, none⟩ = some (.int .i64 at_) ∧ w.cell? ⟨b, 7, none⟩ = some (.map (some M.bm)) ∧ w.cell? ⟨b, 8, none⟩ = some (.slice M.pA ra.length M.pc) ∧ w.cell? ⟨b, 21, none⟩ = some (.map (some M.bl)) :=
  ⟨h.bk.at rfl, h.bk.at rfl, by rw [← h.ow.2.2.2.2.1]; exact h.bk.at rfl, by rw [← h.ow.2.2.2.1]; exact h.bk.at rfl, h.bk.at rfl, h.bk.at rfl, h.bk.at rfl, by rw [← h.pl.2]; exact h.bk.at rfl, h.bk.at rfl⟩
theorem chK_len (l : List (Int × Rr × Rr)) : (chK l).length = l.length := by simp [chK]
theorem DeskTo.of {rs0 vb0 ra0 : List Rc} {mode0 at0 : Int} (h : DeskI w' lo b 0 p fs rs vb ra mode at_ M) (hm : Mv w w' (DeskF M)) : DeskTo w w' lo b p fs rs vb ra mode at_ M := ⟨M, h, hm, fun k hk => .inl hk⟩
end
open Go.RowKit Go.Shelf Go.MuLone
section
variable {lo b : Nat} {s p : Int} {fs : List Fd} {rs vb ra : List Rc} {mode at_ : Int} {M : Dm}
theorem enter_any (b : Nat) (w : World) (c0 : w.cell? ⟨b, 0, none⟩ = some (.int .i32 0)) (f0 : w.frozen? ⟨b, 0, none⟩ = false) :
    Calls Tryz.prog 34 #[.pointer (some ⟨b, 0, none⟩), .int .i64 0] w fun e w' => e = .returned (.tuple #[.pointer (some ⟨b, 5, none⟩), .func (.func 57) #[.pointer (some ⟨b, 0, none⟩)] #[], .int .i64 0]) ∧ Ext (w.setCell ⟨b, 0, none⟩ (.int .i32 1)) w' := by
  go_enter Tryz.func34, Tryz.ntmps34
  go_wp2_with (go_at_call 69; refine (lock_free muLib ⟨b, 0, none⟩ _ c0 f0).mono ?_; rintro e w2 ⟨rfl, rfl⟩)
  go_quiet (fail)
  go_wp2
  exact bodyPost_ret (v := .tuple #[.pointer (some ⟨b, 5, none⟩), .func (.func 57) #[.pointer (some ⟨b, 0, none⟩)] #[], .int .i64 0]) (by simp [results, Tryz.results34, go_sem]) rfl ⟨rfl, (Ext.refl _).drewN_right _⟩
theorem isEmpty_any (w : World) (H : DeskI w lo b s p fs rs vb ra mode at_ M) : Calls Tryz.prog 35 #[.pointer (some ⟨b, 5, none⟩)] w (Give (.bool (decide (M.ch.length = 0) && decide (ra.length = 0))) w) := by
  obtain ⟨a0, a2, a3, a4, a5, a6, a7, a8, a21⟩ := H.c
  have hl := len_run (ty := 3) H.cm (t := 88) Tryz.underlying88
  rw [chK_len] at hl
  clear H
  have e1 : ((M.ch.length : Int) == 0) = decide (M.ch.length = 0) := by by_cases h : M.ch.length = 0 <;> simp [h] <;> omega
  have e2 : ((ra.length : Int) == 0) = decide (ra.length = 0) := by by_cases h : ra.length = 0 <;> simp [h] <;> omega
  rcases Bool.eq_false_or_eq_true (decide (M.ch.length = 0)) with q1 | q1 <;> rcases Bool.eq_false_or_eq_true (decide (ra.length = 0)) with q2 | q2
  all_goals rw [q1] at e1 ⊢
  all_goals rw [q2] at e2 ⊢
  all_goals clear q1 q2
  all_goals go_enter Tryz.func35, Tryz.ntmps35
  all_goals go_wp2
  all_goals go_ret
  all_goals exact ⟨rfl, Ext.refl _⟩
theorem isRows_any (w : World) (H : DeskI w lo b s p fs rs vb ra mode at_ M) : Calls Tryz.prog 99 #[.pointer (some ⟨b, 5, none⟩)] w (Give (.bool ((mode == 1) || (mode == 2))) w) := by
  obtain ⟨a0, a2, a3, a4, a5, a6, a7, a8, a21⟩ := H.c
  clear H
  rcases Bool.eq_false_or_eq_true (mode == 1) with q1 | q1 <;> rcases Bool.eq_false_or_eq_true (mode == 2) with q2 | q2
  all_goals rw [q1, q2]
  all_goals go_enter Tryz.func99, Tryz.ntmps99
  all_goals go_wp2
  all_goals go_ret
  all_goals exact ⟨rfl, Ext.refl _⟩
end
open Go.RowKit Go.Shelf Go.MuLone
section
variable {lo b : Nat} {p : Int} {fs : List Fd} {rs vb ra : List Rc} {mode at_ : Int} {M : Dm}
theorem Mode_bad (m : Int) (w : World) (H : DeskI w lo b 0 p fs rs vb ra mode at_ M) (hm : m < 0 ∨ 4 < m) : Calls Tryz.prog 9 #[.pointer (some ⟨b, 0, none⟩), .int .i64 0, .int .i64 m] w fun e w' =>
    e = .returned (.int .i64 1) ∧ DeskTo w w' lo b p fs rs vb ra mode at_ M := by
  have hq := hid (enter_any b w (H.bk.at rfl) (H.bk.free 0))
  have H1 := hid (H.lock (s' := 1))
  have m1 := hid ((Mv.refl (w := w) (F := DeskF M)).set (.inl H.fb) 0 (.int .i32 1))
  have hfb := hid H.fb
  clear H
  go_enter_defers Tryz.func9, Tryz.ntmps9
  go_wp2_with fail
  refine hq.out.mono ?_
  rintro e w2 ⟨rfl, hx2⟩
  have H2 := hid (H1.out.ext hx2)
  have m2 := hid (m1.out.ext hx2)
  clear hq hx2 H1 m1
  have c0 := hid (H2.out.bk.at (i := 0) rfl)
  have g0 := hid (H2.out.bk.free 0)
  have hres : Hid (DeskTo w (w2.setCell ⟨b, 0, none⟩ (.int .i32 0)) lo b p fs rs vb ra mode at_ M) := hid ⟨M, H2.out.lock, m2.out.set (.inl hfb.out) 0 _, fun k hk => .inl hk⟩
  clear H2 m2
  by_cases hm1 : m < 0
  · have hm2 : ¬ 4 < m := by omega
    clear hm
    go_wp2
    refine leaves_cons (f := 57) (args := #[.pointer (some ⟨b, 0, none⟩)]) (by simp) (by simp [go_sem]) ?_
    refine (unlock_deferred muLib ⟨b, 0, none⟩ .returning _ c0.out g0.out).mono ?_
    rintro e u' w'' ⟨rfl, rfl, rfl⟩
    exact ⟨_, results_tmp rfl _ _ _, rfl, hres.out⟩
  · have hm2 : 4 < m := by omega
    clear hm
    go_wp2
    refine leaves_cons (f := 57) (args := #[.pointer (some ⟨b, 0, none⟩)]) (by simp) (by simp [go_sem]) ?_
    refine (unlock_deferred muLib ⟨b, 0, none⟩ .returning _ c0.out g0.out).mono ?_
    rintro e u' w'' ⟨rfl, rfl, rfl⟩
    exact ⟨_, results_tmp rfl _ _ _, rfl, hres.out⟩
theorem Mode_ok (m : Int) (w : World) (H : DeskI w lo b 0 p fs rs vb ra mode at_ M) (he : M.ch.length = 0 ∧ ra.length = 0) (hm : ¬ (m < 0 ∨ 4 < m)) : Calls Tryz.prog 9 #[.pointer (some ⟨b, 0, none⟩), .int .i64 0, .int .i64 m] w fun e w' =>
    e = .returned (.int .i64 0) ∧ DeskI w' lo b 0 p fs rs vb ra m at_ M ∧ Mv w w' (DeskF M) := by
  have hq := hid (enter_any b w (H.bk.at rfl) (H.bk.free 0))
  have H1 := hid (H.lock (s' := 1))
  have m1 := hid ((Mv.refl (w := w) (F := DeskF M)).set (.inl H.fb) 0 (.int .i32 1))
  have hfb := hid H.fb
  clear H
  go_enter_defers Tryz.func9, Tryz.ntmps9
  go_wp2_with fail
  refine hq.out.mono ?_
  rintro e w2 ⟨rfl, hx2⟩
  have H2 := hid (H1.out.ext hx2)
  have m2 := hid (m1.out.ext hx2)
  clear hq hx2 H1 m1
  have hE := hid (isEmpty_any w2 H2.out)
  rw [he.1, he.2] at hE
  have hm1 : ¬ m < 0 := fun h => hm (.inl h)
  have hm2 : ¬ 4 < m := fun h => hm (.inr h)
  clear hm he
  go_wp2_with fail
  refine hE.out.mono ?_
  rintro e w3 ⟨rfl, hx3⟩
  have H3 := hid (H2.out.ext hx3)
  have m3 := hid (m2.out.ext hx3)
  clear hE hx3 H2 m2
  obtain ⟨a0, a2, a3, a4, a5, a6, a7, a8, a21⟩ := H3.out.c
  have z5 := H3.out.bk.free 5
  have H4 : Hid (DeskI (w3.setCell ⟨b, 5, none⟩ (.int .i64 m)) lo b 1 p fs rs vb ra m at_ M) := hid (H3.out.turn rfl)
  have c0 := hid (H4.out.bk.at (i := 0) rfl)
  have g0 := hid (H4.out.bk.free 0)
  have hres : Hid (DeskI ((w3.setCell ⟨b, 5, none⟩ (.int .i64 m)).setCell ⟨b, 0, none⟩ (.int .i32 0)) lo b 0 p fs rs vb ra m at_ M ∧ Mv w ((w3.setCell ⟨b, 5, none⟩ (.int .i64 m)).setCell ⟨b, 0, none⟩ (.int .i32 0)) (DeskF M)) := hid ⟨H4.out.lock, (m3.out.set (.inl hfb.out) 5 _).set (.inl hfb.out) 0 _⟩
  clear H3 m3 H4
  go_wp2
  refine leaves_cons (f := 57) (args := #[.pointer (some ⟨b, 0, none⟩)]) (by simp) (by simp [go_sem]) ?_
  refine (unlock_deferred muLib ⟨b, 0, none⟩ .returning _ c0.out g0.out).mono ?_
  rintro e u' w'' ⟨rfl, rfl, rfl⟩
  exact ⟨_, results_tmp rfl _ _ _, rfl, hres.out⟩
end
open Go.RowKit Go.Shelf Go.MuLone
def chZ : Value := .agg #[.bool false, .slice none 0 0, .bool false, .slice none 0 0]
theorem zero156 (w : World) : (zeroValue 156).run Tryz.prog w = .ok chZ w := by kernel_rfl
theorem lk_ch {l : List (Int × Rr × Rr)} {k : Int} : (∃ e ∈ l, e.1 = k ∧ lk (chK l) k = some (chV e.2.1 e.2.2)) ∨ ((∀ e ∈ l, e.1 ≠ k) ∧ lk (chK l) k = none) := by
  rcases hl : lk (chK l) k with _ | v
  · refine .inr ⟨fun e he h => ?_, rfl⟩
    exact lk_none.1 hl (by rw [← h]; exact List.mem_map.2 ⟨_, List.mem_map.2 ⟨e, he, rfl⟩, rfl⟩)
  · have hm := lk_mem hl
    obtain ⟨e, he, h⟩ := List.mem_map.1 hm
    refine .inl ⟨e, he, (Prod.mk.inj h).1, ?_⟩
    rw [← (Prod.mk.inj h).2]
theorem look88 {w : World} {bm : Nat} {l : List (Int × Rr × Rr)} (h : IsMap keyI w bm (chK l)) (k : Int) : (∃ e ∈ l, e.1 = k ∧ ∀ ok, (Instr.lookup 88 (.map (some bm)) (.int .i64 k) ok).run Tryz.prog w = .ok (if ok then .tuple #[chV e.2.1 e.2.2, .bool true] else chV e.2.1 e.2.2) w) ∨
    ((∀ e ∈ l, e.1 ≠ k) ∧ ∀ ok, (Instr.lookup 88 (.map (some bm)) (.int .i64 k) ok).run Tryz.prog w = .ok (if ok then .tuple #[chZ, .bool false] else chZ) w) := by
  rcases lk_ch (l := l) (k := k) with ⟨e, he, e1, e2⟩ | ⟨e1, e2⟩
  · refine .inl ⟨e, he, e1, fun ok => ?_⟩
    have := h.look Tryz.underlying88 (zero156 w) k ok
    rw [e2] at this
    exact this
  · refine .inr ⟨e1, fun ok => ?_⟩
    have := h.look Tryz.underlying88 (zero156 w) k ok
    rw [e2] at this
    exact this
def SeenR (e : Ending) : Prop := ∃ r : Rr, e = .returned (.tuple #[.agg #[.bool r.g, .slice r.A r.n r.c], .bool true])
section
variable {lo b : Nat} {s p : Int} {fs : List Fd} {rs vb ra : List Rc} {mode at_ : Int} {M : Dm}
theorem seen_any (i : Nat) (w : World) (H : DeskI w lo b s p fs rs vb ra mode at_ M) (hi : i < rs.length) (hl : rs.length ≤ 300) : Calls Tryz.prog 58 #[.pointer (some ⟨b, 0, none⟩), .pointer (some ⟨b, 5, none⟩), .int .i64 ((i : Int) + 1)] w fun e w' =>
    SeenR e ∧ Ext w w' := by
  obtain ⟨w1, g, e1, h1, s1, k1, x1⟩ := newB w [.bool false, .slice none 0 0] 69
  have H1 := H.ext x1
  have hw := h1.out
  obtain ⟨a0, a2, a3, a4, a5, a6, a7, a8, a21⟩ := H1.c
  obtain ⟨gB, eB, hg1, hg2, r0, r1, hv⟩ := H1.ow.at_ hi
  rw [eB] at a4
  have hlk := look88 H1.cm ((i : Int) + 1)
  have i0 : ¬ ((i : Int) + 1 < 0) := by omega
  have i1 : ¬ ((i : Int) + 1 < 1) := by omega
  have i2 : ¬ ((rs.length : Int) < (i : Int) + 1) := by omega
  have i3 := IntWalk.i64_in ((i : Int) + 1 - 1) (by omega)
  have i4 := IntWalk.i64_in (i : Int) (by omega)
  have i5 : 0 ≤ (i : Int) ∧ (i : Int) < rs.length := by omega
  have k1 := hid k1
  have x1 := hid x1
  have hgw : w.heap.size ≤ g := by omega
  clear H H1 hv
  go_enter Tryz.func58, Tryz.ntmps58
  go_upto_region 1 with fail
  simp only [e1.out, h1.out]
  clear e1 h1
  rcases hlk with ⟨e, he, hek, hlk⟩ | ⟨hek, hlk⟩
  · obtain ⟨ek, o, n⟩ := e
    unfold chV at hlk
    replace hlk := hlk true
    rw [if_pos rfl] at hlk
    obtain ⟨w2, g2, e2, h2, s2, k2, x2⟩ := newB w1 [.bool o.g, .slice o.A o.n o.c, .bool n.g, .slice n.A n.n n.c] 156
    have z0 := (k1.out.ext x2).free 0
    have z1 := (k1.out.ext x2).free 1
    obtain ⟨t0, t1⟩ := (k1.out.ext x2).c2
    have k3 := hid ((k1.out.ext x2).set2 (.bool n.g) (.slice n.A n.n n.c))
    have x3 := hid (ext_set2 (x1.out.trans x2) hgw (.bool n.g) (.slice n.A n.n n.c))
    obtain ⟨q0, q1, q2, q3⟩ := k2.c4
    go_upto_region 6 with fail
    simp only [e2.out, h2.out]
    clear e2 h2
    go_wp2
    obtain ⟨v0, v1⟩ := k3.out.c2
    exact bodyPost_ret (v := .tuple #[.agg #[.bool n.g, .slice n.A n.n n.c], .bool true]) (by simp [results, Tryz.results58, go_sem, v0, v1]) rfl ⟨⟨n, rfl⟩, x3.out⟩
  · replace hlk := hlk true
    unfold chZ at hlk
    rw [if_pos rfl] at hlk
    obtain ⟨w2, g2, e2, h2, s2, k2, x2⟩ := newB w1 [.bool false, .slice none 0 0, .bool false, .slice none 0 0] 156
    have z0 := (k1.out.ext x2).free 0
    have z1 := (k1.out.ext x2).free 1
    obtain ⟨t0, t1⟩ := (k1.out.ext x2).c2
    have k3 := hid ((k1.out.ext x2).set2 (.bool (rth rs i).gone) (.slice (rrth M.t.rr i).A fs.length (rrth M.t.rr i).c))
    have x3 := hid (ext_set2 (x1.out.trans x2) hgw (.bool (rth rs i).gone) (.slice (rrth M.t.rr i).A fs.length (rrth M.t.rr i).c))
    have a4 := x2.cell a4
    have r0 := x2.cell r0
    have r1 := x2.cell r1
    go_upto_region 6 with fail
    simp only [e2.out, h2.out]
    clear e2 h2
    go_wp2
    obtain ⟨v0, v1⟩ := k3.out.c2
    exact bodyPost_ret (v := .tuple #[.agg #[.bool (rth rs i).gone, .slice (rrth M.t.rr i).A fs.length (rrth M.t.rr i).c], .bool true]) (by simp [results, Tryz.results58, go_sem, v0, v1]) rfl ⟨⟨⟨(rth rs i).gone, (rrth M.t.rr i).A, fs.length, (rrth M.t.rr i).c⟩, rfl⟩, x3.out⟩
end
end Go.Proofs.YtngoebbmgpdeiaaGreatDoor
