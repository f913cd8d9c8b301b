/-
  '==' at values and fields; whether a field can have a value; whether something is a table; Copies of records and of tables; Copies of tables; Whether something is a table; slices.Equal of fields and of values; which records differ; a blank record.
-/
import Derived.Test.YtngoebbmgpdeiaaGreatDoorQ2
import Derived.Test.YtngoebbmgpdeiaaGreatDoorQ4
import Derived.Laws.StructEq
import Derived.Laws.OwnMore
set_option maxRecDepth 100000
set_option maxHeartbeats 40000000
set_option linter.unusedVariables false
set_option linter.unusedSimpArgs false
namespace Go.Proofs.YtngoebbmgpdeiaaGreatDoor
open Go.RowKit Go.Shelf
theorem copied_any (g : Bool) (A : Option Addr) (n c : Nat) (l : List Vl) (w : World) (hl : RdV w A n c l) (hn : n ≤ 1000) : Calls Tryz.prog 66 #[.agg #[.bool g, .slice A n c]] w fun e w' =>
    ∃ B d, e = .returned (.agg #[.bool g, .slice B n d]) ∧ w'.ownsRow w.heap.size 66 3 (.slice B n d) n (vs l) ∧ Ext w w' := by
  have hR := R2.new w g A n c
  have y2 := Ext.new (w.alloc (.cells #[.bool g, .slice A n c] 69)) (.cells #[.bool false, .slice none 0 0] 69)
  have hG := HB.new (w.alloc (.cells #[.bool g, .slice A n c] 69)) [.bool false, .slice none 0 0] 69
  replace hR := hid (hR.ext y2)
  have hx := hid ((Ext.new w (.cells #[.bool g, .slice A n c] 69)).trans y2)
  simp only [World.size_alloc] at hG
  clear y2
  go_enter Tryz.func66, Tryz.ntmps66
  go_upto_region 1 with fail
  try simp only [World.size_alloc]
  generalize (w.alloc (.cells #[.bool g, .slice A n c] 69)).alloc (.cells #[.bool false, .slice none 0 0] 69) = w1 at *
  obtain ⟨b, hb0⟩ : ∃ b, b = w.heap.size := ⟨_, rfl⟩
  obtain ⟨h, hd0⟩ : ∃ h, h = b + 1 := ⟨_, rfl⟩
  rw [← hb0] at hR hG
  rw [← hd0] at hG
  simp only [← hb0]
  simp only [← hd0]
  have hgw : w.heap.size ≤ h := by omega
  clear hb0 hd0
  have hcl := hid (fun w' (hx' : Ext w1 w') => clone65 A n c (vs l) w' ((hl.ext hx.out).ext hx') (vs_one l) (by omega))
  have xa := (Ext.refl w1).drew_right
  refine region_J (fun w' => Ext w1 w') 6 (by kernel_rfl) ?_
  generalize w1.drew = da at xa ⊢
  replace hG := hG.ext xa
  refine JW 0 (v := ?va1) rfl (by kernel_rfl) rfl ?ya1 xa ?ra1
  case ya1 => (intro w hw; (go_simp; with_reducible rfl))
  simp only [Act.put, lyA, lyB, lyC, lyD, lyE, lyF]
  refine JW 1 (v := ?va2) rfl (by kernel_rfl) rfl ?ya2 xa ?ra2
  case ya2 => (intro w hw; obtain ⟨r0, r1, hb⟩ := hR.out.ext hw; (go_simp; with_reducible rfl))
  simp only [Act.put, lyA, lyB, lyC, lyD, lyE, lyF]
  refine JW 2 (v := ?va3) rfl (by kernel_rfl) rfl ?ya3 xa ?ra3
  case ya3 => (intro w hw; (go_simp; with_reducible rfl))
  simp only [Act.put, lyA, lyB, lyC, lyD, lyE, lyF]
  refine JW 3 (v := ?va4) rfl (by kernel_rfl) rfl ?ya4 xa ?ra4
  case ya4 => (intro w hw; obtain ⟨r0, r1, hb⟩ := hR.out.ext hw; (go_simp; with_reducible rfl))
  simp only [Act.put, lyA, lyB, lyC, lyD, lyE, lyF]
  refine J_one 4 rfl (by kernel_rfl) (fun K hK => ?_)
  have hGo := hid hG
  go_simp
  refine (hcl.out _ xa).mono ?_
  rintro e wa5 ⟨B, d, rfl, oa5, hxa5⟩
  have loa5 := (hx.out.trans xa).size
  refine hK _ _ ⟨fun _ => ((xa).trans hxa5), ?_⟩
  clear hK K
  try simp only [Act.put, lyA, lyB, lyC, lyD, lyE, lyF]
  replace hG := hG.ext hxa5
  have xa5 := ((xa).trans hxa5)
  refine JW 5 (v := ?va6) rfl (by kernel_rfl) rfl ?ya6 xa5 ?ra6
  case ya6 => (intro w hw; (go_simp; with_reducible rfl))
  simp only [Act.put, lyA, lyB, lyC, lyD, lyE, lyF]
  refine J_one 6 rfl (by kernel_rfl) (fun K hK => ?_)
  refine step_store0 rfl 69 _ _ rfl h [.bool g, .slice B n d] rfl rfl hG (by kernel_rfl) (by first | rfl | simp [Value.oneCell']) ?_
  obtain ⟨wa7, ea7, ha7, ca7, hxa7, -, hka7⟩ := store_at (u := w) [.bool g, .slice B n d] hG (hx.out.trans xa5) hgw
  rw [ea7]
  clear ea7
  refine hK _ _ ⟨fun h => absurd rfl h, ?_⟩
  clear hK K
  try simp only [Act.put, lyA, lyB, lyC, lyD, lyE, lyF]
  refine J_done (by kernel_rfl) (OnlyOn.normal ?_)
  have k0 := ca7 0 _ rfl
  have k1 := ca7 1 _ rfl
  have ho := hid (own_baseK oa5 (loa5))
  have hne := hid (fun bb (hbb : (Value.slice B n d).ownBlock = some bb) => Nat.ne_of_gt (Nat.lt_of_lt_of_le (HB.lt hGo.out) (((oa5.lt bb hbb).1))))
  have ho2 := hid (own_same ho.out (w' := wa7) (fun bb hbb => hka7 bb (hne.out bb hbb)))
  have hx2 := hid hxa7
  clear ho hne
  go_wp2
  exact bodyPost_ret (v := .agg #[.bool g, .slice B n d]) (by simp [results, Tryz.results66, go_sem, k0, k1]) rfl ⟨B, d, rfl, ho2.out, hx2.out⟩
theorem own_any (g : Bool) (A : Option Addr) (n c : Nat) (l : List Vl) (w : World) (hl : RdV w A n c l) (hn : n ≤ 1000) : Calls Tryz.prog 86 #[.agg #[.bool g, .slice A n c]] w fun e w' =>
    ∃ B d, e = .returned (.agg #[.bool g, .slice B n d]) ∧ w'.ownsRow w.heap.size 66 3 (.slice B n d) n (vs l) ∧ Ext w w' := by
  have hR := R2.new w g A n c
  have y2 := Ext.new (w.alloc (.cells #[.bool g, .slice A n c] 69)) (.cells #[.bool false, .slice none 0 0] 69)
  have hG := HB.new (w.alloc (.cells #[.bool g, .slice A n c] 69)) [.bool false, .slice none 0 0] 69
  replace hR := hid (hR.ext y2)
  have hx := hid ((Ext.new w (.cells #[.bool g, .slice A n c] 69)).trans y2)
  simp only [World.size_alloc] at hG
  clear y2
  go_enter Tryz.func86, Tryz.ntmps86
  go_upto_region 1 with fail
  try simp only [World.size_alloc]
  generalize (w.alloc (.cells #[.bool g, .slice A n c] 69)).alloc (.cells #[.bool false, .slice none 0 0] 69) = w1 at *
  obtain ⟨b, hb0⟩ : ∃ b, b = w.heap.size := ⟨_, rfl⟩
  obtain ⟨h, hd0⟩ : ∃ h, h = b + 1 := ⟨_, rfl⟩
  rw [← hb0] at hR hG
  rw [← hd0] at hG
  simp only [← hb0]
  simp only [← hd0]
  have hgw : w.heap.size ≤ h := by omega
  clear hb0 hd0
  have hcl := hid (fun w' (hx' : Ext w1 w') => clone65 A n c (vs l) w' ((hl.ext hx.out).ext hx') (vs_one l) (by omega))
  have xb := (Ext.refl w1).drew_right
  refine region_J (fun w' => Ext w1 w') 6 (by kernel_rfl) ?_
  generalize w1.drew = db at xb ⊢
  replace hG := hG.ext xb
  refine JW 0 (v := ?vb1) rfl (by kernel_rfl) rfl ?yb1 xb ?rb1
  case yb1 => (intro w hw; (go_simp; with_reducible rfl))
  simp only [Act.put, lyA, lyB, lyC, lyD, lyE, lyF]
  refine JW 1 (v := ?vb2) rfl (by kernel_rfl) rfl ?yb2 xb ?rb2
  case yb2 => (intro w hw; obtain ⟨r0, r1, hb⟩ := hR.out.ext hw; (go_simp; with_reducible rfl))
  simp only [Act.put, lyA, lyB, lyC, lyD, lyE, lyF]
  refine JW 2 (v := ?vb3) rfl (by kernel_rfl) rfl ?yb3 xb ?rb3
  case yb3 => (intro w hw; (go_simp; with_reducible rfl))
  simp only [Act.put, lyA, lyB, lyC, lyD, lyE, lyF]
  refine JW 3 (v := ?vb4) rfl (by kernel_rfl) rfl ?yb4 xb ?rb4
  case yb4 => (intro w hw; obtain ⟨r0, r1, hb⟩ := hR.out.ext hw; (go_simp; with_reducible rfl))
  simp only [Act.put, lyA, lyB, lyC, lyD, lyE, lyF]
  refine J_one 4 rfl (by kernel_rfl) (fun K hK => ?_)
  have hGo := hid hG
  go_simp
  refine (hcl.out _ xb).mono ?_
  rintro e wb5 ⟨B, d, rfl, ob5, hxb5⟩
  have lob5 := (hx.out.trans xb).size
  refine hK _ _ ⟨fun _ => ((xb).trans hxb5), ?_⟩
  clear hK K
  try simp only [Act.put, lyA, lyB, lyC, lyD, lyE, lyF]
  replace hG := hG.ext hxb5
  have xb5 := ((xb).trans hxb5)
  refine JW 5 (v := ?vb6) rfl (by kernel_rfl) rfl ?yb6 xb5 ?rb6
  case yb6 => (intro w hw; (go_simp; with_reducible rfl))
  simp only [Act.put, lyA, lyB, lyC, lyD, lyE, lyF]
  refine J_one 6 rfl (by kernel_rfl) (fun K hK => ?_)
  refine step_store0 rfl 69 _ _ rfl h [.bool g, .slice B n d] rfl rfl hG (by kernel_rfl) (by first | rfl | simp [Value.oneCell']) ?_
  obtain ⟨wb7, eb7, hb7, cb7, hxb7, -, hkb7⟩ := store_at (u := w) [.bool g, .slice B n d] hG (hx.out.trans xb5) hgw
  rw [eb7]
  clear eb7
  refine hK _ _ ⟨fun h => absurd rfl h, ?_⟩
  clear hK K
  try simp only [Act.put, lyA, lyB, lyC, lyD, lyE, lyF]
  refine J_done (by kernel_rfl) (OnlyOn.normal ?_)
  have k0 := cb7 0 _ rfl
  have k1 := cb7 1 _ rfl
  have ho := hid (own_baseK ob5 (lob5))
  have hne := hid (fun bb (hbb : (Value.slice B n d).ownBlock = some bb) => Nat.ne_of_gt (Nat.lt_of_lt_of_le (HB.lt hGo.out) (((ob5.lt bb hbb).1))))
  have ho2 := hid (own_same ho.out (w' := wb7) (fun bb hbb => hkb7 bb (hne.out bb hbb)))
  have hx2 := hid hxb7
  clear ho hne
  go_wp2
  exact bodyPost_ret (v := .agg #[.bool g, .slice B n d]) (by simp [results, Tryz.results86, go_sem, k0, k1]) rfl ⟨B, d, rfl, ho2.out, hx2.out⟩
def Wid (m : Nat) (rs : List Rc) : Prop := ∀ i, i < rs.length → (rth rs i).v.length = m
theorem take_snoc {rs : List Rc} {k : Nat} (h : k < rs.length) : rs.take (k + 1) = rs.take k ++ [rth rs k] := by
  rw [List.take_succ_eq_append_getElem h, rth_get h]
theorem fresh_v {w : World} {lo m k b : Nat} {v : Value} {rr : List Rr} {rs : List Rc} (h : OwR w lo m v rr rs k) (hb : w.heap.size ≤ b) : v.ownBlock ≠ some b ∧ ∀ i, i < k → rb (rrth rr i) ≠ b :=
  ⟨fun e => by have := (h.1.lt b e).2; omega, fun i hi e => by have := (h.2.1 i hi).lt.2; omega⟩
theorem OwV.mk {w : World} {lo base m : Nat} {x : Rc} {B : Option Addr} {n d : Nat} (ho : w.ownsRow base 66 3 (.slice B n d) n (vs x.v)) (hn : n = m) (hm : 0 < m) (hlo : lo ≤ base) (hl : x.v.length = m) : OwV w lo m ⟨x.gone, B, m, d⟩ x ∧ base ≤ rb ⟨x.gone, B, m, d⟩ := by
  subst hn
  obtain ⟨b, rfl, h1, h2⟩ := own_blk ho hm
  exact ⟨⟨rfl, rfl, hl, b, rfl, own_baseK ho hlo⟩, h1⟩
theorem copiedAll_any (A : Option Addr) (n c m : Nat) (rs : List Rc) (w : World) (hr : RdR w A n c rs) (hm : 0 < m) (hm2 : m ≤ 100) (hw : Wid m rs) (hn : n ≤ 1000) : Calls Tryz.prog 31 #[.slice A n c] w fun e w' =>
    ∃ B d rr, e = .returned (.slice B n d) ∧ OwR w' w.heap.size m (.slice B n d) rr rs rs.length ∧ rr.length = rs.length ∧ Ext w w' := by
  obtain ⟨i0, hi, hz0, hz1, hz2⟩ := info_parts info69
  have hmx := hr.max
  have hlen := hid hr.len
  have hr := hid hr
  have hw := hid hw
  go_enter Tryz.func31, Tryz.ntmps31
  go_wp2_with fail
  go_loopw [3, 8] (fun v i wr => ∃ k : Nat, k ≤ n ∧ i = .int .i64 k ∧ (∃ B d, v = .slice B k d ∧ ∃ rr : List Rr, Hid (OwR wr w.heap.size m (.slice B k d) rr (rs.take k) (rs.take k).length) ∧ Hid (rr.length = k)) ∧ Hid (Ext w wr)) (fun _ i _ => n - (intOf i).toNat)
  case atStart => exact ⟨0, by omega, rfl, ⟨none, 0, rfl, [], OwR.nil _ _ _, rfl⟩, Ext.refl _⟩
  case round =>
    obtain ⟨k, hk, rfl, ⟨B, d, rfl, rr, hO, hrl⟩, hx⟩ := hrel
    by_cases hlt : k < n
    · obtain ⟨ad, C, nv, cv, rfl, r0, r1, hv⟩ := (hr.out.ext hx.out).at_ hlt
      have hkl : k < rs.length := by rw [hlen.out]; exact hlt
      have hxl := hw.out k hkl
      have hts := hid (take_snoc hkl)
      have htl : Hid ((rs.take k).length = k) := by unfold Hid; rw [List.length_take]; omega
      generalize rth rs k = x at *
      have hnv : nv = m := by rw [← hv.len, hxl]
      subst hnv
      have hx3 := hid (Ext.new wr (.cells #[.bool x.gone, .slice C nv cv] 69))
      have hR := R2.new wr x.gone C nv cv
      go_upto_region 5 with fail
      generalize wr.alloc (.cells #[.bool x.gone, .slice C nv cv] 69) = w3 at *
      generalize wr.heap.size = b3 at *
      replace hO := hid (hO.out.ext hx3.out)
      replace hx := hid (hx.out.trans hx3.out)
      have hcp := hid (copied_any x.gone C nv cv x.v w3 (hv.ext hx3.out) (by omega))
      obtain ⟨s0, s1, hb3⟩ := hR
      clear hx3 r0 r1 hv hkl
      go_wp2_with fail
      refine hcp.out.mono ?_
      rintro e w4 ⟨D, dd, rfl, ho4, hx4⟩
      have hsz := hx.out.size
      obtain ⟨hV, hVb⟩ := OwV.mk (lo := w.heap.size) ho4 rfl hm hsz hxl
      obtain ⟨f1, f2⟩ := fresh_v hO.out hVb
      have hO4 := hid (hO.out.ext hx4)
      have hb4 := hid (Nat.le_trans hsz hx4.size)
      have hk2 : (rrs rr).length = k * 2 := by rw [rrs_len, hrl.out]
      have hown := hO4.out.1
      rw [hrl.out] at hown
      replace hx := hid (hx.out.trans hx4)
      have hV := hid hV
      have f1 := hid f1
      have f2 := hid f2
      clear hcp s0 s1 hb3 ho4 hx4 hVb hO hsz hk2
      go_wp2_with (at_builtin; refine wpList_push _ rfl _ _ 23 rfl w.heap.size 69 i0 _ 2 32 Tryz.underlying23 hi hz0 hz1 hz2 rfl (by decide) _ _ _ rfl hown [.bool x.gone, .slice D nv dd] rfl rfl (rcl_one ⟨x.gone, D, nv, dd⟩) (by unfold maxLen; omega) (by omega) hb4.out ?_)
      intro g5 cap5 w5 ho5 hg5 hgb5
      have hO5 : Hid (OwR w5 w.heap.size nv (.slice (some ⟨g5, 0, none⟩) (k + 1) cap5) (rr ++ [⟨x.gone, D, nv, dd⟩]) (rs.take (k + 1)) (rs.take (k + 1)).length) := by
        unfold Hid
        rw [hts.out]
        exact hO4.out.push (by rw [hrl.out, htl.out]) hV.out f1.out (fun i hi => f2.out i hi) (by rw [hrl.out]; exact ho5) hg5 (by
          rcases hgb5 with h | h
          · exact .inl h.symm
          · exact .inr (fun g hg => by have e : g5 = g := Option.some.inj hg; omega))
      have hx5 : Hid (Ext w w5) := by
        refine ⟨hg5.os.trans hx.out.os, hg5.tape.trans hx.out.tape, hg5.output.trans hx.out.output, Nat.le_trans hx.out.size hg5.size, fun j hj => (hg5.block j (Nat.lt_of_lt_of_le hj hx.out.size) (fun e => ?_)).trans (hx.out.block hj)⟩
        have := (hown.lt j e.symm).1; omega
      have hrl5 : Hid ((rr ++ [(⟨x.gone, D, nv, dd⟩ : Rr)]).length = k + 1) := by unfold Hid; rw [List.length_append, hrl.out]; rfl
      clear hO4 hown ho5 hg5 hgb5 hV f1 f2 hb4 hts htl hrl hx
      go_wp2
      go_roundw
      case rel => exact ⟨k + 1, by omega, by go_num, ⟨_, _, rfl, _, hO5, hrl5⟩, hx5⟩
      case measure => simp [intOf]; omega
    · obtain rfl : k = n := by omega
      have ht : Hid (rs.take k = rs) := by unfold Hid; rw [List.take_of_length_le (by rw [hlen.out]; omega)]
      rw [ht.out] at hO
      have hrl2 := hid (hrl.out.trans hlen.out.symm)
      clear ht hrl
      go_wp2
      go_ret
      exact ⟨B, d, rr, rfl, hO.out, hrl2.out, hx.out⟩
open Go.RowKit Go.Shelf
def eqV (a b : Vl) : Bool := a.k == b.k && (a.n == b.n && a.s.toList == b.s.toList)
def eqF (a b : Fd) : Bool := a.nm.toList == b.nm.toList && (a.k == b.k && (a.wd == b.wd && a.nl == b.nl))
theorem eqV_iff {a b : Vl} : eqV a b = true ↔ a = b := by
  unfold eqV
  constructor
  · intro h
    simp only [Bool.and_eq_true, beq_iff_eq] at h
    exact Vl.ext' h.1 h.2.1 (Ky.str_ext h.2.2)
  · rintro rfl; simp
theorem eqF_iff {a b : Fd} : eqF a b = true ↔ a = b := by
  unfold eqF
  constructor
  · intro h
    simp only [Bool.and_eq_true, beq_iff_eq] at h
    cases a; cases b
    simp only at h
    obtain ⟨h1, h2, h3, h4⟩ := h
    rw [Ky.str_ext h1, h2, h3, h4]
  · rintro rfl; simp
theorem eq66 (a b : Vl) (w : World) : (binOp .eql 66 (vl a) (vl b)).run Tryz.prog w = .ok (.bool (eqV a b)) w := by
  have u3 := Tryz.underlying3
  have a3 := Tryz.isAgg3
  have z3 := Tryz.sizeOf3
  have u9 := Tryz.underlying9
  have a9 := Tryz.isAgg9
  have z9 := Tryz.sizeOf9
  have hS : Tryz.prog.underlying 66 = some (.struct (Tryz.prog.fieldsOf 66)) := by kernel_rfl
  have hp : Tryz.prog.stoodInHeld 66 = false := by kernel_rfl
  simp only [vl]
  rw [run_eql_struct, show (10000 : Nat) = 9999 + 1 from rfl, run_equalIn_agg w 9999 66 _ _ hS hp]
  simp only [Program.fieldsOf, Tryz.underlying66]
  go_simp
  unfold eqV
  by_cases h1 : a.k = b.k <;> by_cases h2 : a.n = b.n <;> by_cases h3 : a.s.toList = b.s.toList <;> simp [h1, h2, h3]
theorem ne66 (a b : Vl) (w : World) : (binOp .neq 66 (vl a) (vl b)).run Tryz.prog w = .ok (.bool (!eqV a b)) w := by
  have u3 := Tryz.underlying3
  have a3 := Tryz.isAgg3
  have z3 := Tryz.sizeOf3
  have u9 := Tryz.underlying9
  have a9 := Tryz.isAgg9
  have z9 := Tryz.sizeOf9
  have hS : Tryz.prog.underlying 66 = some (.struct (Tryz.prog.fieldsOf 66)) := by kernel_rfl
  have hp : Tryz.prog.stoodInHeld 66 = false := by kernel_rfl
  simp only [vl]
  rw [run_neq_struct, show (10000 : Nat) = 9999 + 1 from rfl, run_equalIn_agg w 9999 66 _ _ hS hp]
  simp only [Program.fieldsOf, Tryz.underlying66]
  go_simp
  unfold eqV
  by_cases h1 : a.k = b.k <;> by_cases h2 : a.n = b.n <;> by_cases h3 : a.s.toList = b.s.toList <;> simp [h1, h2, h3]
theorem ne64 (a b : Fd) (w : World) : (binOp .neq 64 (fd a) (fd b)).run Tryz.prog w = .ok (.bool (!eqF a b)) w := by
  have u3 := Tryz.underlying3
  have a3 := Tryz.isAgg3
  have z3 := Tryz.sizeOf3
  have u9 := Tryz.underlying9
  have a9 := Tryz.isAgg9
  have z9 := Tryz.sizeOf9
  have u4 := Tryz.underlying4
  have a4 := Tryz.isAgg4
  have z4 := Tryz.sizeOf4
  have hS : Tryz.prog.underlying 64 = some (.struct (Tryz.prog.fieldsOf 64)) := by kernel_rfl
  have hp : Tryz.prog.stoodInHeld 64 = false := by kernel_rfl
  simp only [fd]
  rw [run_neq_struct, show (10000 : Nat) = 9999 + 1 from rfl, run_equalIn_agg w 9999 64 _ _ hS hp]
  simp only [Program.fieldsOf, Tryz.underlying64]
  go_simp
  unfold eqF
  by_cases h1 : a.nm.toList = b.nm.toList <;> by_cases h2 : a.k = b.k <;> by_cases h3 : a.wd = b.wd <;> by_cases h4 : a.nl = b.nl <;> simp [h1, h2, h3, h4]
def holdsB (f : Fd) (p : Int) (x : Vl) : Bool := if x.k = 0 then f.nl && eqV x v0 else if Ky.valE x.k x.n x.s ≠ 0 then false else ((fitR f p x).2 == 0) && eqV (fitR f p x).1 x
theorem holds_any (f : Fd) (p : Int) (x : Vl) (w : World) : Calls Tryz.prog 64 #[fd f, .int .i64 p, vl x] w (Give (.bool (holdsB f p x)) w) := by
  have hF := F4.new w f
  have hV := V3.new (w.alloc (.cells #[.string f.nm, .int .i64 f.k, .int .i64 f.wd, .bool f.nl] 64)) x
  have y2 := Ext.new (w.alloc (.cells #[.string f.nm, .int .i64 f.k, .int .i64 f.wd, .bool f.nl] 64)) (.cells #[.int .i64 x.k, .int .i64 x.n, .string x.s] 66)
  replace hF := hid (hF.ext y2)
  have hx := hid ((Ext.new w (.cells #[.string f.nm, .int .i64 f.k, .int .i64 f.wd, .bool f.nl] 64)).trans y2)
  simp only [World.size_alloc] at hV
  clear y2
  have hH : Hid (holdsB f p x = if x.k = 0 then f.nl && eqV x v0 else if Ky.valE x.k x.n x.s ≠ 0 then false else ((fitR f p x).2 == 0) && eqV (fitR f p x).1 x) := rfl
  have q3 := hid (fun w => Ky.Validate_any x.k x.n x.s w)
  have q4 := hid (fun w => Fit_any f p x w)
  have e0 : ∀ w, (binOp .eql 66 (.agg #[.int .i64 x.k, .int .i64 x.n, .string x.s]) (.agg #[.int .i64 0, .int .i64 0, .string ⟨#[]⟩])).run Tryz.prog w = .ok (.bool (eqV x v0)) w := fun w => eq66 x v0 w
  have e1 := fun w => eq66 (fitR f p x).1 x w
  unfold GiveVE at q4
  generalize fitR f p x = R at *
  obtain ⟨y, E⟩ := R
  simp only at e1 q4 hH
  unfold vl at e1 q4
  unfold fd at q4
  unfold Ky.vV at q3
  unfold fd vl
  generalize eqV x v0 = B0 at *
  generalize eqV y x = B1 at *
  go_enter Tryz.func64, Tryz.ntmps64
  go_upto_region 1 with fail
  try simp only [World.size_alloc]
  generalize (w.alloc (.cells #[.string f.nm, .int .i64 f.k, .int .i64 f.wd, .bool f.nl] 64)).alloc (.cells #[.int .i64 x.k, .int .i64 x.n, .string x.s] 66) = w1 at *
  obtain ⟨b, hb0⟩ : ∃ b, b = w.heap.size := ⟨_, rfl⟩
  obtain ⟨d, hd0⟩ : ∃ d, d = b + 1 := ⟨_, rfl⟩
  rw [← hb0] at hF hV
  rw [← hd0] at hV
  simp only [← hb0]
  simp only [← hd0]
  clear hb0 hd0
  replace hV := hid hV
  obtain ⟨c0, c1, c2, c3, hb⟩ := hF.out
  obtain ⟨d0, d1, d2, hd⟩ := hV.out
  by_cases hk0 : x.k = 0
  · replace hH := hid (hH.out.trans (if_pos hk0))
    have k0 : (x.k == 0) = true := by rw [hk0]; rfl
    clear hk0 q3 q4 e1
    cases hnl : f.nl with
    | false =>
      rw [hnl] at c3 hH
      clear hnl
      go_wp2
      go_ret
      exact ⟨ret_bool (by rw [hH.out] <;> rfl), hx.out⟩
    | true =>
      rw [hnl] at c3 hH
      clear hnl
      go_wp2
      go_ret
      exact ⟨ret_bool (by rw [hH.out] <;> rfl), hx.out⟩
  · replace hH := hid (hH.out.trans (if_neg hk0))
    have k0 : (x.k == 0) = false := by rw [beq_eq_false_iff_ne]; exact hk0
    clear hk0 e0
    go_wp2_with fail
    refine (q3.out _).mono ?_
    rintro e w2 ⟨rfl, hx2⟩
    have hy := hid hx2
    clear hx2 c0 c1 c2 c3 hb d0 d1 d2 hd q3
    obtain ⟨c0, c1, c2, c3, hb⟩ := hF.out.ext hy.out
    obtain ⟨d0, d1, d2, hd⟩ := hV.out.ext hy.out
    by_cases hE : Ky.valE x.k x.n x.s = 0
    rotate_left
    · replace hH := hid (hH.out.trans (if_pos hE))
      have e2 : (Ky.valE x.k x.n x.s != 0) = true := by simp [hE]
      generalize Ky.valE x.k x.n x.s = V at *
      clear hE q4 e1
      go_wp2
      go_ret
      exact ⟨ret_bool (by rw [hH.out] <;> rfl), hx.out.trans hy.out⟩
    replace hH := hid (hH.out.trans (if_neg (fun h => h hE)))
    rw [hE]
    clear hE
    go_wp2_with fail
    refine (q4.out _).mono ?_
    rintro e w4 ⟨rfl, hx4⟩
    replace hy := hid (hy.out.trans hx4)
    clear hx4 c0 c1 c2 c3 hb d0 d1 d2 hd q4
    obtain ⟨c0, c1, c2, c3, hb⟩ := hF.out.ext hy.out
    obtain ⟨d0, d1, d2, hd⟩ := hV.out.ext hy.out
    by_cases hE : E = 0
    · have e2 : (E == 0) = true := by simp [hE]
      rw [e2] at hH
      subst hE
      clear e2
      go_wp2
      go_ret
      exact ⟨ret_bool (by rw [hH.out] <;> rfl), (hx.out.trans hy.out).alloc_right _⟩
    · have e2 : (E == 0) = false := by simp [hE]
      rw [e2] at hH
      clear hE e1
      go_wp2
      go_ret
      exact ⟨ret_bool (by rw [hH.out] <;> rfl), (hx.out.trans hy.out).alloc_right _⟩
open Go.RowKit Go.Shelf
def recB (fs : List Fd) (p : Int) (v : List Vl) (k : Nat) : Bool := (List.range k).all (fun i => holdsB (fth fs i) p (vth v i))
def recE (fs : List Fd) (p : Int) (r : Rc) : Int := if r.v.length ≠ fs.length then 10 else if recB fs p r.v fs.length then 0 else 1
def recsE (fs : List Fd) (p : Int) : List Rc → Int
  | [] => 0
  | r :: l => if recE fs p r = 0 then recsE fs p l else recE fs p r
def vtE (p : Int) (fs : List Fd) (rs : List Rc) : Int := if pgB p = false then 1 else if vfE fs ≠ 0 then vfE fs else if 300 < rs.length then 3 else recsE fs p rs
theorem recB_step (fs : List Fd) (p : Int) (v : List Vl) (k : Nat) : recB fs p v (k + 1) = (recB fs p v k && holdsB (fth fs k) p (vth v k)) := by
  unfold recB
  rw [List.range_succ, List.all_append]; simp
theorem recB_no {fs : List Fd} {p : Int} {v : List Vl} {k : Nat} (h : holdsB (fth fs k) p (vth v k) = false) : ∀ n, k < n → recB fs p v n = false
  | 0, hk => by omega
  | n + 1, hk => by
    rw [recB_step]
    rcases Nat.lt_or_eq_of_le (Nat.lt_succ_iff.1 hk) with h1 | h1
    · rw [recB_no h n h1]; rfl
    · rw [← h1, h]; simp
theorem recsE_step (fs : List Fd) (p : Int) (l : List Rc) {k : Nat} (h : k < l.length) : recsE fs p (l.drop k) = if recE fs p (rth l k) = 0 then recsE fs p (l.drop (k + 1)) else recE fs p (rth l k) := by
  rw [List.drop_eq_getElem_cons h, rth_get h]; rfl
def tb (p : Int) (A : Option Addr) (n c : Nat) (B : Option Addr) (m d : Nat) : Value := .agg #[.int .i64 p, .slice A n c, .slice B m d]
theorem Validate_any (p : Int) (A : Option Addr) (n c : Nat) (B : Option Addr) (m d : Nat) (fs : List Fd) (rs : List Rc) (w : World) (hf : RdF w A n c fs) (hr : RdR w B m d rs) :
    Calls Tryz.prog 28 #[tb p A n c B m d] w (Give (.int .i64 (vtE p fs rs)) w) := by
  have hmf := Rd.max hf
  have hmr := hr.max
  have hlf := hid hf.len
  have hlr := hid hr.len
  have hE : Hid (vtE p fs rs = if pgB p = false then 1 else if vfE fs ≠ 0 then vfE fs else if 300 < m then 3 else recsE fs p rs) := by unfold Hid vtE; rw [hlr.out]
  have q1 := hid (fun w => isPage_any p w)
  have q2 := hid (fun w' (hx : Ext w w') => ValidateFields_any A n c fs w' (hf.ext hx))
  have q3 := hid (fun f x w => holds_any f p x w)
  have hT := T3.new w p A n c B m d
  have hx := hid (Ext.new w (.cells #[.int .i64 p, .slice A n c, .slice B m d] 25))
  unfold tb
  unfold fd vl at q3
  go_enter Tryz.func28, Tryz.ntmps28
  go_upto_region 1 with fail
  generalize w.alloc (.cells #[.int .i64 p, .slice A n c, .slice B m d] 25) = w1 at *
  generalize w.heap.size = b at *
  have hT := hid hT
  replace hf := hid (hf.ext hx.out)
  replace hr := hid (hr.ext hx.out)
  have hy := hid (Ext.refl w1)
  obtain ⟨t0, t1, t2, hb⟩ := hT.out
  cases hP : pgB p with
  | false =>
    replace hE := hid (hE.out.trans (if_pos hP))
    rw [hP] at q1
    clear hP q2 q3
    go_wp2_with fail
    refine (q1.out _).mono ?_
    rintro e w2 ⟨rfl, rfl⟩
    go_wp2
    go_ret
    exact ⟨ret_int (by rw [hE.out]), hx.out⟩
  | true =>
    replace hE := hid (hE.out.trans (if_neg (by rw [hP]; simp)))
    rw [hP] at q1
    clear hP
    go_wp2_with fail
    refine (q1.out _).mono ?_
    rintro e w2 ⟨rfl, rfl⟩
    go_wp2_with fail
    refine (q2.out _ hx.out).mono ?_
    rintro e w2 ⟨rfl, hx2⟩
    have hy := hid hx2
    clear q1 q2 hx2 t0 t1 t2 hb
    obtain ⟨t0, t1, t2, hb⟩ := hT.out.ext hy.out
    by_cases hV : vfE fs = 0
    rotate_left
    · replace hE := hid (hE.out.trans (if_pos hV))
      have e1 : (vfE fs != 0) = true := by simp [hV]
      generalize vfE fs = V at *
      clear hV q3
      go_wp2
      go_ret
      exact ⟨ret_int (by rw [hE.out]), hx.out.trans hy.out⟩
    replace hE := hid (hE.out.trans (if_neg (fun h => h hV)))
    rw [hV]
    clear hV
    by_cases hm : 300 < m
    · replace hE := hid (hE.out.trans (if_pos hm))
      have e1 : (300 : Int) < (m : Int) := by omega
      clear q3
      go_wp2
      go_ret
      exact ⟨ret_int (by rw [hE.out]), hx.out.trans hy.out⟩
    replace hE := hid (hE.out.trans (if_neg hm))
    have e1 : ¬ (300 : Int) < (m : Int) := by omega
    rw [show rs = rs.drop 0 from rfl] at hE
    go_wp2_with fail
    clear t0 t1 t2 hb
    go_loopw [25] (fun i wr => ∃ k : Nat, k ≤ m ∧ i = .int .i64 k ∧ Hid (Ext w1 wr) ∧ Hid (vtE p fs rs = recsE fs p (rs.drop k))) (fun i _ => m - (intOf i).toNat)
    case atStart => exact ⟨0, by omega, rfl, hy, hE⟩
    case round =>
      clear hy hE
      obtain ⟨k, hk, rfl, hy, hE⟩ := hrel
      obtain ⟨t0, t1, t2, hb⟩ := hT.out.ext hy.out
      by_cases hlt : k < m
      · obtain ⟨ad, C, nv, cv, rfl, r0, r1, hv⟩ := (hr.out.ext hy.out).at_ hlt
        have hlv := hid hv.len
        have hs := hid (recsE_step fs p rs (k := k) (by rw [hlr.out]; exact hlt))
        have hrE : Hid (recE fs p (rth rs k) = if nv ≠ n then 10 else if recB fs p (rth rs k).v n then 0 else 1) := by unfold Hid recE; rw [hlv.out, hlf.out]
        generalize rth rs k = rr at *
        have hR := R2.new wr rr.gone C nv cv
        have hx3 := hid (Ext.new wr (.cells #[.bool rr.gone, .slice C nv cv] 69))
        go_upto_region 11 with fail
        generalize wr.alloc (.cells #[.bool rr.gone, .slice C nv cv] 69) = w3 at *
        generalize wr.heap.size = b3 at *
        replace hy := hid (hy.out.trans hx3.out)
        have hv := hid (hv.ext hx3.out)
        have hR := hid hR
        clear t0 t1 t2 hb hx3 r0 r1
        obtain ⟨t0, t1, t2, hb⟩ := hT.out.ext hy.out
        obtain ⟨s0, s1, hb3⟩ := hR.out
        have hmv := Rd.max hv.out
        by_cases hnv : nv = n
        rotate_left
        · have e2 : ((nv : Int) != (n : Int)) = true := by rw [bne_iff_ne]; omega
          replace hE := hid (show vtE p fs rs = 10 by rw [hE.out, hs.out, hrE.out, if_pos hnv]; rfl)
          clear hs hrE q3
          go_wp2
          go_ret
          exact ⟨ret_int (by rw [hE.out]), hx.out.trans hy.out⟩
        · subst hnv
          replace hrE := hid (hrE.out.trans (if_neg (fun h => h rfl)))
          go_wp2_with fail
          clear t0 t1 t2 hb s0 s1 hb3
          have hy3 := hid (Ext.refl w3)
          go_loopw [39] (fun i wr => ∃ k : Nat, k ≤ nv ∧ i = .int .i64 k ∧ Hid (Ext w3 wr) ∧ Hid (recB fs p rr.v k = true)) (fun i _ => nv - (intOf i).toNat)
          case atStart => exact ⟨0, by omega, rfl, hy3, rfl⟩
          case round =>
            clear hy3
            obtain ⟨j, hj, rfl, hy3, hrb⟩ := hrel
            obtain ⟨t0, t1, t2, hb⟩ := hT.out.ext (hy.out.trans hy3.out)
            by_cases hjt : j < nv
            · obtain ⟨af, rfl, f0, f1, f2, f3⟩ := (hf.out.ext (hy.out.trans hy3.out)).at_ hjt
              have hst := hid (recB_step fs p rr.v j)
              have hno := hid (fun h => recB_no (fs := fs) (p := p) (v := rr.v) (k := j) h nv hjt)
              generalize fth fs j = f at *
              have hF := F4.new wr f
              have hx4 := hid (Ext.new wr (.cells #[.string f.nm, .int .i64 f.k, .int .i64 f.wd, .bool f.nl] 64))
              go_upto_region 16 with fail
              generalize wr.alloc (.cells #[.string f.nm, .int .i64 f.k, .int .i64 f.wd, .bool f.nl] 64) = w4 at *
              generalize wr.heap.size = b4 at *
              replace hy3 := hid (hy3.out.trans hx4.out)
              have hF := hid hF
              clear hx4 f0 f1 f2 f3 t0 t1 t2 hb
              obtain ⟨av, hav⟩ : ∃ av, C = some av := by obtain ⟨av, h, _⟩ := hv.out.at_ hjt; exact ⟨av, h⟩
              subst hav
              have hjn : (j : Int) < (nv : Int) := by omega
              have xa := (Ext.refl w4).drew_right
              refine region_J (fun w' => Ext w4 w') 10 (by kernel_rfl) ?_
              generalize w4.drew = da at xa ⊢
              refine JR 0 (v := ?va1) rfl (by kernel_rfl) rfl ?ya1 xa ?ra1
              case ya1 => (intro w hw; obtain ⟨c0, c1, c2, c3, hb4⟩ := hF.out.ext hw; obtain ⟨t0, t1, t2, hb⟩ := hT.out.ext ((hy.out.trans hy3.out).trans hw); obtain ⟨s0, s1, hb3⟩ := hR.out.ext (hy3.out.trans hw); obtain ⟨av', he, z0, z1, z2⟩ := (hv.out.ext (hy3.out.trans hw)).at_ hjt; obtain rfl : av = av' := Option.some.inj he; (go_simp; with_reducible rfl))
              simp only [Act.put, lyA, lyB, lyC, lyD, lyE, lyF]
              refine JR 1 (v := ?va2) rfl (by kernel_rfl) rfl ?ya2 xa ?ra2
              case ya2 => (intro w hw; (go_simp; with_reducible rfl))
              simp only [Act.put, lyA, lyB, lyC, lyD, lyE, lyF]
              refine JR 2 (v := ?va3) rfl (by kernel_rfl) rfl ?ya3 xa ?ra3
              case ya3 => (intro w hw; obtain ⟨c0, c1, c2, c3, hb4⟩ := hF.out.ext hw; obtain ⟨t0, t1, t2, hb⟩ := hT.out.ext ((hy.out.trans hy3.out).trans hw); obtain ⟨s0, s1, hb3⟩ := hR.out.ext (hy3.out.trans hw); obtain ⟨av', he, z0, z1, z2⟩ := (hv.out.ext (hy3.out.trans hw)).at_ hjt; obtain rfl : av = av' := Option.some.inj he; (go_simp; with_reducible rfl))
              simp only [Act.put, lyA, lyB, lyC, lyD, lyE, lyF]
              refine JR 3 (v := ?va4) rfl (by kernel_rfl) rfl ?ya4 xa ?ra4
              case ya4 => (intro w hw; (go_simp; with_reducible rfl))
              simp only [Act.put, lyA, lyB, lyC, lyD, lyE, lyF]
              refine JR 4 (v := ?va5) rfl (by kernel_rfl) rfl ?ya5 xa ?ra5
              case ya5 => (intro w hw; obtain ⟨c0, c1, c2, c3, hb4⟩ := hF.out.ext hw; obtain ⟨t0, t1, t2, hb⟩ := hT.out.ext ((hy.out.trans hy3.out).trans hw); obtain ⟨s0, s1, hb3⟩ := hR.out.ext (hy3.out.trans hw); obtain ⟨av', he, z0, z1, z2⟩ := (hv.out.ext (hy3.out.trans hw)).at_ hjt; obtain rfl : av = av' := Option.some.inj he; (go_simp; with_reducible rfl))
              simp only [Act.put, lyA, lyB, lyC, lyD, lyE, lyF]
              refine JR 5 (v := ?va6) rfl (by kernel_rfl) rfl ?ya6 xa ?ra6
              case ya6 => (intro w hw; (go_simp; with_reducible rfl))
              simp only [Act.put, lyA, lyB, lyC, lyD, lyE, lyF]
              refine JR 6 (v := ?va7) rfl (by kernel_rfl) rfl ?ya7 xa ?ra7
              case ya7 => (intro w hw; (go_simp; with_reducible rfl))
              simp only [Act.put, lyA, lyB, lyC, lyD, lyE, lyF]
              refine JR 7 (v := ?va8) rfl (by kernel_rfl) rfl ?ya8 xa ?ra8
              case ya8 => (intro w hw; obtain ⟨c0, c1, c2, c3, hb4⟩ := hF.out.ext hw; obtain ⟨t0, t1, t2, hb⟩ := hT.out.ext ((hy.out.trans hy3.out).trans hw); obtain ⟨s0, s1, hb3⟩ := hR.out.ext (hy3.out.trans hw); obtain ⟨av', he, z0, z1, z2⟩ := (hv.out.ext (hy3.out.trans hw)).at_ hjt; obtain rfl : av = av' := Option.some.inj he; (go_simp; with_reducible rfl))
              simp only [Act.put, lyA, lyB, lyC, lyD, lyE, lyF]
              refine J_one 8 rfl (by kernel_rfl) (fun K hK => ?_)
              go_simp
              refine (q3.out f (vth rr.v j) _).mono ?_
              rintro e wa9 ⟨rfl, hxa9⟩
              refine hK _ _ ⟨fun _ => ((xa).trans hxa9), ?_⟩
              clear hK K
              try simp only [Act.put, lyA, lyB, lyC, lyD, lyE, lyF]
              have xa9 := ((xa).trans hxa9)
              refine JR 9 (v := ?va10) rfl (by kernel_rfl) rfl ?ya10 xa9 ?ra10
              case ya10 => (intro w hw; (go_simp; with_reducible rfl))
              simp only [Act.put, lyA, lyB, lyC, lyD, lyE, lyF]
              refine J_done (by kernel_rfl) (OnlyOn.normal ?_)
              replace hy3 := hid (hy3.out.trans xa9)
              clear q3
              cases hh : holdsB f p (vth rr.v j) with
              | true =>
                have hrb2 : Hid (recB fs p rr.v (j + 1) = true) := by unfold Hid; rw [hst.out, hrb.out, hh]; rfl
                clear hh hst hno hrb
                go_wp2
                go_roundw
                case rel => exact ⟨j + 1, by omega, by go_num, hy3, hrb2⟩
                case measure => simp [intOf]; omega
              | false =>
                replace hE := hid (show vtE p fs rs = 1 by rw [hE.out, hs.out, hrE.out, hno.out hh]; rfl)
                clear hh hst hno hrb hs hrE
                go_wp2
                go_ret
                exact ⟨ret_int (by rw [hE.out]), (hx.out.trans hy.out).trans hy3.out⟩
            · obtain rfl : j = nv := by omega
              replace hE := hid (show vtE p fs rs = recsE fs p (rs.drop (k + 1)) by rw [hE.out, hs.out, hrE.out, hrb.out]; rfl)
              clear hs hrE hrb
              go_wp2
              go_roundw
              case rel => exact ⟨k + 1, by omega, by go_num, hid (hy.out.trans hy3.out), hE⟩
              case measure => simp [intOf]; omega
      · obtain rfl : k = m := by omega
        replace hE := hid (show vtE p fs rs = 0 by rw [hE.out, List.drop_of_length_le (by rw [hlr.out]; omega)]; rfl)
        clear q3
        go_wp2
        go_ret
        exact ⟨ret_int (by rw [hE.out]), hx.out.trans hy.out⟩
open Go.RowKit Go.Shelf
theorem rrs_rep (m : Nat) : (madeCells (Value.cells (.agg #[.bool false, .slice none 0 0])) (m * 2)).toList = rrs (List.replicate m ⟨false, none, 0, 0⟩) := by
  have hl : (rrs (List.replicate m (⟨false, none, 0, 0⟩ : Rr))).length = m * 2 := by rw [rrs_len, List.length_replicate]
  refine List.ext_getElem (by rw [hl]; simp [madeCells]) (fun i h1 h2 => ?_)
  rw [hl] at h2
  have hk : i / 2 < (List.replicate m (⟨false, none, 0, 0⟩ : Rr)).length := by rw [List.length_replicate]; omega
  have e := cls_at rcl_len (List.replicate m (⟨false, none, 0, 0⟩ : Rr)) (i / 2) hk (i % 2) (by omega)
  rw [show i / 2 * 2 + i % 2 = i by omega] at e
  have e2 : (rrs (List.replicate m (⟨false, none, 0, 0⟩ : Rr)))[i]? = (rcl ⟨false, none, 0, 0⟩)[i % 2]? := by unfold rrs; rw [e]; simp
  rw [List.getElem?_eq_getElem (by rw [hl]; exact h2)] at e2
  rcases Nat.mod_two_eq_zero_or_one i with q | q
  · rw [q] at e2
    have := Option.some.inj e2
    rw [this]
    simp [madeCells, Value.cells, q]
  · rw [q] at e2
    have := Option.some.inj e2
    rw [this]
    simp [madeCells, Value.cells, q]
def OwT (w : World) (lo wd : Nat) (fs : List Fd) (rs : List Rc) (A : Option Addr) (n c : Nat) (B : Option Addr) (m d : Nat) : Prop :=
  ∃ rr, w.ownsRow lo 64 4 (.slice A n c) n (fds fs) ∧ OwR w lo wd (.slice B m d) rr rs rs.length ∧ rr.length = rs.length ∧ m = rs.length ∧ n = fs.length ∧
    ∀ f, (Value.slice A n c).ownBlock = some f → (Value.slice B m d).ownBlock ≠ some f ∧ ∀ i, i < rs.length → rb (rrth rr i) ≠ f
theorem set3_at (w : World) (g : Nat) (a b c : Value) : (((w.setCell ⟨g, 0, none⟩ a).setCell ⟨g, 1, none⟩ b).setCell ⟨g, 2, none⟩ c).heap.size = w.heap.size ∧ ∀ k, k ≠ g → (((w.setCell ⟨g, 0, none⟩ a).setCell ⟨g, 1, none⟩ b).setCell ⟨g, 2, none⟩ c).heap[k]? = w.heap[k]? :=
  ⟨by rw [(setCell_at _ _ _ _).1, (setCell_at _ _ _ _).1, (setCell_at _ _ _ _).1], fun k hk => by rw [(setCell_at _ _ _ _).2 k hk, (setCell_at _ _ _ _).2 k hk, (setCell_at _ _ _ _).2 k hk]⟩
theorem T3.set1 {w : World} {b : Nat} {p : Int} {A B A' : Option Addr} {n c m d n' c' : Nat} (h : T3 w b p A n c B m d) : T3 (w.setCell ⟨b, 1, none⟩ (.slice A' n' c')) b p A' n' c' B m d :=
  ⟨set_keep h.1 (off_ne (by decide)), set_get h.2.1, set_keep h.2.2.1 (off_ne (by decide)), by rw [(setCell_at _ _ _ _).1]; exact h.2.2.2⟩
theorem T3.set2 {w : World} {b : Nat} {p : Int} {A B B' : Option Addr} {n c m d m' d' : Nat} (h : T3 w b p A n c B m d) : T3 (w.setCell ⟨b, 2, none⟩ (.slice B' m' d')) b p A n c B' m' d' :=
  ⟨set_keep h.1 (off_ne (by decide)), set_keep h.2.1 (off_ne (by decide)), set_get h.2.2.1, by rw [(setCell_at _ _ _ _).1]; exact h.2.2.2⟩
theorem T3.keep {w w' : World} {b : Nat} {p : Int} {A B : Option Addr} {n c m d : Nat} (h : T3 w b p A n c B m d) (hb : w'.heap[b]? = w.heap[b]?) (hs : w.heap.size ≤ w'.heap.size) : T3 w' b p A n c B m d :=
  ⟨(World.cell?_of_block hb).trans h.1, (World.cell?_of_block hb).trans h.2.1, (World.cell?_of_block hb).trans h.2.2.1, Nat.lt_of_lt_of_le h.2.2.2 hs⟩
def Cp (w : World) (lo g b h : Nat) (p : Int) (A : Option Addr) (n c : Nat) (B : Option Addr) (m d : Nat) (fs : List Fd) : Prop :=
  T3 w b p A n c B m d ∧ HB w b 3 25 ∧ HB w h 3 25 ∧ w.ownsRow lo 64 4 (.slice A n c) n (fds fs) ∧ b ≠ g ∧ h ≠ g ∧ (∀ f, (Value.slice A n c).ownBlock = some f → f ≠ g ∧ f ≠ b ∧ f ≠ h)
section
variable {w w' : World} {lo g b h : Nat} {p : Int} {A B : Option Addr} {n c m d : Nat} {fs : List Fd}
theorem Cp.ext (H : Cp w lo g b h p A n c B m d fs) (hx : Ext w w') : Cp w' lo g b h p A n c B m d fs := ⟨H.1.ext hx, H.2.1.ext hx, H.2.2.1.ext hx, hx.own H.2.2.2.1, H.2.2.2.2⟩
theorem Cp.keep (H : Cp w lo g b h p A n c B m d fs) (hk : ∀ k, k ≠ g → w'.heap[k]? = w.heap[k]?) (hs : w.heap.size ≤ w'.heap.size) : Cp w' lo g b h p A n c B m d fs :=
  ⟨H.1.keep (hk b H.2.2.2.2.1) hs, H.2.1.keep (hk b H.2.2.2.2.1), H.2.2.1.keep (hk h H.2.2.2.2.2.1), own_same H.2.2.2.1 (fun f hf => hk f (H.2.2.2.2.2.2 f hf).1), H.2.2.2.2⟩
end
theorem bcopied_any (p : Int) (A : Option Addr) (n c : Nat) (B : Option Addr) (m d wd : Nat) (fs : List Fd) (rs : List Rc) (w : World) (hf : RdF w A n c fs) (hr : RdR w B m d rs) (hn : n ≤ 1000) (hm : m ≤ 1000) (h0 : 0 < wd) (hwd : wd ≤ 100) (hW : Wid wd rs) :
    Calls Tryz.prog 29 #[tb p A n c B m d] w fun e w' => ∃ A1 d1 B1 d2, e = .returned (tb p A1 n d1 B1 m d2) ∧ OwT w' w.heap.size wd fs rs A1 n d1 B1 m d2 ∧ Ext w w' := by
  have hT := T3.new w p A n c B m d
  have hb3 := HB.new w [.int .i64 p, .slice A n c, .slice B m d] 25
  have y2 := Ext.new (w.alloc (.cells #[.int .i64 p, .slice A n c, .slice B m d] 25)) (.cells #[.int .i64 0, .slice none 0 0, .slice none 0 0] 25)
  have hG := HB.new (w.alloc (.cells #[.int .i64 p, .slice A n c, .slice B m d] 25)) [.int .i64 0, .slice none 0 0, .slice none 0 0] 25
  replace hT := hT.ext y2
  replace hb3 := hb3.ext y2
  have hx := hid ((Ext.new w (.cells #[.int .i64 p, .slice A n c, .slice B m d] 25)).trans y2)
  simp only [World.size_alloc] at hG
  have hlf := hid hf.len
  have hlr := hid hr.len
  have hmr := hr.max
  have hr := hid hr
  have hW := hid hW
  obtain ⟨i0, hi, hz0, hz1, hz2⟩ := info_parts info69
  clear y2
  unfold tb
  go_enter Tryz.func29, Tryz.ntmps29
  go_upto_region 1 with fail
  try simp only [World.size_alloc]
  have hcl := hid (clone30 A n c (fds fs) _ (hf.ext hx.out) (fds_one fs) (by omega))
  generalize (w.alloc (.cells #[.int .i64 p, .slice A n c, .slice B m d] 25)).alloc (.cells #[.int .i64 0, .slice none 0 0, .slice none 0 0] 25) = w1 at *
  obtain ⟨b, hb0⟩ : ∃ b, b = w.heap.size := ⟨_, rfl⟩
  obtain ⟨h, hd0⟩ : ∃ h, h = b + 1 := ⟨_, rfl⟩
  rw [← hb0] at hT hb3 hG
  rw [← hd0] at hG
  simp only [← hb0]
  simp only [← hd0]
  have hbw : w.heap.size ≤ b ∧ w.heap.size ≤ h ∧ b ≠ h := by omega
  clear hb0 hd0
  obtain ⟨t0, t1, t2, hb⟩ := hT
  go_wp2_with fail
  refine hcl.out.mono ?_
  rintro e w2 ⟨A1, d1, rfl, hof, hx2⟩
  have hfl := hid (fun f (hf : (Value.slice A1 n d1).ownBlock = some f) => hof.lt f hf)
  have hof2 := own_baseK hof hx.out.size
  have hT2 := T3.ext ⟨t0, t1, t2, hb⟩ hx2
  have hb2 := hb3.ext hx2
  have hG2 := hG.ext hx2
  have hl1 : b < w1.heap.size ∧ h < w1.heap.size := ⟨hb, hG.lt⟩
  replace hx := hid (hx.out.trans hx2)
  clear hcl hof t0 t1 t2 hb hb3 hG hf
  obtain ⟨t0, t1, t2, hb⟩ := hT2
  obtain ⟨⟨-, -⟩, ⟨q1, f1⟩, -, -⟩ := hb2.tt.three
  clear q1
  go_upto_region 2 with fail
  have hs := setCell_at w2 b 1 (.slice A1 n d1)
  have hof3 := own_same (w' := w2.setCell ⟨b, 1, none⟩ (.slice A1 n d1)) hof2 (fun f hf => hs.2 f (fun e => by have := (hfl.out f hf).1; omega))
  have hT3 := T3.set1 (A' := A1) (n' := n) (c' := d1) ⟨t0, t1, t2, hb⟩
  have hb4 := hb2.set (g := b) (o := 1) (.slice A1 n d1)
  have hG4 := hG2.set (g := b) (o := 1) (.slice A1 n d1)
  have hx4 := hid (hx.out.set hbw.1 (p := ⟨b, 1, none⟩) (.slice A1 n d1))
  have hfl4 := hid (fun f (hf : (Value.slice A1 n d1).ownBlock = some f) => (show w1.heap.size ≤ f ∧ f < (w2.setCell ⟨b, 1, none⟩ (.slice A1 n d1)).heap.size from by rw [hs.1]; exact hfl.out f hf))
  have hl4 : w1.heap.size ≤ (w2.setCell ⟨b, 1, none⟩ (.slice A1 n d1)).heap.size := by rw [hs.1]; exact hx2.size
  clear f1 t0 t1 t2 hb hb2 hG2 hof2 hs hx hfl hx2
  generalize w2.setCell ⟨b, 1, none⟩ (.slice A1 n d1) = w3 at *
  obtain ⟨t0, t1, t2, hb⟩ := hT3
  obtain ⟨w4, hmk, hown, hg4⟩ := run_makeSlice_full w3 w3.heap.size 23 69 i0 _ 2 Tryz.underlying23 hi hz0 hz1 .i64 .i64 m (by omega) (by rw [hz2]; omega) (by unfold maxLen; omega) (Nat.le_refl _)
  rw [rrs_rep] at hown
  have hx5 := hid (show Ext w3 w4 from ⟨hg4.os, hg4.tape, hg4.output, hg4.size, fun k hk => hg4.block k hk (by simp)⟩)
  have hg5 := hown.lt _ rfl
  have hC := hid (show Cp w4 w.heap.size w3.heap.size b h p A1 n d1 B m d fs from ⟨T3.ext ⟨t0, t1, t2, hb⟩ hx5.out, hb4.ext hx5.out, hG4.ext hx5.out, hx5.out.own hof3, by have := hb4.lt; omega, by have := hG4.lt; omega, fun f hf => by have := hfl4.out f hf; omega⟩)
  have hO := hid (show OwR w4 w.heap.size wd (.slice (some ⟨w3.heap.size, 0, none⟩) m m) (List.replicate m ⟨false, none, 0, 0⟩) rs 0 from ⟨by rw [List.length_replicate]; exact own_baseK hown hx4.out.size, fun i hi => absurd hi (Nat.not_lt_zero _), fun i j hi => absurd hi (Nat.not_lt_zero _), fun i hi => absurd hi (Nat.not_lt_zero _)⟩)
  have hfg := hid (fun f (hf : (Value.slice A1 n d1).ownBlock = some f) => (show f < w4.heap.size from by have := (hfl4.out f hf).2; omega))
  replace hx4 := hid (hx4.out.trans hx5.out)
  have hgw : w.heap.size ≤ w3.heap.size := by omega
  have hlg : b < w4.heap.size ∧ h < w4.heap.size ∧ w3.heap.size < w4.heap.size := by have := hb4.lt; have := hG4.lt; omega
  clear hown hof3 hb4 hG4 hg4 hg5 hfl4 hx5 hl1 hl4
  go_upto_region 3 with fail
  obtain ⟨g, hg0⟩ : ∃ g, g = w3.heap.size := ⟨_, rfl⟩
  rw [← hg0] at hC hO hgw hlg
  simp only [← hg0]
  clear hg0 hmk t0 t1 t2 hb
  obtain ⟨⟨t0, t1, t2, hb⟩, -, -⟩ := hC.out
  go_wp2_with fail
  clear t0 t1 t2 hb
  have hW0 := hid hx4.out
  go_loopw [17] (fun i wr => ∃ k : Nat, k ≤ m ∧ i = .int .i64 k ∧ Hid (Ext w wr) ∧ Hid (w4.heap.size ≤ wr.heap.size) ∧ Hid (Cp wr w.heap.size g b h p A1 n d1 B m d fs) ∧ (∃ rr : List Rr, Hid (OwR wr w.heap.size wd (.slice (some ⟨g, 0, none⟩) m m) rr rs k) ∧ Hid (rr.length = m) ∧ Hid (∀ i, i < k → w4.heap.size ≤ rb (rrth rr i)))) (fun i _ => m - (intOf i).toNat)
  case atStart => exact ⟨0, by omega, rfl, hx4, hid (Nat.le_refl _), hC, _, hO, hid (List.length_replicate), fun i hi => absurd hi (Nat.not_lt_zero _)⟩
  case round =>
    clear hx4 hC hO
    obtain ⟨k, hk, rfl, hx, hsz, hC, rr, hO, hrl, hlo⟩ := hrel
    obtain ⟨⟨t0, t1, t2, hb⟩, -, -⟩ := hC.out
    by_cases hlt : k < m
    · obtain ⟨ad, C, nv, cv, rfl, r0, r1, hv⟩ := (hr.out.ext hx.out).at_ hlt
      have hkl : k < rs.length := by rw [hlr.out]; exact hlt
      have hxl := hW.out k hkl
      have hxe : ∃ x, x = rth rs k := ⟨_, rfl⟩
      obtain ⟨x, hxe⟩ := hxe
      rw [← hxe] at r0 hv hxl
      replace hxe := hid hxe
      have hnv : nv = wd := by rw [← hv.len, hxl]
      subst hnv
      have hx3 := hid (Ext.new wr (.cells #[.bool x.gone, .slice C nv cv] 69))
      have hR := R2.new wr x.gone C nv cv
      replace hsz := hid (Nat.le_trans hsz.out hx3.out.size)
      go_upto_region 6 with fail
      generalize wr.alloc (.cells #[.bool x.gone, .slice C nv cv] 69) = w6 at *
      generalize wr.heap.size = b6 at *
      replace hO := hid (hO.out.ext hx3.out)
      replace hC := hid (hC.out.ext hx3.out)
      replace hx := hid (hx.out.trans hx3.out)
      have hcp := hid (fun w' (hx' : Ext w6 w') => clone65 C nv cv (vs x.v) w' (hv.ext (hx3.out.trans hx')) (vs_one x.v) (by omega))
      have hR := hid hR
      have hkn : (k : Int) < (m : Int) := by omega
      clear hx3 r0 r1 hv hkl t0 t1 t2 hb
      have xa := (Ext.refl w6).drew_right
      refine region_J (fun w' => Ext w6 w') 9 (by kernel_rfl) ?_
      generalize w6.drew = da at xa ⊢
      refine JW 0 (v := ?va1) rfl (by kernel_rfl) rfl ?ya1 xa ?ra1
      case ya1 => (intro w hw; (go_simp; with_reducible rfl))
      simp only [Act.put, lyA, lyB, lyC, lyD, lyE, lyF]
      refine JW 1 (v := ?va2) rfl (by kernel_rfl) rfl ?ya2 xa ?ra2
      case ya2 => (intro w hw; (go_simp; with_reducible rfl))
      simp only [Act.put, lyA, lyB, lyC, lyD, lyE, lyF]
      refine JW 2 (v := ?va3) rfl (by kernel_rfl) rfl ?ya3 xa ?ra3
      case ya3 => (intro w hw; (go_simp; with_reducible rfl))
      simp only [Act.put, lyA, lyB, lyC, lyD, lyE, lyF]
      refine JW 3 (v := ?va4) rfl (by kernel_rfl) rfl ?ya4 xa ?ra4
      case ya4 => (intro w hw; obtain ⟨s0, s1, hb6⟩ := hR.out.ext hw; (go_simp; with_reducible rfl))
      simp only [Act.put, lyA, lyB, lyC, lyD, lyE, lyF]
      refine JW 4 (v := ?va5) rfl (by kernel_rfl) rfl ?ya5 xa ?ra5
      case ya5 => (intro w hw; (go_simp; with_reducible rfl))
      simp only [Act.put, lyA, lyB, lyC, lyD, lyE, lyF]
      refine JW 5 (v := ?va6) rfl (by kernel_rfl) rfl ?ya6 xa ?ra6
      case ya6 => (intro w hw; obtain ⟨s0, s1, hb6⟩ := hR.out.ext hw; (go_simp; with_reducible rfl))
      simp only [Act.put, lyA, lyB, lyC, lyD, lyE, lyF]
      refine J_one 6 rfl (by kernel_rfl) (fun K hK => ?_)
      go_simp
      refine (hcp.out _ xa).mono ?_
      rintro e wa7 ⟨D, dd, rfl, oa7, hxa7⟩
      have la7 := (hx.out.trans xa).size
      have sa7 := (xa).size
      refine hK _ _ ⟨fun _ => ((xa).trans hxa7), ?_⟩
      clear hK K
      try simp only [Act.put, lyA, lyB, lyC, lyD, lyE, lyF]
      have xa7 := ((xa).trans hxa7)
      refine JW 7 (v := ?va8) rfl (by kernel_rfl) rfl ?ya8 xa7 ?ra8
      case ya8 => (intro w hw; (go_simp; with_reducible rfl))
      simp only [Act.put, lyA, lyB, lyC, lyD, lyE, lyF]
      refine JW 8 (v := ?va9) rfl (by kernel_rfl) rfl ?ya9 xa7 ?ra9
      case ya9 => (intro w hw; (go_simp; with_reducible rfl))
      simp only [Act.put, lyA, lyB, lyC, lyD, lyE, lyF]
      refine J_one 9 rfl (by kernel_rfl) (fun K hK => ?_)
      obtain ⟨hV, hVb⟩ := OwV.mk (lo := w.heap.size) (x := x) oa7 rfl h0 la7 hxl
      have hO7 := hO.out.ext xa7
      have hth := row_there (o := k * 2) (s := 2) hO7.1 (by rw [hrl.out]; omega)
      refine step_store_mid rfl 69 _ _ rfl g (k * 2) #[.bool x.gone, .slice D nv dd] (by simp [Act.eval, Act.put, lit_add0]) rfl hth (by kernel_rfl) (by simp [Value.oneCell']) ?_
      refine hK _ _ ⟨fun h => absurd rfl h, ?_⟩
      clear hK K
      try simp only [Act.put, lyA, lyB, lyC, lyD, lyE, lyF]
      have ha := setCells_at [.bool x.gone, .slice D nv dd] wa7 g (k * 2)
      have hO8 := hid (hO7.put (y := ⟨x.gone, D, nv, dd⟩) (by rw [hrl.out]; exact hlt) hrl.out.symm (by rw [← hxe.out]; exact hV) (by have := hsz.out; omega) (fun i hi => by have := (hO.out.2.1 i hi).lt.2; omega))
      have hC8 := hid ((hC.out.ext xa7).keep (w' := wa7.setCells g (k * 2) [.bool x.gone, .slice D nv dd]) ha.2.2.2.2 (by rw [ha.1]; exact Nat.le_refl _))
      have hx8 := hid (ext_setC (hx.out.trans xa7) hgw (k * 2) [.bool x.gone, .slice D nv dd])
      have hsz8 := hid (show w4.heap.size ≤ (wa7.setCells g (k * 2) [.bool x.gone, .slice D nv dd]).heap.size from by rw [ha.1]; exact Nat.le_trans hsz.out (xa7).size)
      have hrl8 := hid (show (rr.set k ⟨x.gone, D, nv, dd⟩).length = m from by rw [List.length_set]; exact hrl.out)
      have hlo8 := hid (show ∀ i, i < k + 1 → w4.heap.size ≤ rb (rrth (rr.set k ⟨x.gone, D, nv, dd⟩) i) from fun i hi => by
        by_cases e : i = k
        · subst e; rw [rrth_set_same (by rw [hrl.out]; exact hlt)]; have := hsz.out; omega
        · rw [rrth_set_ne e]; exact hlo.out i (by omega))
      refine J_done (by kernel_rfl) (OnlyOn.normal ?_)
      clear ha hth hO7 hV hVb hO hC hx hsz hrl hlo hcp hR
      go_wp2
      go_roundw
      case rel => exact ⟨k + 1, by omega, by go_num, hx8, hsz8, hC8, _, hO8, hrl8, hlo8⟩
      case measure => simp [intOf]; omega
    · obtain rfl : k = m := by omega
      have hrl2 := hid (hrl.out.trans hlr.out.symm)
      have hO2 := hid (show OwR wr w.heap.size wd (.slice (some ⟨g, 0, none⟩) k k) rr rs rs.length from by rw [hlr.out]; exact hO.out)
      have hlo2 := hid (show ∀ i, i < rs.length → w4.heap.size ≤ rb (rrth rr i) from by rw [hlr.out]; exact hlo.out)
      have hsz2 := hid (show b < w4.heap.size ∧ h < w4.heap.size ∧ ∀ f, (Value.slice A1 n d1).ownBlock = some f → f < w4.heap.size from ⟨hlg.1, hlg.2.1, hfg.out⟩)
      obtain ⟨-, -, -, -, n1, n2, n3⟩ := hC.out
      have hne := hid (show b ≠ g ∧ h ≠ g ∧ (∀ f, (Value.slice A1 n d1).ownBlock = some f → f ≠ g ∧ f ≠ b ∧ f ≠ h) from ⟨n1, n2, n3⟩)
      obtain ⟨-, hb3, hG3, hof, -⟩ := hC.out
      obtain ⟨⟨-, -⟩, ⟨-, -⟩, p2, f2⟩ := hb3.tt.three
      clear hO hlo hrl n1 n2 n3
      go_upto_region 9 with fail
      have hs := setCell_at wr b 2 (.slice (some ⟨g, 0, none⟩) k k)
      have hO3 := hO2.out.keep (w' := wr.setCell ⟨b, 2, none⟩ (.slice (some ⟨g, 0, none⟩) k k)) (fun q hq => hs.2 q (fun e => hne.out.1 (by rw [← e]; exact (Option.some.inj hq).symm))) (fun i hi => hs.2 _ (by have := hlo2.out i hi; have := hsz2.out.1; omega))
      have hof3 := own_same (w' := wr.setCell ⟨b, 2, none⟩ (.slice (some ⟨g, 0, none⟩) k k)) hof (fun f hf => hs.2 f (hne.out.2.2 f hf).2.1)
      have hG4 := hG3.set (g := b) (o := 2) (.slice (some ⟨g, 0, none⟩) k k)
      have hT4 := T3.set2 (B' := some ⟨g, 0, none⟩) (m' := k) (d' := k) ⟨t0, t1, t2, hb⟩
      have hx4 := hx.out.set hbw.1 (p := ⟨b, 2, none⟩) (.slice (some ⟨g, 0, none⟩) k k)
      clear p2 f2 t0 t1 t2 hb hs hof hb3 hG3 hO2 hx hC hsz
      generalize wr.setCell ⟨b, 2, none⟩ (.slice (some ⟨g, 0, none⟩) k k) = w9 at *
      obtain ⟨t0, t1, t2, hb⟩ := hT4
      obtain ⟨⟨p0, f0⟩, ⟨p1, f1⟩, p2, f2⟩ := hG4.tt.three
      have Fin := hid (wrote3 hG4.tt hx4 hbw.2.1 (.int .i64 p) (.slice A1 n d1) (.slice (some ⟨g, 0, none⟩) k k))
      have h3 := set3_at w9 h (.int .i64 p) (.slice A1 n d1) (.slice (some ⟨g, 0, none⟩) k k)
      have hT9 := hid (show OwT (((w9.setCell ⟨h, 0, none⟩ (.int .i64 p)).setCell ⟨h, 1, none⟩ (.slice A1 n d1)).setCell ⟨h, 2, none⟩ (.slice (some ⟨g, 0, none⟩) k k)) w.heap.size wd fs rs A1 n d1 (some ⟨g, 0, none⟩) k k from
        ⟨rr, own_same hof3 (fun f hf => h3.2 f (hne.out.2.2 f hf).2.2), hO3.keep (fun q hq => h3.2 q (fun e => hne.out.2.1 (by rw [← e]; exact (Option.some.inj hq).symm))) (fun i hi => h3.2 _ (by have := hlo2.out i hi; have := hsz2.out.2.1; omega)), hrl2.out, hlr.out.symm, hlf.out.symm,
          fun f hf => ⟨fun e => (hne.out.2.2 f hf).1 (Option.some.inj e).symm, fun i hi e => by have := hlo2.out i hi; have := hsz2.out.2.2 f hf; omega⟩⟩)
      clear h3 hG4 hx4 hof3 hO3
      go_wp2
      obtain ⟨⟨k0, k1, k2⟩, kx⟩ := Fin.out
      exact bodyPost_ret (v := .agg #[.int .i64 p, .slice A1 n d1, .slice (some ⟨g, 0, none⟩) k k]) (by simp [results, Tryz.results29, go_sem, k0, k1, k2]) rfl ⟨A1, d1, _, _, rfl, hT9.out, kx⟩
theorem Copied_any (p : Int) (A : Option Addr) (n c : Nat) (B : Option Addr) (m d wd : Nat) (fs : List Fd) (rs : List Rc) (w : World) (hf : RdF w A n c fs) (hr : RdR w B m d rs) (hn : n ≤ 1000) (hm : m ≤ 1000) (h0 : 0 < wd) (hwd : wd ≤ 100) (hW : Wid wd rs) :
    Calls Tryz.prog 37 #[tb p A n c B m d] w fun e w' => ∃ A1 d1 B1 d2, e = .returned (tb p A1 n d1 B1 m d2) ∧ OwT w' w.heap.size wd fs rs A1 n d1 B1 m d2 ∧ Ext w w' := by
  have hT := T3.new w p A n c B m d
  have hb3 := HB.new w [.int .i64 p, .slice A n c, .slice B m d] 25
  have y2 := Ext.new (w.alloc (.cells #[.int .i64 p, .slice A n c, .slice B m d] 25)) (.cells #[.int .i64 0, .slice none 0 0, .slice none 0 0] 25)
  have hG := HB.new (w.alloc (.cells #[.int .i64 p, .slice A n c, .slice B m d] 25)) [.int .i64 0, .slice none 0 0, .slice none 0 0] 25
  replace hT := hT.ext y2
  replace hb3 := hb3.ext y2
  have hx := hid ((Ext.new w (.cells #[.int .i64 p, .slice A n c, .slice B m d] 25)).trans y2)
  simp only [World.size_alloc] at hG
  have hlf := hid hf.len
  have hlr := hid hr.len
  have hmr := hr.max
  have hr := hid hr
  have hW := hid hW
  obtain ⟨i0, hi, hz0, hz1, hz2⟩ := info_parts info69
  clear y2
  unfold tb
  go_enter Tryz.func37, Tryz.ntmps37
  go_upto_region 1 with fail
  try simp only [World.size_alloc]
  have hcl := hid (clone30 A n c (fds fs) _ (hf.ext hx.out) (fds_one fs) (by omega))
  generalize (w.alloc (.cells #[.int .i64 p, .slice A n c, .slice B m d] 25)).alloc (.cells #[.int .i64 0, .slice none 0 0, .slice none 0 0] 25) = w1 at *
  obtain ⟨b, hb0⟩ : ∃ b, b = w.heap.size := ⟨_, rfl⟩
  obtain ⟨h, hd0⟩ : ∃ h, h = b + 1 := ⟨_, rfl⟩
  rw [← hb0] at hT hb3 hG
  rw [← hd0] at hG
  simp only [← hb0]
  simp only [← hd0]
  have hbw : w.heap.size ≤ b ∧ w.heap.size ≤ h ∧ b ≠ h := by omega
  clear hb0 hd0
  obtain ⟨t0, t1, t2, hb⟩ := hT
  go_wp2_with fail
  refine hcl.out.mono ?_
  rintro e w2 ⟨A1, d1, rfl, hof, hx2⟩
  have hfl := hid (fun f (hf : (Value.slice A1 n d1).ownBlock = some f) => hof.lt f hf)
  have hof2 := own_baseK hof hx.out.size
  have hT2 := T3.ext ⟨t0, t1, t2, hb⟩ hx2
  have hb2 := hb3.ext hx2
  have hG2 := hG.ext hx2
  have hl1 : b < w1.heap.size ∧ h < w1.heap.size := ⟨hb, hG.lt⟩
  replace hx := hid (hx.out.trans hx2)
  clear hcl hof t0 t1 t2 hb hb3 hG hf
  obtain ⟨t0, t1, t2, hb⟩ := hT2
  obtain ⟨⟨-, -⟩, ⟨q1, f1⟩, -, -⟩ := hb2.tt.three
  clear q1
  go_upto_region 2 with fail
  have hs := setCell_at w2 b 1 (.slice A1 n d1)
  have hof3 := own_same (w' := w2.setCell ⟨b, 1, none⟩ (.slice A1 n d1)) hof2 (fun f hf => hs.2 f (fun e => by have := (hfl.out f hf).1; omega))
  have hT3 := T3.set1 (A' := A1) (n' := n) (c' := d1) ⟨t0, t1, t2, hb⟩
  have hb4 := hb2.set (g := b) (o := 1) (.slice A1 n d1)
  have hG4 := hG2.set (g := b) (o := 1) (.slice A1 n d1)
  have hx4 := hid (hx.out.set hbw.1 (p := ⟨b, 1, none⟩) (.slice A1 n d1))
  have hfl4 := hid (fun f (hf : (Value.slice A1 n d1).ownBlock = some f) => (show w1.heap.size ≤ f ∧ f < (w2.setCell ⟨b, 1, none⟩ (.slice A1 n d1)).heap.size from by rw [hs.1]; exact hfl.out f hf))
  have hl4 : w1.heap.size ≤ (w2.setCell ⟨b, 1, none⟩ (.slice A1 n d1)).heap.size := by rw [hs.1]; exact hx2.size
  clear f1 t0 t1 t2 hb hb2 hG2 hof2 hs hx hfl hx2
  generalize w2.setCell ⟨b, 1, none⟩ (.slice A1 n d1) = w3 at *
  obtain ⟨t0, t1, t2, hb⟩ := hT3
  obtain ⟨rr0, hr1, hrl0, hrg0⟩ := hr.out
  have hcr2 := clone71 B m d (rrs rr0) w3 (hr1.ext hx4.out) (rrs_one rr0) (by omega)
  have hrg1 := hid (fun i (hi : i < m) => hrg0 i (by rw [hlr.out]; exact hi))
  clear hr1
  go_wp2_with fail
  refine hcr2.mono ?_
  rintro e w4 ⟨B1, d2, rfl, hown, hx5⟩
  have hT4 := T3.ext ⟨t0, t1, t2, hb⟩ hx5
  clear t0 t1 t2 hb hcr2
  obtain ⟨t0, t1, t2, hb⟩ := hT4
  obtain ⟨⟨-, -⟩, ⟨-, -⟩, q2, f2⟩ := (hb4.ext hx5).tt.three
  clear q2
  go_upto_region 3 with fail
  have hs := setCell_at w4 b 2 (.slice B1 m d2)
  have hlo4 := hx5.size
  have hb5 := ((hb4.ext hx5).set (g := b) (o := 2) (.slice B1 m d2))
  have hG5 := ((hG4.ext hx5).set (g := b) (o := 2) (.slice B1 m d2))
  have hT5 := T3.set2 (B' := B1) (m' := m) (d' := d2) ⟨t0, t1, t2, hb⟩
  have hx6 := hid ((hx4.out.trans hx5).set hbw.1 (p := ⟨b, 2, none⟩) (.slice B1 m d2))
  have hof5 := own_same (w' := w4.setCell ⟨b, 2, none⟩ (.slice B1 m d2)) (hx5.own hof3) (fun f hf => hs.2 f (fun e => by have := (hfl4.out f hf).1; omega))
  have hown5 := own_same (w' := w4.setCell ⟨b, 2, none⟩ (.slice B1 m d2)) hown (fun f hf => hs.2 f (fun e => by have := (hown.lt f hf).1; omega))
  have hbl := hid (fun g (hg : (Value.slice B1 m d2).ownBlock = some g) => hown.lt g hg)
  have hgo : ∃ g : Nat, (0 < m → B1 = some ⟨g, 0, none⟩) ∧ w3.heap.size ≤ g ∧ (∀ k, (Value.slice B1 m d2).ownBlock = some k → k = g) := by
    rcases Nat.eq_zero_or_pos m with hm0 | hm0
    · cases hb1 : (Value.slice B1 m d2).ownBlock with
      | none => exact ⟨w3.heap.size, fun h => by omega, Nat.le_refl _, fun k hk => by cases hk⟩
      | some g => exact ⟨g, fun h => by omega, (hown.lt g hb1).1, fun k hk => (Option.some.inj hk).symm⟩
    · obtain ⟨g, h1, h2, h3⟩ := own_blk hown hm0
      subst h1
      exact ⟨g, fun _ => rfl, h2, fun k hk => (Option.some.inj hk).symm⟩
  obtain ⟨g, hg1, hg2, hg3⟩ := hgo
  have hC := hid (show Cp (w4.setCell ⟨b, 2, none⟩ (.slice B1 m d2)) w.heap.size g b h p A1 n d1 B1 m d2 fs from ⟨hT5, hb5, hG5, hof5, by have := hb4.lt; omega, by have := hG4.lt; omega, fun f hf => by have := hfl4.out f hf; omega⟩)
  have hmk := hid (fun i (hi : i < m) => (hrg0 i (by rw [hlr.out]; exact hi)).1)
  have hO := hid (show OwR (w4.setCell ⟨b, 2, none⟩ (.slice B1 m d2)) w.heap.size wd (.slice B1 m d2) rr0 rs 0 from ⟨by rw [hrl0, hlr.out]; exact own_baseK hown5 hx4.out.size, fun i hi => absurd hi (Nat.not_lt_zero _), fun i j hi => absurd hi (Nat.not_lt_zero _), fun i hi => absurd hi (Nat.not_lt_zero _)⟩)
  have hfg := hid (fun f (hf : (Value.slice A1 n d1).ownBlock = some f) => (show f < (w4.setCell ⟨b, 2, none⟩ (.slice B1 m d2)).heap.size from by have := (hfl4.out f hf).2; rw [hs.1]; omega))
  have hgw : w.heap.size ≤ g := by have := hx4.out.size; omega
  have hlg : b < (w4.setCell ⟨b, 2, none⟩ (.slice B1 m d2)).heap.size ∧ h < (w4.setCell ⟨b, 2, none⟩ (.slice B1 m d2)).heap.size ∧ (0 < m → g < (w4.setCell ⟨b, 2, none⟩ (.slice B1 m d2)).heap.size) := ⟨hb5.lt, hG5.lt, fun h => by rw [hs.1]; have := hg1 h; subst this; exact (hown.lt g rfl).2⟩
  replace hrl0 := hid (hrl0.trans hlr.out)
  clear f2 t0 t1 t2 hb hb4 hG4 hof3 hs hown hown5 hof5 hb5 hG5 hT5 hlo4 hx5 hx4 hfl4 hl1 hl4 hbl hrg0
  generalize w4.setCell ⟨b, 2, none⟩ (.slice B1 m d2) = w5 at *
  have hx4 := hx6
  clear hx6
  obtain ⟨⟨t0, t1, t2, hb⟩, -, -⟩ := hC.out
  go_wp2_with fail
  clear t0 t1 t2 hb
  have hW0 := hid hx4.out
  go_loopw [16] (fun i wr => ∃ k : Nat, k ≤ m ∧ i = .int .i64 k ∧ Hid (Ext w wr) ∧ Hid (w5.heap.size ≤ wr.heap.size) ∧ Hid (Cp wr w.heap.size g b h p A1 n d1 B1 m d2 fs) ∧ (∃ rr : List Rr, Hid (OwR wr w.heap.size wd (.slice B1 m d2) rr rs k) ∧ Hid (rr.length = m) ∧ Hid (∀ i, i < k → w5.heap.size ≤ rb (rrth rr i)) ∧ Hid (∀ i, k ≤ i → i < m → rrth rr i = rrth rr0 i))) (fun i _ => m - (intOf i).toNat)
  case atStart => exact ⟨0, by omega, rfl, hx4, hid (Nat.le_refl _), hC, _, hO, hrl0, hid (fun i hi => absurd hi (Nat.not_lt_zero _)), hid (fun i _ hi => rfl)⟩
  case round =>
    clear hx4 hC hO
    obtain ⟨k, hk, rfl, hx, hsz, hC, rr, hO, hrl, hlo, hmg⟩ := hrel
    obtain ⟨⟨t0, t1, t2, hb⟩, -, -⟩ := hC.out
    by_cases hlt : k < m
    · have hBg := hg1 (by omega)
      subst hBg
      have hkl : k < rs.length := by rw [hlr.out]; exact hlt
      have hxl := hW.out k hkl
      have hO1 := hO.out.1
      rw [hrl.out] at hO1
      have hrw := Rd.of_own hO1
      clear hO1
      have hkm := hmg.out k (Nat.le_refl _) hlt
      have hrk := hrg1.out k hlt
      obtain ⟨x, hxe⟩ : ∃ x, x = rth rs k := ⟨_, rfl⟩
      obtain ⟨y, hye⟩ : ∃ y, y = rrth rr0 k := ⟨_, rfl⟩
      obtain ⟨ad, hade, r0, r1⟩ := rr_at hrw hlt
      obtain rfl : ad = ⟨g, 0, none⟩ := (Option.some.inj hade).symm
      rw [hkm, ← hye] at r0 r1
      rw [← hye, ← hxe] at hrk
      rw [← hxe] at hxl
      rw [lit_add0] at r0 r1
      obtain ⟨hyg, hv⟩ := hrk
      have hv := hv.ext hx.out
      have hnv : y.n = wd := by rw [← hv.len, hxl]
      replace hxe := hid hxe
      replace hye := hid hye
      have hkm := hid hkm
      replace hyg := hid hyg
      obtain ⟨yg, C, nv, cv⟩ := y
      simp only at hnv hv r0 r1
      subst hnv
      have hx3 := hid (Ext.new wr (.cells #[.bool yg, .slice C nv cv] 69))
      have hR := R2.new wr yg C nv cv
      replace hsz := hid (Nat.le_trans hsz.out hx3.out.size)
      go_upto_region 6 with fail
      generalize wr.alloc (.cells #[.bool yg, .slice C nv cv] 69) = w6 at *
      generalize wr.heap.size = b6 at *
      replace hO := hid (hO.out.ext hx3.out)
      replace hC := hid (hC.out.ext hx3.out)
      replace hx := hid (hx.out.trans hx3.out)
      have hcp := hid (fun w' (hx' : Ext w6 w') => clone65 C nv cv (vs x.v) w' (hv.ext (hx3.out.trans hx')) (vs_one x.v) (by omega))
      have hR := hid hR
      have hkn : (k : Int) < (m : Int) := by omega
      clear hx3 r0 r1 hv hkl t0 t1 t2 hb hrw hade
      have xc := (Ext.refl w6).drew_right
      refine region_J (fun w' => Ext w6 w') 8 (by kernel_rfl) ?_
      generalize w6.drew = dc at xc ⊢
      refine JW 0 (v := ?vc1) rfl (by kernel_rfl) rfl ?yc1 xc ?rc1
      case yc1 => (intro w hw; (go_simp; with_reducible rfl))
      simp only [Act.put, lyA, lyB, lyC, lyD, lyE, lyF]
      refine JW 1 (v := ?vc2) rfl (by kernel_rfl) rfl ?yc2 xc ?rc2
      case yc2 => (intro w hw; obtain ⟨s0, s1, hb6⟩ := hR.out.ext hw; obtain ⟨⟨t0, t1, t2, hb⟩, -, -⟩ := hC.out.ext hw; (go_simp; with_reducible rfl))
      simp only [Act.put, lyA, lyB, lyC, lyD, lyE, lyF]
      refine JW 2 (v := ?vc3) rfl (by kernel_rfl) rfl ?yc3 xc ?rc3
      case yc3 => (intro w hw; (go_simp; with_reducible rfl))
      simp only [Act.put, lyA, lyB, lyC, lyD, lyE, lyF]
      refine JW 3 (v := ?vc4) rfl (by kernel_rfl) rfl ?yc4 xc ?rc4
      case yc4 => (intro w hw; (go_simp; with_reducible rfl))
      simp only [Act.put, lyA, lyB, lyC, lyD, lyE, lyF]
      refine JW 4 (v := ?vc5) rfl (by kernel_rfl) rfl ?yc5 xc ?rc5
      case yc5 => (intro w hw; obtain ⟨s0, s1, hb6⟩ := hR.out.ext hw; obtain ⟨⟨t0, t1, t2, hb⟩, -, -⟩ := hC.out.ext hw; (go_simp; with_reducible rfl))
      simp only [Act.put, lyA, lyB, lyC, lyD, lyE, lyF]
      refine J_one 5 rfl (by kernel_rfl) (fun K hK => ?_)
      go_simp
      refine (hcp.out _ xc).mono ?_
      rintro e wc6 ⟨D, dd, rfl, oc6, hxc6⟩
      have lc6 := (hx.out.trans xc).size
      have sc6 := (xc).size
      refine hK _ _ ⟨fun _ => ((xc).trans hxc6), ?_⟩
      clear hK K
      try simp only [Act.put, lyA, lyB, lyC, lyD, lyE, lyF]
      have xc6 := ((xc).trans hxc6)
      refine J_one 6 rfl (by kernel_rfl) (fun K hK => ?_)
      go_simp
      refine hK _ _ ⟨fun _ => xc6, ?_⟩
      clear hK K
      try simp only [Act.put, lyA, lyB, lyC, lyD, lyE, lyF]
      refine JW 7 (v := ?vc8) rfl (by kernel_rfl) rfl ?yc8 xc6 ?rc8
      case yc8 => (intro w hw; (go_simp; with_reducible rfl))
      simp only [Act.put, lyA, lyB, lyC, lyD, lyE, lyF]
      refine J_one 8 rfl (by kernel_rfl) (fun K hK => ?_)
      obtain ⟨hV, hVb⟩ := OwV.mk (lo := w.heap.size) (x := x) oc6 rfl h0 lc6 hxl
      have hO7 := hO.out.ext xc6
      have hth := row_there (o := k * 2 + 1) (s := 1) hO7.1 (by rw [hrl.out]; omega)
      obtain ⟨hth1, hth2⟩ := hth 0 (by omega)
      rw [Nat.add_zero] at hth1 hth2
      obtain ⟨u0, hth1⟩ := Option.isSome_iff_exists.1 hth1
      have hla := lit_add0 g (k * 2)
      go_simp
      refine hK _ _ ⟨fun h => absurd rfl h, ?_⟩
      clear hK K
      try simp only [Act.put, lyA, lyB, lyC, lyD, lyE, lyF]
      have ha := setCell_at wc6 g (k * 2 + 1) (.slice D nv dd)
      have hO8 := hid (hO7.putV (y := ⟨x.gone, D, nv, dd⟩) (by rw [hrl.out]; exact hlt) hrl.out.symm (by rw [hkm.out, ← hye.out]; exact hyg.out) (by rw [← hxe.out]; exact hV) (by have := hsz.out; have := (hO7.1.lt g rfl).2; omega) (fun i hi => by have := (hO.out.2.1 i hi).lt.2; omega))
      have hC8 := hid ((hC.out.ext xc6).keep (w' := wc6.setCell ⟨g, k * 2 + 1, none⟩ (.slice D nv dd)) ha.2 (by rw [ha.1]; exact Nat.le_refl _))
      have hx8 := hid ((hx.out.trans xc6).set hgw (p := ⟨g, k * 2 + 1, none⟩) (.slice D nv dd))
      have hsz8 := hid (show w5.heap.size ≤ (wc6.setCell ⟨g, k * 2 + 1, none⟩ (.slice D nv dd)).heap.size from by rw [ha.1]; exact Nat.le_trans hsz.out (xc6).size)
      have hrl8 := hid (show (rr.set k ⟨x.gone, D, nv, dd⟩).length = m from by rw [List.length_set]; exact hrl.out)
      have hlo8 := hid (show ∀ i, i < k + 1 → w5.heap.size ≤ rb (rrth (rr.set k ⟨x.gone, D, nv, dd⟩) i) from fun i hi => by
        by_cases e : i = k
        · subst e; rw [rrth_set_same (by rw [hrl.out]; exact hlt)]; have := hsz.out; omega
        · rw [rrth_set_ne e]; exact hlo.out i (by omega))
      have hmg8 := hid (show ∀ i, k + 1 ≤ i → i < m → rrth (rr.set k ⟨x.gone, D, nv, dd⟩) i = rrth rr0 i from fun i h1 h2 => by rw [rrth_set_ne (by omega)]; exact hmg.out i (by omega) h2)
      refine J_done (by kernel_rfl) (OnlyOn.normal ?_)
      clear ha hth1 hth2 hth hla hO7 hV hVb hO hC hx hsz hrl hlo hmg hcp hR
      go_wp2
      go_roundw
      case rel => exact ⟨k + 1, by omega, by go_num, hx8, hsz8, hC8, _, hO8, hrl8, hlo8, hmg8⟩
      case measure => simp [intOf]; omega
    · obtain rfl : k = m := by omega
      have hrl2 := hid (hrl.out.trans hlr.out.symm)
      have hO2 := hid (show OwR wr w.heap.size wd (.slice B1 k d2) rr rs rs.length from by rw [hlr.out]; exact hO.out)
      have hlo2 := hid (show ∀ i, i < rs.length → w5.heap.size ≤ rb (rrth rr i) from by rw [hlr.out]; exact hlo.out)
      have hsz2 := hid (show b < w5.heap.size ∧ h < w5.heap.size ∧ ∀ f, (Value.slice A1 n d1).ownBlock = some f → f < w5.heap.size from ⟨hlg.1, hlg.2.1, hfg.out⟩)
      obtain ⟨-, -, -, -, n1, n2, n3⟩ := hC.out
      have hne := hid (show b ≠ g ∧ h ≠ g ∧ (∀ f, (Value.slice A1 n d1).ownBlock = some f → f ≠ g ∧ f ≠ b ∧ f ≠ h) from ⟨n1, n2, n3⟩)
      obtain ⟨-, -, hG4, hof3, -⟩ := hC.out
      obtain ⟨⟨p0, f0⟩, ⟨p1, f1⟩, p2, f2⟩ := hG4.tt.three
      have Fin := hid (wrote3 hG4.tt hx.out hbw.2.1 (.int .i64 p) (.slice A1 n d1) (.slice B1 k d2))
      have h3 := set3_at wr h (.int .i64 p) (.slice A1 n d1) (.slice B1 k d2)
      have hT9 := hid (show OwT (((wr.setCell ⟨h, 0, none⟩ (.int .i64 p)).setCell ⟨h, 1, none⟩ (.slice A1 n d1)).setCell ⟨h, 2, none⟩ (.slice B1 k d2)) w.heap.size wd fs rs A1 n d1 B1 k d2 from
        ⟨rr, own_same hof3 (fun f hf => h3.2 f (hne.out.2.2 f hf).2.2), hO2.out.keep (fun q hq => h3.2 q (fun e => hne.out.2.1 (by rw [← e]; exact hg3 q hq))) (fun i hi => h3.2 _ (by have := hlo2.out i hi; have := hsz2.out.2.1; omega)), hrl2.out, hlr.out.symm, hlf.out.symm,
          fun f hf => ⟨fun e => (hne.out.2.2 f hf).1 (hg3 f e), fun i hi e => by have := hlo2.out i hi; have := hsz2.out.2.2 f hf; omega⟩⟩)
      clear h3 hG4 hof3 hO hlo hrl n1 n2 n3 hO2 hx hC hsz hmg
      go_wp2
      obtain ⟨⟨k0, k1, k2⟩, kx⟩ := Fin.out
      exact bodyPost_ret (v := .agg #[.int .i64 p, .slice A1 n d1, .slice B1 k d2]) (by simp [results, Tryz.results37, go_sem, k0, k1, k2]) rfl ⟨A1, d1, _, _, rfl, hT9.out, kx⟩
open Go.RowKit Go.Shelf
theorem all_vth {l l' : List Vl} (hl : l.length = l'.length) (h : ∀ t, t < l.length → vth l t = vth l' t) : l = l' := by
  refine List.ext_getElem hl (fun i h1 h2 => ?_)
  have := h i h1
  rwa [vth_get h1, vth_get h2] at this
theorem eq127_any (A B : Option Addr) (n c m d : Nat) (l l' : List Vl) (w : World) (hl : RdV w A n c l) (hl' : RdV w B m d l') (R : Bool) (hR : Hid (R = true ↔ l = l')) : Calls Tryz.prog 127 #[.slice A n c, .slice B m d] w (Give (.bool R) w) := by
  have hmx := Rd.max hl
  have hmy := Rd.max hl'
  have hn := hl.len
  have hm := hl'.len
  by_cases hnm : n = m
  · subst hnm
    replace hn := hid hn
    replace hm := hid hm
    go_enter Tryz.func127, Tryz.ntmps127
    go_wp2_with fail
    go_loopw [13] (fun i wr => ∃ k : Nat, k ≤ n ∧ i = .int .i64 k ∧ Hid (Ext w wr) ∧ Hid (∀ t, t < k → vth l t = vth l' t)) (fun i _ => n - (intOf i).toNat)
    case atStart => exact ⟨0, by omega, rfl, Ext.refl w, fun t h => absurd h (Nat.not_lt_zero _)⟩
    case round =>
      obtain ⟨k, hk, rfl, hx, hall⟩ := hrel
      by_cases hlt : k < n
      · obtain ⟨ad, rfl, x0, x1, x2⟩ := (hl.ext hx.out).at_ hlt
        obtain ⟨bd, rfl, y0, y1, y2⟩ := (hl'.ext hx.out).at_ hlt
        have hki : (k : Int) < (n : Int) := by omega
        have hq := ne66 (vth l k) (vth l' k)
        unfold vl at hq
        have hqi := eqV_iff (a := vth l k) (b := vth l' k)
        cases hh : eqV (vth l k) (vth l' k) with
        | true =>
          rw [hh] at hq
          have hxy := hqi.1 hh
          have hall2 : Hid (∀ t, t < k + 1 → vth l t = vth l' t) := fun t ht => by
            rcases Nat.lt_or_eq_of_le (Nat.lt_succ_iff.1 ht) with h | h
            · exact hall.out t h
            · rw [h]; exact hxy
          generalize vth l k = x at *
          generalize vth l' k = y at *
          clear hall hxy hqi hh
          go_upto_region 6 with fail
          go_quiet (fail)
          go_wp2
          go_roundw
          case rel => exact ⟨k + 1, by omega, by go_num, hx.out.drewN_right _, hall2⟩
          case measure => simp [intOf]; omega
        | false =>
          rw [hh] at hq
          have hne : Hid (R = false) := by
            cases R with
            | false => rfl
            | true => rw [hqi.2 (by rw [hR.out.1 rfl])] at hh; cases hh
          generalize vth l k = x at *
          generalize vth l' k = y at *
          clear hR hall hqi hh
          go_upto_region 6 with fail
          go_quiet (fail)
          go_wp2
          go_ret
          exact ⟨by rw [hne.out] <;> rfl, hx.out.drewN_right _⟩
      · obtain rfl : k = n := by omega
        have hR1 : Hid (R = true) := hR.out.2 (all_vth (hn.out.trans hm.out.symm) (fun t ht => hall.out t (by have := hn.out; omega)))
        clear hR hall
        go_wp2
        go_ret
        exact ⟨by rw [hR1.out] <;> rfl, hx.out⟩
  · have hne : Hid (R = false) := by
      cases R with
      | false => rfl
      | true => exact absurd (by rw [← hn, ← hm, hR.out.1 rfl]) hnm
    have hnm2 : ((n : Int) != (m : Int)) = true := by
      rw [bne_iff_ne]
      omega
    clear hR hl hl' hn hm
    go_enter Tryz.func127, Tryz.ntmps127
    go_wp2
    go_ret
    exact ⟨by rw [hne.out] <;> rfl, Ext.refl _⟩
theorem all_fth {l l' : List Fd} (hl : l.length = l'.length) (h : ∀ t, t < l.length → fth l t = fth l' t) : l = l' := by
  refine List.ext_getElem hl (fun i h1 h2 => ?_)
  have := h i h1
  rwa [fth_get h1, fth_get h2] at this
theorem eq126_any (A B : Option Addr) (n c m d : Nat) (l l' : List Fd) (w : World) (hl : RdF w A n c l) (hl' : RdF w B m d l') (R : Bool) (hR : Hid (R = true ↔ l = l')) : Calls Tryz.prog 126 #[.slice A n c, .slice B m d] w (Give (.bool R) w) := by
  have hmx := Rd.max hl
  have hmy := Rd.max hl'
  have hn := hl.len
  have hm := hl'.len
  by_cases hnm : n = m
  · subst hnm
    replace hn := hid hn
    replace hm := hid hm
    go_enter Tryz.func126, Tryz.ntmps126
    go_wp2_with fail
    go_loopw [13] (fun i wr => ∃ k : Nat, k ≤ n ∧ i = .int .i64 k ∧ Hid (Ext w wr) ∧ Hid (∀ t, t < k → fth l t = fth l' t)) (fun i _ => n - (intOf i).toNat)
    case atStart => exact ⟨0, by omega, rfl, Ext.refl w, fun t h => absurd h (Nat.not_lt_zero _)⟩
    case round =>
      obtain ⟨k, hk, rfl, hx, hall⟩ := hrel
      by_cases hlt : k < n
      · obtain ⟨ad, rfl, x0, x1, x2, x3⟩ := (hl.ext hx.out).at_ hlt
        obtain ⟨bd, rfl, y0, y1, y2, y3⟩ := (hl'.ext hx.out).at_ hlt
        have hki : (k : Int) < (n : Int) := by omega
        have hq := ne64 (fth l k) (fth l' k)
        unfold fd at hq
        have hqi := eqF_iff (a := fth l k) (b := fth l' k)
        cases hh : eqF (fth l k) (fth l' k) with
        | true =>
          rw [hh] at hq
          have hxy := hqi.1 hh
          have hall2 : Hid (∀ t, t < k + 1 → fth l t = fth l' t) := fun t ht => by
            rcases Nat.lt_or_eq_of_le (Nat.lt_succ_iff.1 ht) with h | h
            · exact hall.out t h
            · rw [h]; exact hxy
          generalize fth l k = x at *
          generalize fth l' k = y at *
          clear hall hxy hqi hh
          go_upto_region 6 with fail
          go_quiet (fail)
          go_wp2
          go_roundw
          case rel => exact ⟨k + 1, by omega, by go_num, hx.out.drewN_right _, hall2⟩
          case measure => simp [intOf]; omega
        | false =>
          rw [hh] at hq
          have hne : Hid (R = false) := by
            cases R with
            | false => rfl
            | true => rw [hqi.2 (by rw [hR.out.1 rfl])] at hh; cases hh
          generalize fth l k = x at *
          generalize fth l' k = y at *
          clear hR hall hqi hh
          go_upto_region 6 with fail
          go_quiet (fail)
          go_wp2
          go_ret
          exact ⟨by rw [hne.out] <;> rfl, hx.out.drewN_right _⟩
      · obtain rfl : k = n := by omega
        have hR1 : Hid (R = true) := hR.out.2 (all_fth (hn.out.trans hm.out.symm) (fun t ht => hall.out t (by have := hn.out; omega)))
        clear hR hall
        go_wp2
        go_ret
        exact ⟨by rw [hR1.out] <;> rfl, hx.out⟩
  · have hne : Hid (R = false) := by
      cases R with
      | false => rfl
      | true => exact absurd (by rw [← hn, ← hm, hR.out.1 rfl]) hnm
    have hnm2 : ((n : Int) != (m : Int)) = true := by
      rw [bne_iff_ne]
      omega
    clear hR hl hl' hn hm
    go_enter Tryz.func126, Tryz.ntmps126
    go_wp2
    go_ret
    exact ⟨by rw [hne.out] <;> rfl, Ext.refl _⟩
def blankV (fs : List Fd) : List Vl := fs.map emptyV
theorem blank_step (fs : List Fd) {k : Nat} (h : k < fs.length) : vs (blankV (fs.take (k + 1))) = vs (blankV (fs.take k)) ++ vcl (emptyV (fth fs k)) := by
  unfold blankV vs
  rw [List.take_succ_eq_append_getElem h, List.map_append, fth_get h, cls_app, List.map_singleton, cls_one]
theorem vfE_len {fs : List Fd} (h : vfE fs = 0) : 0 < fs.length ∧ fs.length ≤ 16 := by
  unfold vfE at h
  split at h
  · cases h
  split at h
  · cases h
  split at h
  · cases h
  split at h
  · cases h
  omega
theorem Blank_any (A : Option Addr) (n c : Nat) (fs : List Fd) (w : World) (hl : RdF w A n c fs) (hE : vfE fs = 0) : Calls Tryz.prog 44 #[.slice A n c] w fun e w' =>
    ∃ B d, e = .returned (.tuple #[.agg #[.bool false, .slice B n d], .int .i64 0]) ∧ w'.ownsRow w.heap.size 66 3 (.slice B n d) n (vs (blankV fs)) ∧ Ext w w' := by
  have hmx := Rd.max hl
  have hlen := hid hl.len
  have hn : n ≤ 16 := by have := vfE_len hE; rw [← hlen.out]; omega
  have hG := HB.new w [.bool false, .slice none 0 0] 69
  have hx := hid (Ext.new w (.cells #[.bool false, .slice none 0 0] 69))
  have q := hid (ValidateFields_any A n c fs _ (hl.ext hx.out))
  rw [hE] at q
  have hl := hid hl
  go_enter Tryz.func44, Tryz.ntmps44
  go_upto_region 1 with fail
  obtain ⟨g, hg0⟩ : ∃ g, g = w.heap.size := ⟨_, rfl⟩
  rw [← hg0] at hG
  try simp only [← hg0]
  generalize w.alloc (.cells #[.bool false, .slice none 0 0] 69) = w1 at *
  go_wp2_with fail
  refine q.out.mono ?_
  rintro e w2 ⟨rfl, hx2⟩
  replace hG := hid (hG.ext hx2)
  replace hx := hid (hx.out.trans hx2)
  clear q hx2
  go_upto_region 5 with fail
  have hH := HB.new w2 [.bool false, .slice none 0 0] 69
  have hR := R2.new w2 false none 0 0
  have hx2 := Ext.new w2 (.cells #[.bool false, .slice none 0 0] 69)
  have hgl := hG.out.lt
  replace hG := hid (hG.out.ext hx2)
  replace hx := hid (hx.out.trans hx2)
  obtain ⟨h, hh0⟩ : ∃ h, h = w2.heap.size := ⟨_, rfl⟩
  rw [← hh0] at hH hR hgl
  simp only [← hh0]
  try simp only [← hg0]
  have hgh : w.heap.size ≤ g ∧ g < h := ⟨by omega, by omega⟩
  clear hg0 hh0 hx2
  generalize w2.alloc (.cells #[.bool false, .slice none 0 0] 69) = w3 at *
  have hhl : h < w3.heap.size := hH.lt
  have hH := hid hH
  have hR := hid hR
  clear hgl
  go_wp2_with fail
  go_loopw [16] (fun i wr => ∃ k : Nat, k ≤ n ∧ i = .int .i64 k ∧ Hid (Ext w wr) ∧ Hid (HB wr g 2 69) ∧ Hid (HB wr h 2 69) ∧ (∃ B d, Hid (R2 wr h false B k d) ∧ Hid (wr.ownsRow w.heap.size 66 3 (.slice B k d) k (vs (blankV (fs.take k)))) ∧ Hid (∀ q, (Value.slice B k d).ownBlock = some q → h < q))) (fun i _ => n - (intOf i).toNat)
  case atStart => exact ⟨0, by omega, rfl, hx, hG, hH, none, 0, hR, World.ownsRow_nil _ _ _ _, fun q hq => by cases hq⟩
  case round =>
    clear hx hG hH hR
    obtain ⟨k, hk, rfl, hx, hG, hH, B, d, hR, hO, hq⟩ := hrel
    by_cases hlt : k < n
    · obtain ⟨ad, rfl, x0, x1, x2, x3⟩ := (hl.out.ext hx.out).at_ hlt
      have hst := hid (blank_step fs (k := k) (by rw [hlen.out]; exact hlt))
      generalize fth fs k = f at *
      have hF := F4.new wr f
      have hx3 := hid (Ext.new wr (.cells #[.string f.nm, .int .i64 f.k, .int .i64 f.wd, .bool f.nl] 64))
      have hql := hid (fun q (hq : (Value.slice B k d).ownBlock = some q) => (hO.out.lt q hq).2)
      have hlr := hid (show g < wr.heap.size ∧ h < wr.heap.size from ⟨hG.out.lt, hH.out.lt⟩)
      replace hG := hid (hG.out.ext hx3.out)
      replace hH := hid (hH.out.ext hx3.out)
      replace hR := hid (hR.out.ext hx3.out)
      replace hO := hid (hx3.out.own hO.out)
      replace hx := hid (hx.out.trans hx3.out)
      have hob := hid (fun q (hq : (Value.slice B k d).ownBlock = some q) => (hO.out.lt q hq).1)
      go_upto_region 8 with fail
      generalize wr.alloc (.cells #[.string f.nm, .int .i64 f.k, .int .i64 f.wd, .bool f.nl] 64) = w6 at *
      generalize wr.heap.size = b7 at *
      clear hx3 x0 x1 x2 x3
      replace hO := hid (Ext.own (Ext.refl w6).drew_right hO.out)
      have xa : (fun w' => R2 w' h false B k d ∧ F4 w' b7 f ∧ Ext w w' ∧ HB w' g 2 69 ∧ HB w' h 2 69) w6.drew := ⟨hR.out.ext (Ext.refl w6).drew_right, hF.ext (Ext.refl w6).drew_right, hx.out.drew_right, hG.out.ext (Ext.refl w6).drew_right, hH.out.ext (Ext.refl w6).drew_right⟩
      refine region_J (fun w' => R2 w' h false B k d ∧ F4 w' b7 f ∧ Ext w w' ∧ HB w' g 2 69 ∧ HB w' h 2 69) 7 (by kernel_rfl) ?_
      generalize w6.drew = da at * 
      refine JW 0 (v := ?va1) rfl (by kernel_rfl) rfl ?ya1 xa ?ra1
      case ya1 => (intro w hw; (go_simp; with_reducible rfl))
      simp only [Act.put, lyA, lyB, lyC, lyD, lyE, lyF]
      refine JW 1 (v := ?va2) rfl (by kernel_rfl) rfl ?ya2 xa ?ra2
      case ya2 => (intro w hw; obtain ⟨⟨r0, r1, hb⟩, ⟨c0, c1, c2, c3, hb7⟩, -⟩ := hw; (go_simp; with_reducible rfl))
      simp only [Act.put, lyA, lyB, lyC, lyD, lyE, lyF]
      refine JW 2 (v := ?va3) rfl (by kernel_rfl) rfl ?ya3 xa ?ra3
      case ya3 => (intro w hw; obtain ⟨⟨r0, r1, hb⟩, ⟨c0, c1, c2, c3, hb7⟩, -⟩ := hw; (go_simp; with_reducible rfl))
      simp only [Act.put, lyA, lyB, lyC, lyD, lyE, lyF]
      refine J_one 3 rfl (by kernel_rfl) (fun K hK => ?_)
      go_simp
      refine (empty_any f _).mono ?_
      rintro e wa4 ⟨rfl, hxa4⟩
      unfold vl
      replace hO := hid (Ext.own hxa4 hO.out)
      refine hK _ _ ⟨fun _ => ⟨(xa).1.ext hxa4, (xa).2.1.ext hxa4, (xa).2.2.1.trans hxa4, (xa).2.2.2.1.ext hxa4, (xa).2.2.2.2.ext hxa4⟩, ?_⟩
      clear hK K
      try simp only [Act.put, lyA, lyB, lyC, lyD, lyE, lyF]
      have xa4 : (fun w' => R2 w' h false B k d ∧ F4 w' b7 f ∧ Ext w w' ∧ HB w' g 2 69 ∧ HB w' h 2 69) wa4 := ⟨(xa).1.ext hxa4, (xa).2.1.ext hxa4, (xa).2.2.1.trans hxa4, (xa).2.2.2.1.ext hxa4, (xa).2.2.2.2.ext hxa4⟩
      refine J_one 4 rfl (by kernel_rfl) (fun K hK => ?_)
      go_simp
      obtain ⟨wa5, ewa5⟩ : ∃ wa5, wa5 = wa4.alloc (.cells #[.int .i64 (emptyV f).k, .int .i64 (emptyV f).n, .string (emptyV f).s] 66) := ⟨_, rfl⟩
      obtain ⟨ba5, eba5⟩ : ∃ ba5, ba5 = wa4.heap.size := ⟨_, rfl⟩
      have sa5 := one_rd wa4 (vcl (emptyV f)) 66 3 rfl
      have hxa5 := Ext.new wa4 (.cells #[.int .i64 (emptyV f).k, .int .i64 (emptyV f).n, .string (emptyV f).s] 66)
      change Rd (wa4.alloc (.cells #[.int .i64 (emptyV f).k, .int .i64 (emptyV f).n, .string (emptyV f).s] 66)) _ _ _ _ _ at sa5
      rw [← ewa5] at sa5 hxa5
      rw [← eba5] at sa5
      rw [← ewa5, ← eba5]
      clear ewa5 eba5
      replace hO := hid (Ext.own hxa5 hO.out)
      refine hK _ _ ⟨fun _ => ⟨(xa4).1.ext hxa5, (xa4).2.1.ext hxa5, (xa4).2.2.1.trans hxa5, (xa4).2.2.2.1.ext hxa5, (xa4).2.2.2.2.ext hxa5⟩, ?_⟩
      clear hK K
      try simp only [Act.put, lyA, lyB, lyC, lyD, lyE, lyF]
      have xa5 : (fun w' => R2 w' h false B k d ∧ F4 w' b7 f ∧ Ext w w' ∧ HB w' g 2 69 ∧ HB w' h 2 69) wa5 := ⟨(xa4).1.ext hxa5, (xa4).2.1.ext hxa5, (xa4).2.2.1.trans hxa5, (xa4).2.2.2.1.ext hxa5, (xa4).2.2.2.2.ext hxa5⟩
      refine J_one 5 rfl (by kernel_rfl) (fun K hK => ?_)
      obtain ⟨Aa6, ca6, wa6, happa6, owna6, hga6, hgba6⟩ := app27 wa5 w.heap.size 27 (.slice B k d) k _ hO.out _ 1 1 _ sa5 (vcl_one _) (xa5).2.2.1.size (by omega)
      have hka6 := fun j hj hne => hga6.block j hj hne
      replace happa6 := hid happa6
      have lha6 := (xa5).2.2.2.2.lt
      refine step_run rfl _ (ex_append _ _ _ _ rfl _ _ (by simp [Act.eval, Act.put]) (by simp [Act.eval, Act.put]) _ happa6.out) ?_
      refine hK _ _ ⟨fun _ => ⟨(xa5).1.keep (hka6 h (by have := hlr.out; omega) (fun e => by have := hq.out h e.symm; omega)) hga6.size, (xa5).2.1.keep (hka6 b7 (by have := (xa5).2.1.2.2.2.2; exact this) (fun e => by have := hql.out b7 e.symm; omega)) hga6.size, (xa5).2.2.1.app hga6 hob.out, (xa5).2.2.2.1.keep (hka6 g (xa5).2.2.2.1.lt (fun e => by have := hq.out g e.symm; omega)), (xa5).2.2.2.2.keep (hka6 h (xa5).2.2.2.2.lt (fun e => by have := hq.out h e.symm; omega))⟩, ?_⟩
      clear hK K
      try simp only [Act.put, lyA, lyB, lyC, lyD, lyE, lyF]
      have xa6 : (fun w' => R2 w' h false B k d ∧ F4 w' b7 f ∧ Ext w w' ∧ HB w' g 2 69 ∧ HB w' h 2 69) wa6 := ⟨(xa5).1.keep (hka6 h (by have := hlr.out; omega) (fun e => by have := hq.out h e.symm; omega)) hga6.size, (xa5).2.1.keep (hka6 b7 (by have := (xa5).2.1.2.2.2.2; exact this) (fun e => by have := hql.out b7 e.symm; omega)) hga6.size, (xa5).2.2.1.app hga6 hob.out, (xa5).2.2.2.1.keep (hka6 g (xa5).2.2.2.1.lt (fun e => by have := hq.out g e.symm; omega)), (xa5).2.2.2.2.keep (hka6 h (xa5).2.2.2.2.lt (fun e => by have := hq.out h e.symm; omega))⟩
      refine JW 6 (v := ?va7) rfl (by kernel_rfl) rfl ?ya7 xa6 ?ra7
      case ya7 => (intro w hw; (go_simp; with_reducible rfl))
      simp only [Act.put, lyA, lyB, lyC, lyD, lyE, lyF]
      refine J_one 7 rfl (by kernel_rfl) (fun K hK => ?_)
      have hq8 : Hid (∀ q, (Value.slice Aa6 (k + 1) ca6).ownBlock = some q → h < q) := fun q h1 => by
        rcases hgba6 with h2 | h2
        · exact hq.out q (by rw [← h2]; exact h1)
        · have := h2 q h1; omega
      rw [← hst.out] at owna6
      obtain ⟨hR6, hF6, hx6, hG6, hH6⟩ := xa6
      have fz := hH6.tt.free (o := 1) (by omega)
      obtain ⟨r0, r1, hb⟩ := hR6
      go_simp
      refine hK _ _ ⟨fun h => absurd rfl h, ?_⟩
      clear hK K
      try simp only [Act.put, lyA, lyB, lyC, lyD, lyE, lyF]
      have hs := setCell_at wa6 h 1 (.slice Aa6 (k + 1) ca6)
      have hO8 := hid (own_same (w' := wa6.setCell ⟨h, 1, none⟩ (.slice Aa6 (k + 1) ca6)) owna6 (fun q hq => hs.2 q (by have := hq8.out q hq; omega)))
      have hR8 := hid (R2.set1 (A' := Aa6) (n' := k + 1) (c' := ca6) ⟨r0, r1, hb⟩)
      have hx8 := hid (hx6.set (p := ⟨h, 1, none⟩) (show w.heap.size ≤ h by omega) (.slice Aa6 (k + 1) ca6))
      have hG8 := hid (hG6.set (g := h) (o := 1) (.slice Aa6 (k + 1) ca6))
      have hH8 := hid (hH6.set (g := h) (o := 1) (.slice Aa6 (k + 1) ca6))
      clear hs owna6 hx6 hG6 hH6 r0 r1 hb fz hF6 hO hR hG hH hx
      refine J_done (by kernel_rfl) (OnlyOn.normal ?_)
      go_wp2
      go_roundw
      case rel => exact ⟨k + 1, by omega, by go_num, hx8, hG8, hH8, _, _, hR8, hO8, hq8⟩
      case measure => simp [intOf]; omega
    · obtain rfl : k = n := by omega
      rw [List.take_of_length_le (by rw [hlen.out]; omega)] at hO
      obtain ⟨r0, r1, hb⟩ := hR.out
      obtain ⟨⟨p0, f0⟩, p1, f1⟩ := hG.out.tt.two
      obtain ⟨⟨k0, k1⟩, kx, kk⟩ := wrote2 hG.out.tt hx.out hgh.1 (.bool false) (.slice B k d)
      have hO8 := hid (own_same hO.out (fun q hq' => kk q (by have := hq.out q hq'; omega)))
      have kx := hid kx
      have kc := hid (show _ ∧ _ from ⟨k0, k1⟩)
      clear hO hx hG hH kk k0 k1 hR
      go_wp2
      obtain ⟨k0, k1⟩ := kc.out
      exact bodyPost_ret (v := .tuple #[.agg #[.bool false, .slice B k d], .int .i64 0]) (by simp [results, Tryz.results44, go_sem, k0, k1]) rfl ⟨B, d, rfl, hO8.out, kx.out⟩
end Go.Proofs.YtngoebbmgpdeiaaGreatDoor
