/-
  A log: how it lies in memory. No function of the program in sight; Changes: their values, their acts; How changes that came in read: a table, tags, values, acts. For the row; Regions that draw their order, taken step by step, where what is asked of the world holds only until a given store: bound to no program; The bag: a record is put; Whether changes are heavy: some answer.
-/
import Derived.Test.YtngoebbmgpdeiaaGreatDoorQ7
import Derived.Test.YtngoebbmgpdeiaaGreatDoorQ6
import Derived.ProofKit
import Derived.OpenShut
import Derived.ShutString
import Derived.Lib.SmallJoins
import Derived.Deep.Slices
import Derived.Deep.Fields
import Derived.ChangeSame
import Derived.Test.YtngoebbmgpdeiaaGreatDoorQ1
set_option maxRecDepth 100000
set_option maxHeartbeats 40000000
set_option linter.unusedVariables false
set_option linter.unusedSimpArgs false
namespace Go.Proofs.YtngoebbmgpdeiaaGreatDoor
open Go.RowKit Go.Shelf Go.MuLone
theorem OwTt.put {w : World} {lo wd : Nat} {fs : List Fd} {rs : List Rc} {t : Tt} {y : Rr} {x : Rc} {i g : Nat} (h : OwTt w lo wd fs rs t) (hi : i < rs.length) (hg : t.B = some ⟨g, 0, none⟩) (hy : OwV w lo wd y x) (hyn : ¬ t.F (rb y)) :
    OwTt (w.setCells g (i * 2) [.bool y.g, .slice y.A y.n y.c]) lo wd fs (rs.set i x) ⟨t.A, t.n, t.c, t.B, t.m, t.d, t.rr.set i y⟩ := by
  obtain ⟨h1, h2, h3, h4, h5, h6⟩ := h
  have hgb : (Value.slice t.B t.m t.d).ownBlock = some g := by rw [hg]; rfl
  obtain ⟨a1, a2, a3, a4, a5⟩ := setCells_at [.bool y.g, .slice y.A y.n y.c] w g (i * 2)
  have hyg : rb y ≠ g := fun e => hyn (.inr (.inl (by rw [hgb, e])))
  have hir : i < t.rr.length := by omega
  obtain ⟨b1, b2, b3, b4⟩ := h2
  have em : t.m = t.rr.length := by omega
  have o1 := own_setK (o := i * 2 + 1) (u := .slice y.A y.n y.c) (own_setK (o := i * 2) (u := .bool y.g) (by rw [hg, em] at b1; exact b1))
  rw [rrs_set y t.rr i hir] at o1
  refine ⟨own_same h1 (fun f hf => a5 f (fun e => (h6 f hf).1 (by rw [hgb, e]))), ⟨by rw [List.length_set, hg, em]; exact o1, fun k hk => ?_, fun k j hk hj hkj => ?_, fun k hk => ?_⟩, by simpa using h3, by simpa using h4, h5, fun f hf => ⟨(h6 f hf).1, fun j hj => ?_⟩⟩
  · rw [List.length_set] at hk
    show OwV _ lo wd (rrth (t.rr.set i y) k) (rth (rs.set i x) k)
    by_cases e : k = i
    · subst e; rw [rrth_set_same hir, rth_set_same hi]; exact hy.keep (a5 _ hyg)
    · rw [rrth_set_ne e, rth_set_ne e]; exact (b2 k hk).keep (a5 _ (fun e2 => b4 k hk (by rw [hgb, e2])))
  · rw [List.length_set] at hk hj
    show rb (rrth (t.rr.set i y) k) ≠ rb (rrth (t.rr.set i y) j)
    by_cases e : k = i
    · subst e
      rw [rrth_set_same hir, rrth_set_ne (Ne.symm hkj)]
      exact fun e2 => hyn (.inr (.inr ⟨j, by omega, e2.symm⟩))
    · rw [rrth_set_ne e]
      by_cases e2 : j = i
      · subst e2; rw [rrth_set_same hir]; exact fun e3 => hyn (.inr (.inr ⟨k, by omega, e3⟩))
      · rw [rrth_set_ne e2]; exact b3 k j hk hj hkj
  · rw [List.length_set] at hk
    show _ ≠ some (rb (rrth (t.rr.set i y) k))
    by_cases e : k = i
    · subst e; rw [rrth_set_same hir]; exact fun e2 => hyn (.inr (.inl e2))
    · rw [rrth_set_ne e]; exact b4 k hk
  · rw [List.length_set] at hj
    show rb (rrth (t.rr.set i y) j) ≠ f
    by_cases e : j = i
    · subst e; rw [rrth_set_same hir]; exact fun e2 => hyn (.inl (by rw [hf, e2]))
    · rw [rrth_set_ne e]; exact (h6 f hf).2 j hj
theorem OwTt.put_F {t : Tt} {y : Rr} {i k : Nat} (h : (⟨t.A, t.n, t.c, t.B, t.m, t.d, t.rr.set i y⟩ : Tt).F k) : t.F k ∨ rb y = k := by
  rcases h with e | e | ⟨j, hj, e⟩
  · exact .inl (.inl e)
  · exact .inl (.inr (.inl e))
  · simp only [List.length_set] at hj e
    by_cases e2 : j = i
    · subst e2; rw [rrth_set_same hj] at e; exact .inr e
    · rw [rrth_set_ne e2] at e; exact .inl (.inr (.inr ⟨j, hj, e⟩))
theorem cl121_any (i g3 a m : Nat) (p : Int) (A B : Option Addr) (n c d : Nat) (w : World) (hi : i < m) (hm : m ≤ 300) (k3 : Bk w g3 [.pointer (some ⟨a, 0, none⟩)] 150) (ka : Bk w a [.int .i64 p, .slice A n c, .slice B m d] 25) : Calls Tryz.prog 121 #[.int .i64 ((i : Int) + 1), .pointer (some ⟨g3, 0, none⟩)] w (Give (.bool false) w) := by
  have c0 := k3.c1
  obtain ⟨v0, v1, v2⟩ := ka.c3
  have i1 : decide ((i : Int) + 1 < 1) = false := by simp; omega
  have i2 : decide ((m : Int) < (i : Int) + 1) = false := by simp; omega
  go_enter Tryz.func121, Tryz.ntmps121
  go_wp2
  go_ret
  exact ⟨rfl, Ext.refl _⟩
theorem ix166_one (g3 h : Nat) (v : Int) (w : World) (kh : w.cell? ⟨h, 0, none⟩ = some (.int .i64 v)) (hp : ∀ w', Ext w w' → Calls Tryz.prog 121 #[.int .i64 v, .pointer (some ⟨g3, 0, none⟩)] w' (Give (.bool false) w')) :
    Calls Tryz.prog 166 #[.slice (some ⟨h, 0, none⟩) 1 1, .func (.func 121) #[] #[.pointer (some ⟨g3, 0, none⟩)]] w (Give (.int .i64 (-1)) w) := by
  have en : ∀ (a : Value) (w : World), (callFunc 121 #[a, .pointer (some ⟨g3, 0, none⟩)]).run Tryz.prog w = .ok (.enter 121 #[a, .pointer (some ⟨g3, 0, none⟩)]) w := fun a w => by kernel_rfl
  have hp := hid hp
  have kh := hid kh
  go_enter Tryz.func166, Tryz.ntmps166
  go_wp2_with fail
  go_loopw [8] (fun i wr => ∃ k : Nat, k ≤ 1 ∧ i = .int .i64 k ∧ Hid (Ext w wr)) (fun i _ => 1 - (intOf i).toNat)
  case atStart => exact ⟨0, by omega, rfl, Ext.refl _⟩
  case round =>
    obtain ⟨k, hk, rfl, hx⟩ := hrel
    by_cases hlt : k = 0
    · subst hlt
      have c0 := hx.out.cell kh.out
      go_wp2_with fail
      refine (hp.out _ hx.out).mono ?_
      rintro e w3 ⟨rfl, hx3⟩
      replace hx := hid (hx.out.trans hx3)
      clear hx3 c0
      go_wp2
      go_roundw
      case rel => exact ⟨1, by omega, by go_num, hx⟩
      case measure => simp [intOf]
    · obtain rfl : k = 1 := by omega
      go_wp2
      go_ret
      exact ⟨rfl, hx.out⟩
theorem cont120_one (g3 h : Nat) (v : Int) (w : World) (kh : w.cell? ⟨h, 0, none⟩ = some (.int .i64 v)) (hp : ∀ w', Ext w w' → Calls Tryz.prog 121 #[.int .i64 v, .pointer (some ⟨g3, 0, none⟩)] w' (Give (.bool false) w')) :
    Calls Tryz.prog 120 #[.slice (some ⟨h, 0, none⟩) 1 1, .func (.func 121) #[] #[.pointer (some ⟨g3, 0, none⟩)]] w (Give (.bool false) w) := by
  have q := hid (ix166_one g3 h v w kh hp)
  clear hp kh
  go_enter Tryz.func120, Tryz.ntmps120
  go_wp2_with fail
  refine q.out.mono ?_
  rintro e w2 ⟨rfl, hx⟩
  clear q
  go_wp2
  go_ret
  exact ⟨rfl, hx⟩
theorem look193 {w : World} {r : Nat} (h : IsMap keyI w r []) (k : Int) : (Instr.lookup 193 (.map (some r)) (.int .i64 k) false).run Tryz.prog w = .ok (.bool false) w := h.look Tryz.underlying193 (zeroB w) k false
def PutEnd (lo i a : Nat) (p : Int) (fs : List Fd) (rs : List Rc) (x : Rc) (t1 : Tt) (w1 wr : World) : Prop := ∃ y : Rr, Bk wr a [.int .i64 p, .slice t1.A t1.n t1.c, .slice t1.B rs.length t1.d] 25 ∧ OwTt wr lo fs.length fs (rs.set i x) ⟨t1.A, t1.n, t1.c, t1.B, t1.m, t1.d, t1.rr.set i y⟩ ∧ w1.heap.size ≤ rb y ∧ rb y ≠ a ∧ Mv w1 wr (fun k => k = a ∨ t1.F k ∨ False)
theorem chg119 (b g1 g2 h1 h2 i : Nat) (p : Int) (fs : List Fd) (rs : List Rc) (x : Rc) (C : Option Addr) (cv : Nat) (w : World) (hE : okT p fs rs) (hi : i < rs.length) (hx : recE fs p x = 0) (hv : RdV w C fs.length cv x.v) (hvb : ¬ atB C fs.length b)
    (k1 : Bk w g1 [.slice (some ⟨h1, 0, none⟩) 1 1] 51) (kh1 : Bk w h1 [.int .i64 ((i : Int) + 1)] 3) (k2 : Bk w g2 [.slice (some ⟨h2, 0, none⟩) 1 1] 23) (kh2 : Bk w h2 [.bool x.gone, .slice C fs.length cv] 69) (n1 : g1 ≠ b) (n2 : g2 ≠ b) (n3 : h1 ≠ b) (n4 : h2 ≠ b) :
    Chg 119 [.pointer (some ⟨g1, 0, none⟩), .pointer (some ⟨g2, 0, none⟩)] w b p fs rs (rs.set i x) 0 (fun _ => False) (fun _ => True) := by
  intro w1 a t1 hm ka ho hla hna
  have k1 := k1.keep (hm.at k1.lt n1)
  have k2 := k2.keep (hm.at k2.lt n2)
  have kh1 := kh1.keep (hm.at kh1.lt n3)
  have kh2 := kh2.keep (hm.at kh2.lt n4)
  have hv1 := hv.keepB (fun g hg => hm.at (hv.atlt hg) (fun e => hvb (e ▸ hg)))
  obtain ⟨w2, g3, e3, h3, s3, k3, x3⟩ := newB w1 [.pointer (some ⟨a, 0, none⟩)] 150
  have hl := hE.len
  have em := ho.2.2.2.1
  have ka2 := ka.ext x3
  rw [em] at ka2
  have q120 := hid (cont120_one g3 h1 _ w2 ((kh1.ext x3).at rfl) (fun w' hx' => cl121_any i g3 a rs.length p t1.A t1.B t1.n t1.c t1.d w' hi (by omega) (k3.ext hx') (ka2.ext hx')))
  have em := hid em
  have a1 := (k1.ext x3).c1
  have a2 := (k2.ext x3).c1
  have K := hid (show Bk w2 g3 [.pointer (some ⟨a, 0, none⟩)] 150 ∧ Bk w2 g1 [.slice (some ⟨h1, 0, none⟩) 1 1] 51 ∧ Bk w2 h1 [.int .i64 ((i : Int) + 1)] 3 ∧ Bk w2 g2 [.slice (some ⟨h2, 0, none⟩) 1 1] 23 ∧ Bk w2 h2 [.bool x.gone, .slice C fs.length cv] 69 ∧ Bk w2 a [.int .i64 p, .slice t1.A t1.n t1.c, .slice t1.B rs.length t1.d] 25 ∧ OwTt w2 w.heap.size fs.length fs rs t1 ∧ RdV w2 C fs.length cv x.v from
    ⟨k3, k1.ext x3, kh1.ext x3, k2.ext x3, kh2.ext x3, ka2, ho.ext x3, hv1.ext x3⟩)
  have hd := hid x3
  have hm0 := hm.size
  clear hm k1 k2 kh1 kh2 hv hv1 k3 x3 ka ka2 ho
  have hwl := hid hm0
  have hmm := @run_makeMap Tryz.prog
  show Calls Tryz.prog 119 #[.pointer (some ⟨a, 0, none⟩), .pointer (some ⟨g1, 0, none⟩), .pointer (some ⟨g2, 0, none⟩)] w1 _
  go_enter Tryz.func119, Tryz.ntmps119
  go_upto_region 1 with fail
  simp only [e3.out, h3.out]
  clear e3 h3
  go_wp2_with fail
  refine q120.out.mono ?_
  rintro e w3 ⟨rfl, hx3⟩
  have m0 : IsMap keyI (w3.alloc (.map #[] 0)) w3.heap.size [] := IsMap.new w3
  have hx4 := hid (hx3.trans (Ext.new w3 (.map #[] 0)))
  clear q120 a1 a2
  go_upto_region 6 with fail
  have hr3 := hid hx3.size
  generalize w3.alloc (.map #[] 0) = w4 at *
  generalize w3.heap.size = r at *
  clear hx3
  have hd4 := hid (hd.out.trans hx4.out)
  obtain ⟨a1, kk⟩ : w4.cell? ⟨g1, 0, none⟩ = _ ∧ True := ⟨(K.out.2.1.ext hx4.out).c1, trivial⟩
  replace m0 := hid m0
  go_wp2_with fail
  go_loopw [22] (fun v wr => ∃ k : Nat, k ≤ 1 ∧ v = .int .i64 k ∧ Hid (Ext w2 wr) ∧ Hid (k = 0 → IsMap keyI wr r [])) (fun v _ => 1 - (intOf v).toNat)
  case atStart => exact ⟨0, by omega, rfl, hx4, hid (fun _ => m0.out)⟩
  case round =>
    obtain ⟨k, hk, rfl, hx, hmap⟩ := hrel
    by_cases hlt : k = 0
    · subst hlt
      have c0 := (K.out.2.2.1.ext hx.out).c1
      have hm0 := hmap.out rfl
      have hlk := look193 hm0 ((i : Int) + 1)
      obtain ⟨w5, hup, hm5, hg5, hs5⟩ := hm0.store (t := 193) Tryz.underlying193 ((i : Int) + 1) (.bool true)
      change Sem.run _ (Instr.mapUpdate _ _ (.int .i64 ((i : Int) + 1)) _) _ = _ at hup
      have hx5 := hid (hx.out.own_grown hg5 hr3.out)
      clear hmap hm0 hm5 hg5 hs5 hx4 hd4 m0
      go_wp2
      go_roundw
      case rel => exact ⟨1, by omega, by go_num, hx5, fun e => absurd e (by omega)⟩
      case measure => simp [intOf]
    · obtain rfl : k = 1 := by omega
      clear hmap m0 hx4 hd4 a1 kk hlt
      have a1 := (K.out.2.1.ext hx.out).c1
      go_wp2_with fail
      go_loopw [34] (fun v wr => ∃ k : Nat, k ≤ 1 ∧ v = .int .i64 k ∧ Hid (k = 0 → Ext w2 wr) ∧ Hid (k ≠ 0 → PutEnd w.heap.size i a p fs rs x t1 w1 wr)) (fun v _ => 1 - (intOf v).toNat)
      case atStart => exact ⟨0, by omega, rfl, hid (fun _ => hx.out), hid (fun h => absurd rfl h)⟩
      case round =>
        clear hx a1
        obtain ⟨k, hk, rfl, hx0, hx1⟩ := hrel
        by_cases hlt : k = 0
        · subst hlt
          have hx := hid (hx0.out rfl)
          have b1 := (K.out.2.2.1.ext hx.out).c1
          clear hx0 hx1
          go_upto_region 16 with fail
          have hir := hid (fun (w' : World) (hx' : Ext w2 w') => isRecord_any p t1.A t1.n t1.c t1.B rs.length t1.d fs x.gone C fs.length cv x.v w' ((K.out.2.2.2.2.2.2.1.ext hx').rf) (K.out.2.2.2.2.2.2.2.ext hx'))
          rw [vtE_one hE ‹recE fs p x = 0›] at hir
          unfold tb at hir
          clear b1
          have xr := (Ext.refl wr).drew_right
          refine region_J (fun w' => Ext wr w') 9 (by kernel_rfl) ?_
          generalize wr.drew = dr at xr ⊢
          refine JR 0 (v := ?vr1) rfl (by kernel_rfl) rfl ?yr1 xr ?rr1
          case yr1 => (intro w hw; have c3 := (K.out.1.ext (hx.out.trans hw)).c1; have c2 := (K.out.2.2.2.1.ext (hx.out.trans hw)).c1; obtain ⟨q0, q1⟩ := (K.out.2.2.2.2.1.ext (hx.out.trans hw)).c2; obtain ⟨v0, v1, v2⟩ := (K.out.2.2.2.2.2.1.ext (hx.out.trans hw)).c3; (go_simp; with_reducible rfl))
          simp only [Act.put, lyA, lyB, lyC, lyD, lyE, lyF]
          refine JR 1 (v := ?vr2) rfl (by kernel_rfl) rfl ?yr2 xr ?rr2
          case yr2 => (intro w hw; (go_simp; with_reducible rfl))
          simp only [Act.put, lyA, lyB, lyC, lyD, lyE, lyF]
          refine JR 2 (v := ?vr3) rfl (by kernel_rfl) rfl ?yr3 xr ?rr3
          case yr3 => (intro w hw; have c3 := (K.out.1.ext (hx.out.trans hw)).c1; have c2 := (K.out.2.2.2.1.ext (hx.out.trans hw)).c1; obtain ⟨q0, q1⟩ := (K.out.2.2.2.2.1.ext (hx.out.trans hw)).c2; obtain ⟨v0, v1, v2⟩ := (K.out.2.2.2.2.2.1.ext (hx.out.trans hw)).c3; (go_simp; with_reducible rfl))
          simp only [Act.put, lyA, lyB, lyC, lyD, lyE, lyF]
          refine JR 3 (v := ?vr4) rfl (by kernel_rfl) rfl ?yr4 xr ?rr4
          case yr4 => (intro w hw; have c3 := (K.out.1.ext (hx.out.trans hw)).c1; have c2 := (K.out.2.2.2.1.ext (hx.out.trans hw)).c1; obtain ⟨q0, q1⟩ := (K.out.2.2.2.2.1.ext (hx.out.trans hw)).c2; obtain ⟨v0, v1, v2⟩ := (K.out.2.2.2.2.2.1.ext (hx.out.trans hw)).c3; (go_simp; with_reducible rfl))
          simp only [Act.put, lyA, lyB, lyC, lyD, lyE, lyF]
          refine JR 4 (v := ?vr5) rfl (by kernel_rfl) rfl ?yr5 xr ?rr5
          case yr5 => (intro w hw; (go_simp; with_reducible rfl))
          simp only [Act.put, lyA, lyB, lyC, lyD, lyE, lyF]
          refine JR 5 (v := ?vr6) rfl (by kernel_rfl) rfl ?yr6 xr ?rr6
          case yr6 => (intro w hw; (go_simp; with_reducible rfl))
          simp only [Act.put, lyA, lyB, lyC, lyD, lyE, lyF]
          refine JR 6 (v := ?vr7) rfl (by kernel_rfl) rfl ?yr7 xr ?rr7
          case yr7 => (intro w hw; have c3 := (K.out.1.ext (hx.out.trans hw)).c1; have c2 := (K.out.2.2.2.1.ext (hx.out.trans hw)).c1; obtain ⟨q0, q1⟩ := (K.out.2.2.2.2.1.ext (hx.out.trans hw)).c2; obtain ⟨v0, v1, v2⟩ := (K.out.2.2.2.2.2.1.ext (hx.out.trans hw)).c3; (go_simp; with_reducible rfl))
          simp only [Act.put, lyA, lyB, lyC, lyD, lyE, lyF]
          refine J_one 7 rfl (by kernel_rfl) (fun K hK => ?_)
          go_simp
          refine (hir.out _ (hx.out.trans xr)).mono ?_
          rintro e wr8 ⟨rfl, hxr8⟩
          refine hK _ _ ⟨fun _ => ((xr).trans hxr8), ?_⟩
          clear hK K
          try simp only [Act.put, lyA, lyB, lyC, lyD, lyE, lyF]
          have xr8 := ((xr).trans hxr8)
          refine JR 8 (v := ?vr9) rfl (by kernel_rfl) rfl ?yr9 xr8 ?rr9
          case yr9 => (intro w hw; (go_simp; with_reducible rfl))
          simp only [Act.put, lyA, lyB, lyC, lyD, lyE, lyF]
          refine J_done (by kernel_rfl) (OnlyOn.normal ?_)
          replace hx := hid (hx.out.trans xr8)
          generalize wr8 = w9 at *
          clear hir
          go_wp2_with fail
          have ho := K.out.2.2.2.2.2.2.1.ext hx.out
          obtain ⟨g, eB, hg1, hg2, r0, r1, hv⟩ := ho.at_ hi
          have i4 := IntWalk.i64_in (i : Int) (by omega)
          have i3 := IntWalk.i64_in ((i : Int) + 1 - 1) (by omega)
          have i5 : 0 ≤ (i : Int) ∧ (i : Int) < rs.length := by omega
          have K9 := hid (show Bk w9 g3 [.pointer (some ⟨a, 0, none⟩)] 150 ∧ Bk w9 g2 [.slice (some ⟨h2, 0, none⟩) 1 1] 23 ∧ Bk w9 h2 [.bool x.gone, .slice C fs.length cv] 69 ∧ Bk w9 a [.int .i64 p, .slice t1.A t1.n t1.c, .slice t1.B rs.length t1.d] 25 ∧ OwTt w9 w.heap.size fs.length fs rs t1 ∧ RdV w9 C fs.length cv x.v from
            ⟨K.out.1.ext hx.out, K.out.2.2.2.1.ext hx.out, K.out.2.2.2.2.1.ext hx.out, K.out.2.2.2.2.2.1.ext hx.out, ho, K.out.2.2.2.2.2.2.2.ext hx.out⟩)
          have hgF : t1.F g := .inr (.inl (by rw [eB]; rfl))
          have hxl := hid (recE_len ‹recE fs p x = 0›)
          clear r0 r1 hv ho hg1 hg2
          have xa := (Ext.refl w9).drew_right
          refine region_J (fun w' => Ext w9 w') 12 (by kernel_rfl) ?_
          generalize w9.drew = da at xa ⊢
          refine JW 0 (v := ?va1) rfl (by kernel_rfl) rfl ?ya1 xa ?ra1
          case ya1 => (intro w hw; have c3 := (K9.out.1.ext hw).c1; have c2 := (K9.out.2.1.ext hw).c1; obtain ⟨q0, q1⟩ := (K9.out.2.2.1.ext hw).c2; obtain ⟨v0, v1, v2⟩ := (K9.out.2.2.2.1.ext hw).c3; rw [eB] at v2; (go_simp; with_reducible rfl))
          simp only [Act.put, lyA, lyB, lyC, lyD, lyE, lyF]
          refine JW 1 (v := ?va2) rfl (by kernel_rfl) rfl ?ya2 xa ?ra2
          case ya2 => (intro w hw; (go_simp; with_reducible rfl))
          simp only [Act.put, lyA, lyB, lyC, lyD, lyE, lyF]
          refine JW 2 (v := ?va3) rfl (by kernel_rfl) rfl ?ya3 xa ?ra3
          case ya3 => (intro w hw; (go_simp; with_reducible rfl))
          simp only [Act.put, lyA, lyB, lyC, lyD, lyE, lyF]
          refine JW 3 (v := ?va4) rfl (by kernel_rfl) rfl ?ya4 xa ?ra4
          case ya4 => (intro w hw; have c3 := (K9.out.1.ext hw).c1; have c2 := (K9.out.2.1.ext hw).c1; obtain ⟨q0, q1⟩ := (K9.out.2.2.1.ext hw).c2; obtain ⟨v0, v1, v2⟩ := (K9.out.2.2.2.1.ext hw).c3; rw [eB] at v2; (go_simp; with_reducible rfl))
          simp only [Act.put, lyA, lyB, lyC, lyD, lyE, lyF]
          refine JW 4 (v := ?va5) rfl (by kernel_rfl) rfl ?ya5 xa ?ra5
          case ya5 => (intro w hw; (go_simp; with_reducible rfl))
          simp only [Act.put, lyA, lyB, lyC, lyD, lyE, lyF]
          refine JW 5 (v := ?va6) rfl (by kernel_rfl) rfl ?ya6 xa ?ra6
          case ya6 => (intro w hw; (go_simp; with_reducible rfl))
          simp only [Act.put, lyA, lyB, lyC, lyD, lyE, lyF]
          refine JW 6 (v := ?va7) rfl (by kernel_rfl) rfl ?ya7 xa ?ra7
          case ya7 => (intro w hw; have c3 := (K9.out.1.ext hw).c1; have c2 := (K9.out.2.1.ext hw).c1; obtain ⟨q0, q1⟩ := (K9.out.2.2.1.ext hw).c2; obtain ⟨v0, v1, v2⟩ := (K9.out.2.2.2.1.ext hw).c3; rw [eB] at v2; (go_simp; with_reducible rfl))
          simp only [Act.put, lyA, lyB, lyC, lyD, lyE, lyF]
          refine JW 7 (v := ?va8) rfl (by kernel_rfl) rfl ?ya8 xa ?ra8
          case ya8 => (intro w hw; (go_simp; with_reducible rfl))
          simp only [Act.put, lyA, lyB, lyC, lyD, lyE, lyF]
          refine JW 8 (v := ?va9) rfl (by kernel_rfl) rfl ?ya9 xa ?ra9
          case ya9 => (intro w hw; (go_simp; with_reducible rfl))
          simp only [Act.put, lyA, lyB, lyC, lyD, lyE, lyF]
          refine JW 9 (v := ?va10) rfl (by kernel_rfl) rfl ?ya10 xa ?ra10
          case ya10 => (intro w hw; have c3 := (K9.out.1.ext hw).c1; have c2 := (K9.out.2.1.ext hw).c1; obtain ⟨q0, q1⟩ := (K9.out.2.2.1.ext hw).c2; obtain ⟨v0, v1, v2⟩ := (K9.out.2.2.2.1.ext hw).c3; rw [eB] at v2; (go_simp; with_reducible rfl))
          simp only [Act.put, lyA, lyB, lyC, lyD, lyE, lyF]
          refine J_one 10 rfl (by kernel_rfl) (fun K hK => ?_)
          go_simp
          refine (own_any x.gone C fs.length cv x.v _ (K9.out.2.2.2.2.2.ext xa) (by omega)).mono ?_
          rintro e wa11 ⟨B, d, rfl, oV, hxa11⟩
          have hlo := (xa).size
          obtain ⟨hV, hVb⟩ := OwV.mk (lo := w.heap.size) oV rfl hl.1 (by have := hx.out.size; have := hd.out.size; have := hwl.out; omega) hxl.out
          clear oV
          refine hK _ _ ⟨fun _ => ((xa).trans hxa11), ?_⟩
          clear hK K
          try simp only [Act.put, lyA, lyB, lyC, lyD, lyE, lyF]
          have xa11 := ((xa).trans hxa11)
          refine JW 11 (v := ?va12) rfl (by kernel_rfl) rfl ?ya12 xa11 ?ra12
          case ya12 => (intro w hw; (go_simp; with_reducible rfl))
          simp only [Act.put, lyA, lyB, lyC, lyD, lyE, lyF]
          refine J_one 12 rfl (by kernel_rfl) (fun K hK => ?_)
          have ho9 := K9.out.2.2.2.2.1.ext (xa11)
          have hyn : ¬ t1.F (rb ⟨x.gone, B, fs.length, d⟩) := fun e => by have := (K9.out.2.2.2.2.1.lt e).2; omega
          have hth : wa11.there g (i * 2) 2 := by
            have hr := ho9.2.1.1
            rw [ho9.2.2.1, eB, em.out] at hr
            exact row_there hr (by omega)
          have hna9 := hid (fun e => hna (e ▸ hgF) : ¬ g = a)
          have K10 := hid (((K9.out.2.2.2.1.ext (xa11)).keep (w' := wa11.setCells g (i * 2) [.bool x.gone, .slice B fs.length d]) ((setCells_at _ _ _ _).2.2.2.2 a (Ne.symm hna9.out))))
          have o10 := hid (ho9.put (y := ⟨x.gone, B, fs.length, d⟩) hi eB hV hyn)
          have m10 := hid ((Mv.of (F := fun k => k = a ∨ t1.F k ∨ False) (hd.out.trans (hx.out.trans (xa11)))).setC (g := g) (.inl (.inr (.inl hgF))) (i * 2) [.bool x.gone, .slice B fs.length d])
          have b10 := hid (show w1.heap.size ≤ rb ⟨x.gone, B, fs.length, d⟩ ∧ rb ⟨x.gone, B, fs.length, d⟩ ≠ a from ⟨by have := hx.out.size; have := hd.out.size; omega, fun e => by have := K9.out.2.2.2.1.lt; omega⟩)
          refine step_store_mid rfl 69 _ _ rfl g (i * 2) #[.bool x.gone, .slice B fs.length d] rfl rfl hth (by kernel_rfl) (by first | rfl | simp [Value.oneCell']) ?_
          refine hK _ _ ⟨fun h => absurd rfl h, ?_⟩
          clear hK K
          try simp only [Act.put, lyA, lyB, lyC, lyD, lyE, lyF]
          refine J_done (by kernel_rfl) (OnlyOn.normal ?_)
          have hPE : Hid ((1 : Nat) ≠ 0 → PutEnd w.heap.size i a p fs rs x t1 w1 _) := hid (fun _ => ⟨⟨x.gone, B, fs.length, d⟩, K10.out, o10.out, b10.out.1, b10.out.2, m10.out⟩)
          clear K10 o10 b10 m10
          go_wp2
          go_roundw
          case rel => ((repeat apply Exists.intro); refine ⟨⟨1, by omega, ?_, hid (fun h => absurd h (by omega)), hPE⟩, rfl⟩; rfl)
          case measure => simp [intOf]
        · obtain ⟨y, f1, f2, f3, f3', f4⟩ := hx1.out hlt
          obtain rfl : k = 1 := by omega
          have fin := hid (show Bk wr a _ 25 ∧ OwTt wr w.heap.size fs.length fs (rs.set i x) _ ∧ _ from ⟨f1, f2, f4⟩)
          have hy := hid (show w1.heap.size ≤ rb y ∧ rb y ≠ a from ⟨f3, f3'⟩)
          clear hx0 hx1 f1 f2 f3 f3' f4
          go_wp2
          go_ret
          exact ⟨rfl, (⟨t1.A, t1.n, t1.c, t1.B, t1.m, t1.d, t1.rr.set i y⟩ : Tt), by simp only [em.out]; exact fin.out.1, fin.out.2.1, fun e => (OwTt.put_F e).elim hna (fun e => hy.out.2 e), fin.out.2.2, trivial⟩
theorem bagPutAll_any (lo b h1 h2 i : Nat) (p : Int) (fs : List Fd) (rs : List Rc) (x : Rc) (C : Option Addr) (cv : Nat) (t : Tt) (w : World) (H : BagI w lo b 0 p fs rs t) (hlo : lo ≤ w.heap.size) (hE : okT p fs rs) (hi : i < rs.length) (hx : recE fs p x = 0) (hv : RdV w C fs.length cv x.v) (hvb : ¬ atB C fs.length b)
    (kh1 : Bk w h1 [.int .i64 ((i : Int) + 1)] 3) (kh2 : Bk w h2 [.bool x.gone, .slice C fs.length cv] 69) (n3 : h1 ≠ b) (n4 : h2 ≠ b) :
    Calls Tryz.prog 81 #[.pointer (some ⟨b, 0, none⟩), .slice (some ⟨h1, 0, none⟩) 1 1, .slice (some ⟨h2, 0, none⟩) 1 1] w fun e w' => e = .returned (.int .i64 0) ∧ BagTo w w' lo b p fs (rs.set i x) t := by
  obtain ⟨w1, g1, e1, q1, s1, k1, x1⟩ := newB w [.slice (some ⟨h1, 0, none⟩) 1 1] 51
  obtain ⟨w2, g2, e2, q2, s2, k2, x2⟩ := newB w1 [.slice (some ⟨h2, 0, none⟩) 1 1] 23
  have q2 := s1.out.symm.trans q2.out
  have hX := hid (x1.trans x2)
  have hbl := H.bk.lt
  have hw := q1.out
  have hT := hid (try119 lo b p 0 fs rs (rs.set i x) (rs.set i x) t (fun _ => False) (fun _ => True) g1 g2 w2 (fun _ => rfl) (fun h => absurd rfl h) (H.ext hX.out) hE (fun k h => h.elim) (Nat.le_trans hlo hX.out.size) (fun _ _ _ _ => trivial) (fun k h => h.elim)
    (chg119 b g1 g2 h1 h2 i p fs rs x C cv w2 hE hi hx (hv.ext hX.out) hvb (k1.ext x2) (kh1.ext hX.out) k2 (kh2.ext hX.out) (by omega) (by omega) n3 n4))
  clear H k1 k2 x1 x2 hv kh1 kh2
  go_enter Tryz.func81, Tryz.ntmps81
  go_upto_region 1 with fail
  simp only [e1.out, e2.out, q1.out, q2]
  clear e1 e2 q1
  go_wp2_with fail
  refine hT.out.mono ?_
  rintro e w3 ⟨rfl, t', hB, hM, hF, -⟩
  have hres : Hid (BagTo w w3 lo b p fs (rs.set i x) t) := ⟨t', hB, (Mv.of hX.out).trans hM (fun k hk => .inl (hk.elim id False.elim)), fun k hk => (hF k hk).imp id (fun h => Nat.le_trans hX.out.size h)⟩
  clear hT hB hM hF
  go_wp2
  go_ret
  exact ⟨rfl, hres.out⟩
theorem bagPut_any (lo b i : Nat) (p : Int) (fs : List Fd) (rs : List Rc) (x : Rc) (C : Option Addr) (cv : Nat) (t : Tt) (w : World) (H : BagI w lo b 0 p fs rs t) (hlo : lo ≤ w.heap.size) (hE : okT p fs rs) (hi : i < rs.length) (hx : recE fs p x = 0) (hv : RdV w C fs.length cv x.v) (hvb : ¬ atB C fs.length b) :
    Calls Tryz.prog 42 #[.pointer (some ⟨b, 0, none⟩), .int .i64 ((i : Int) + 1), .agg #[.bool x.gone, .slice C fs.length cv]] w fun e w' => e = .returned (.int .i64 0) ∧ BagTo w w' lo b p fs (rs.set i x) t := by
  obtain ⟨w1, g1, e1, q1, s1, k1, x1⟩ := newB w [.bool x.gone, .slice C fs.length cv] 69
  obtain ⟨w2, g2, e2, q2, s2, k2, x2⟩ := newB w1 [.int .i64 ((i : Int) + 1)] 3
  obtain ⟨w3, g3, e3, q3, s3, k3, x3⟩ := newB w2 [.bool x.gone, .slice C fs.length cv] 69
  have p2 := q2.out
  have p3 := q3.out
  have p1 := q1.out
  have hX := hid ((x1.trans x2).trans x3)
  obtain ⟨c0, c1⟩ := (k1.ext x2).c2
  have hbl := H.bk.lt
  have hw := q1.out
  have hT := hid (bagPutAll_any lo b g2 g3 i p fs rs x C cv t w3 (H.ext hX.out) (Nat.le_trans hlo hX.out.size) hE hi hx (hv.ext hX.out) hvb (k2.ext x3) k3 (by have := s1.out; omega) (by have := s1.out; have := s2.out; omega))
  clear H k1 k2 k3 x1 x2 x3 hv
  go_enter Tryz.func42, Tryz.ntmps42
  go_upto_region 1 with fail
  simp only [e1.out]
  have e2 := e2.out
  have e3 := e3.out
  go_wp2_with fail
  clear e1 e2 e3
  refine hT.out.mono ?_
  rintro e w4 ⟨rfl, t', hB, hM, hF⟩
  have hres : Hid (BagTo w w4 lo b p fs (rs.set i x) t) := ⟨t', hB, (Mv.of hX.out).trans hM (fun k hk => .inl hk), fun k hk => (hF k hk).imp id (fun h => Nat.le_trans hX.out.size h)⟩
  clear hT hB hM hF
  go_wp2
  go_ret
  exact ⟨rfl, hres.out⟩
open Go.RowKit Go.Shelf Go.MuLone
structure Cg where
  p : Int
  A : Option Addr
  n : Nat
  c : Nat
  B : Option Addr
  m : Nat
  d : Nat
  G : Option Addr
  gn : Nat
  gc : Nat
  V : Option Addr
  vn : Nat
  vc : Nat
  X : Option Addr
  xn : Nat
  xc : Nat
def cgC (c : Cg) : List Value := [.int .i64 c.p, .slice c.A c.n c.c, .slice c.B c.m c.d, .slice c.G c.gn c.gc, .slice c.V c.vn c.vc, .slice c.X c.xn c.xc]
theorem value_any (c : Cg) (k : Int) (vals : List Vl) (w : World) (hv : RdV w c.V c.vn c.vc vals) : Calls Tryz.prog 41 #[.agg (cgC c).toArray, .int .i64 k] w (Give (vl (valOf vals k)) w) := by
  obtain ⟨w1, g1, e1, h1, s1, k1, x1⟩ := newB w (cgC c) 30
  obtain ⟨w2, g2, e2, h2, s2, k2, x2⟩ := newB w1 [.int .i64 0, .int .i64 0, .string ⟨#[]⟩] 66
  have h2 := s1.out.symm.trans h2.out
  have hx := hid (x1.trans x2)
  have hv2 := hv.ext hx.out
  have hvl := hv.len
  have hmx := Rd.max hv
  have k1 := k1.ext x2
  have hw := h1.out
  have hgw : w.heap.size ≤ g2 := by omega
  obtain ⟨a0, a1, a2, a3, a4, a5⟩ := k1.c6
  have k2 := hid k2
  clear hv x1 x2 k1
  unfold cgC
  unfold cgC at e1
  go_enter Tryz.func41, Tryz.ntmps41
  go_upto_region 1 with fail
  simp only [e1.out, e2.out, h1.out, h2]
  clear e1 e2 h1
  have f0 := k2.out.free 0
  have f1 := k2.out.free 1
  have f2 := k2.out.free 2
  by_cases hk : k < 0 ∨ (vals.length : Int) ≤ k
  · have hz := hid (show valOf vals k = v0 from if_pos hk)
    have k3 := hid (k2.out.set3 (.int .i64 0) (.int .i64 0) (.string ⟨#[]⟩))
    have hx3 := hid (ext_set3 hx.out hgw (.int .i64 0) (.int .i64 0) (.string ⟨#[]⟩))
    obtain ⟨z0, z1, z2⟩ := k2.out.c3
    by_cases hk1 : k < 0
    · clear hv2 hx hk
      go_wp2
      obtain ⟨z0, z1, z2⟩ := k3.out.c3
      exact bodyPost_ret (v := vl v0) (by simp [results, Tryz.results41, go_sem, z0, z1, z2, vl, v0]) rfl ⟨by rw [hz.out], hx3.out⟩
    · have hk2 : (c.vn : Int) ≤ k := by omega
      clear hv2 hx hk
      go_wp2
      obtain ⟨z0, z1, z2⟩ := k3.out.c3
      exact bodyPost_ret (v := vl v0) (by simp [results, Tryz.results41, go_sem, z0, z1, z2, vl, v0]) rfl ⟨by rw [hz.out], hx3.out⟩
  · have hz := hid (show valOf vals k = vth vals k.toNat from if_neg hk)
    obtain ⟨j, rfl, hj⟩ : ∃ j : Nat, k = j ∧ j < c.vn := ⟨k.toNat, by omega, by omega⟩
    rw [Int.toNat_natCast] at hz
    obtain ⟨ad, eA, x0, x1, x2⟩ := hv2.at_ hj
    rw [eA] at a4
    generalize vth vals j = y at *
    have k3 := hid (k2.out.set3 (.int .i64 y.k) (.int .i64 y.n) (.string y.s))
    have hx3 := hid (ext_set3 hx.out hgw (.int .i64 y.k) (.int .i64 y.n) (.string y.s))
    obtain ⟨z0, z1, z2⟩ := k2.out.c3
    have i1 : ¬ (j : Int) < 0 := by omega
    have i2 : ¬ (c.vn : Int) ≤ (j : Int) := by omega
    clear hv2 hx hk
    go_wp2
    obtain ⟨z0, z1, z2⟩ := k3.out.c3
    exact bodyPost_ret (v := vl y) (by simp [results, Tryz.results41, go_sem, z0, z1, z2, vl]) rfl ⟨by rw [hz.out], hx3.out⟩
theorem ownAct_any (c : Cg) (x : Ac) (w : World) : Calls Tryz.prog 11 #[.agg (cgC c).toArray, .agg (acC x).toArray] w (Give (.bool (ownB c.m x)) w) := by
  obtain ⟨w1, g1, e1, h1, s1, k1, x1⟩ := newB w (cgC c) 30
  obtain ⟨w2, g2, e2, h2, s2, k2, x2⟩ := newB w1 (acC x) 46
  have h2 := s1.out.symm.trans h2.out
  have hx := hid (x1.trans x2)
  have k1 := k1.ext x2
  obtain ⟨a0, a1, a2, a3, a4, a5⟩ := k1.c6
  obtain ⟨b0, b1, b2, b3, b4, b5⟩ := k2.c6
  clear x1 x2 k1
  unfold cgC acC
  unfold cgC at e1
  unfold acC at e2
  have hB := hid (show ownB c.m x = ((x.op == 2) || (decide (1 ≤ x.a) && decide (x.a ≤ c.m))) from by unfold ownB; congr 1)
  go_enter Tryz.func11, Tryz.ntmps11
  go_upto_region 1 with fail
  simp only [e1.out, e2.out, h1.out, h2]
  clear e1 e2 h1
  rcases Bool.eq_false_or_eq_true (x.op == 2) with q1 | q1 <;> rcases Bool.eq_false_or_eq_true (decide (1 ≤ x.a)) with q2 | q2 <;> rcases Bool.eq_false_or_eq_true (decide (x.a ≤ c.m)) with q3 | q3
  all_goals rw [q1, q2, q3] at hB
  all_goals go_wp2
  all_goals go_ret
  all_goals exact ⟨by rw [hB.out]; rfl, hx.out⟩
open Go.ChangeShapes Go.WideShapes Go.ChangeAt Go.RowKit Go.Deep
section
variable {H : Type} {enc : TypeId × Value → H} {P : Program} {w : World} {base : Nat} {spare : Nat → Bool} {held : Bool}
theorem slice_fields {t e : TypeId} {fs : Array Field} {fuel : Nat} {cs : List Value} {x : DataW H × List MemPlace} (ht : P.underlying t = some (.slice e)) (he : P.underlying e = some (.struct fs))
    (hone : oneCellFields P fs = true) (hC : P.cellsOf e = fs.size) (h : DataW.trod enc P w base spare held fuel t cs = some x) :
    (cs = [.slice none 0 0]) ∨
    ∃ (a : Addr) (len cap : Nat), cs = [.slice (some a) len cap] ∧ len ≤ cap ∧ cap ≤ maxLen ∧
      ∀ i, i < len → ∃ (n : Nat), ∀ (j : Nat) (f : Field), fs[j]? = some f → ∃ (v : Value) (y : DataW H × List MemPlace), w.cell? (a.add (i * fs.size + j)) = some v ∧ DataW.trod enc P w base spare held n f.type [v] = some y := by
  rcases open_slice ht h with ⟨h0, _⟩ | ⟨a, len, cap, m, n, D, Pl, hcs, hb, hl, hm, hmm, hx, hi⟩
  · exact .inl h0
  · have hlm : len ≤ m := by rw [hmm]; split <;> omega
    refine .inr ⟨a, len, cap, hcs, hl, hm, fun i him => ?_⟩
    obtain ⟨cs', hc, ht'⟩ := hi i (by omega)
    rw [hC] at hc
    obtain ⟨ys, n', hn', hy, hlen, hyl, hf⟩ := DataW.trod_struct he ht'
    obtain ⟨_, hcl, hat⟩ := World.cells?_some hc
    refine ⟨n', fun j f hj => ?_⟩
    obtain ⟨ho, hk⟩ := hone_of hone j f hj
    have hjl : j < fs.size := (Array.getElem?_eq_some_iff.1 hj).1
    have hcell := hat j hjl
    have hv : cs'[j]? = some (cs'[j]'(by omega)) := List.getElem?_eq_getElem (by omega)
    have h1 := hf j f hj
    rw [ho, hk] at h1
    have hone' : (cs'.drop j).take 1 = [cs'[j]'(by omega)] := by
      rw [List.drop_eq_getElem_cons (by omega)]
      rfl
    rw [hone'] at h1
    have hys : ys[j]? = some (ys[j]'(by omega)) := List.getElem?_eq_getElem (by omega)
    refine ⟨_, _, ?_, h1.trans hys⟩
    rw [← Go.Deep.add_add, hcell, hv]
end
theorem choose_list {α : Type} {n : Nat} {Q : Nat → α → Prop} (h : ∀ i, i < n → ∃ a, Q i a) : ∃ l : List α, l.length = n ∧ ∀ i a, l[i]? = some a → Q i a := by
  induction n with
  | zero => exact ⟨[], rfl, fun i a e => by simp at e⟩
  | succ n ih =>
    obtain ⟨l, hl, hq⟩ := ih fun i hi => h i (by omega)
    obtain ⟨a, ha⟩ := h n (by omega)
    refine ⟨l ++ [a], by simp [hl], fun i b e => ?_⟩
    by_cases hi : i < n
    · rw [List.getElem?_append_left (by omega)] at e
      exact hq i b e
    · by_cases hn : i = n
      · subst hn
        rw [List.getElem?_append_right (by omega), hl, Nat.sub_self] at e
        obtain rfl : a = b := by simpa using e
        exact ha
      · rw [List.getElem?_eq_none (by simp; omega)] at e
        cases e
theorem rows_read {α : Type} {cl : α → List Value} {k : Nat} (hk : ∀ x, (cl x).length = k) (h0 : 0 < k) {w : World} {a : Addr} {len cap : Nat} (hl : len ≤ cap) (hm : cap ≤ maxLen) {Q : α → Prop}
    (h : ∀ i, i < len → ∃ v : α, (∀ (j : Nat) (u : Value), (cl v)[j]? = some u → w.cell? (a.add (i * k + j)) = some u) ∧ Q v) :
    ∃ l : List α, l.length = len ∧ Rd w k (some a) len cap (cls cl l) ∧ ∀ x ∈ l, Q x := by
  obtain ⟨l, hll, hq⟩ := choose_list (n := len) (Q := fun i (v : α) => (∀ (j : Nat) (u : Value), (cl v)[j]? = some u → w.cell? (a.add (i * k + j)) = some u) ∧ Q v) h
  refine ⟨l, hll, ⟨by rw [cls_len hk, hll], hl, hm, fun _ => ⟨a, rfl, fun j u hu => ?_⟩⟩, fun x hx => ?_⟩
  · have hj : j < l.length * k := by
      have := (List.getElem?_eq_some_iff.1 hu).1
      rwa [cls_len hk] at this
    have hi : j / k < l.length := Nat.div_lt_of_lt_mul (by rw [Nat.mul_comm]; exact hj)
    have hr : j % k < k := Nat.mod_lt _ h0
    have e : j = j / k * k + j % k := by rw [Nat.mul_comm]; exact (Nat.div_add_mod j k).symm
    rw [e] at hu ⊢
    rw [cls_at hk l _ hi _ hr] at hu
    exact (hq (j / k) _ (List.getElem?_eq_getElem hi)).1 _ u hu
  · obtain ⟨j, hj⟩ := List.getElem?_of_mem hx
    exact (hq j x hj).2
def RdX (w : World) (A : Option Addr) (n c : Nat) (l : List Ac) : Prop := Rd w 6 A n c (cls acC l)
theorem acC_len (x : Ac) : (acC x).length = 6 := rfl
def xth (l : List Ac) (i : Nat) : Ac := l.getD i ⟨0, 0, 0, 0, ⟨#[]⟩, ⟨#[]⟩⟩
theorem xth_get {l : List Ac} {i : Nat} (h : i < l.length) : xth l i = l[i] := by simp [xth, List.getD, h]
theorem RdX.len {w : World} {A : Option Addr} {n c : Nat} {l : List Ac} (h : RdX w A n c l) : l.length = n := by have := h.1; rw [cls_len acC_len] at this; omega
theorem RdX.ext {w w' : World} {A : Option Addr} {n c : Nat} {l : List Ac} (h : RdX w A n c l) (hx : Ext w w') : RdX w' A n c l := Rd.ext h hx
theorem RdX.max {w : World} {A : Option Addr} {n c : Nat} {l : List Ac} (h : RdX w A n c l) : n ≤ 9223372036854775807 ∧ n ≤ c ∧ c ≤ 9223372036854775807 := Rd.max h
theorem RdX.at_ {w : World} {A : Option Addr} {n c : Nat} {l : List Ac} (h : RdX w A n c l) {i : Nat} (hi : i < n) : ∃ ad, A = some ad ∧ w.cell? (ad.add (i * 6)) = some (.int .i64 (xth l i).op) ∧ w.cell? ⟨(ad.add (i * 6)).block, (ad.add (i * 6)).off + 1, none⟩ = some (.int .i64 (xth l i).a) ∧
    w.cell? ⟨(ad.add (i * 6)).block, (ad.add (i * 6)).off + 2, none⟩ = some (.int .i64 (xth l i).b) ∧ w.cell? ⟨(ad.add (i * 6)).block, (ad.add (i * 6)).off + 3, none⟩ = some (.int .i64 (xth l i).c) ∧
    w.cell? ⟨(ad.add (i * 6)).block, (ad.add (i * 6)).off + 4, none⟩ = some (.string (xth l i).s) ∧ w.cell? ⟨(ad.add (i * 6)).block, (ad.add (i * 6)).off + 5, none⟩ = some (.string (xth l i).t) := by
  have hl := h.len
  obtain ⟨ad, hA, hc⟩ := h.2.2.2 (by omega)
  have hil : i < l.length := by omega
  rw [xth_get hil]
  have e := fun j hj => cls_at acC_len l i hil j hj
  exact ⟨ad, hA, hc (i * 6 + 0) _ (by rw [e 0 (by omega)]; rfl), cell_fk (hc (i * 6 + 1) _ (by rw [e 1 (by omega)]; rfl)) (by omega), cell_fk (hc (i * 6 + 2) _ (by rw [e 2 (by omega)]; rfl)) (by omega), cell_fk (hc (i * 6 + 3) _ (by rw [e 3 (by omega)]; rfl)) (by omega),
    cell_fk (hc (i * 6 + 4) _ (by rw [e 4 (by omega)]; rfl)) (by omega), cell_fk (hc (i * 6 + 5) _ (by rw [e 5 (by omega)]; rfl)) (by omega)⟩
section
variable {H : Type} {enc : TypeId × Value → H} {w : World} {base : Nat} {spare : Nat → Bool} {held : Bool} {fuel : Nat} {cs : List Value} {x : DataW H × List MemPlace}
theorem vals_read (h : DataW.trod enc Tryz.prog w base spare held fuel 27 cs = some x) : ∃ (A : Option Addr) (n c : Nat) (l : List Vl), cs = [.slice A n c] ∧ RdV w A n c l := by
  rcases slice_fields Tryz.underlying27 Tryz.underlying66 (by kernel_rfl) (by kernel_rfl) h with rfl | ⟨a, len, cap, rfl, hl, hm, hi⟩
  · exact ⟨none, 0, 0, [], rfl, Rd.none_ w 3⟩
  · obtain ⟨l, hll, hr, -⟩ := rows_read (w := w) (a := a) (Q := fun _ => True) vcl_len (by omega) hl hm (fun i hi' => by
      obtain ⟨n, hf⟩ := hi i hi'
      obtain ⟨v0, y0, c0, t0⟩ := hf 0 _ rfl
      obtain ⟨v1, y1, c1, t1⟩ := hf 1 _ rfl
      obtain ⟨v2, y2, c2, t2⟩ := hf 2 _ rfl
      obtain ⟨n0, e0, _, m0⟩ := DataW.trod_int Tryz.underlying3 t0
      obtain ⟨n1, e1, _, m1⟩ := DataW.trod_int Tryz.underlying3 t1
      obtain ⟨n2, e2, _, m2⟩ := DataW.trod_string Tryz.underlying9 t2
      simp only [List.cons.injEq, and_true] at e0 e1 e2
      subst e0 e1 e2
      refine ⟨⟨n0, n1, n2⟩, fun j u hu => ?_, trivial⟩
      have hj : j < 3 := by have := (List.getElem?_eq_some_iff.1 hu).1; simpa [vcl] using this
      rcases (by omega : j = 0 ∨ j = 1 ∨ j = 2) with rfl | rfl | rfl <;> (obtain rfl := Option.some.inj hu; assumption))
    exact ⟨some a, len, cap, l, rfl, hr⟩
theorem fields_read (h : DataW.trod enc Tryz.prog w base spare held fuel 22 cs = some x) : ∃ (A : Option Addr) (n c : Nat) (l : List Fd), cs = [.slice A n c] ∧ RdF w A n c l := by
  rcases slice_fields Tryz.underlying22 Tryz.underlying64 (by kernel_rfl) (by kernel_rfl) h with rfl | ⟨a, len, cap, rfl, hl, hm, hi⟩
  · exact ⟨none, 0, 0, [], rfl, Rd.none_ w 4⟩
  · obtain ⟨l, hll, hr, -⟩ := rows_read (w := w) (a := a) (Q := fun _ => True) fcl_len (by omega) hl hm (fun i hi' => by
      obtain ⟨n, hf⟩ := hi i hi'
      obtain ⟨v0, y0, c0, t0⟩ := hf 0 _ rfl
      obtain ⟨v1, y1, c1, t1⟩ := hf 1 _ rfl
      obtain ⟨v2, y2, c2, t2⟩ := hf 2 _ rfl
      obtain ⟨v3, y3, c3, t3⟩ := hf 3 _ rfl
      obtain ⟨n0, e0, _, m0⟩ := DataW.trod_string Tryz.underlying9 t0
      obtain ⟨n1, e1, _, m1⟩ := DataW.trod_int Tryz.underlying3 t1
      obtain ⟨n2, e2, _, m2⟩ := DataW.trod_int Tryz.underlying3 t2
      obtain ⟨n3, e3, _⟩ := DataW.trod_bool Tryz.underlying4 t3
      simp only [List.cons.injEq, and_true] at e0 e1 e2 e3
      subst e0 e1 e2 e3
      refine ⟨⟨n0, n1, n2, n3⟩, fun j u hu => ?_, trivial⟩
      have hj : j < 4 := by have := (List.getElem?_eq_some_iff.1 hu).1; simpa [fcl] using this
      rcases (by omega : j = 0 ∨ j = 1 ∨ j = 2 ∨ j = 3) with rfl | rfl | rfl | rfl <;> (obtain rfl := Option.some.inj hu; assumption))
    exact ⟨some a, len, cap, l, rfl, hr⟩
theorem recs_read (h : DataW.trod enc Tryz.prog w base spare held fuel 23 cs = some x) : ∃ (A : Option Addr) (n c : Nat) (l : List Rc), cs = [.slice A n c] ∧ RdR w A n c l := by
  rcases slice_fields Tryz.underlying23 Tryz.underlying69 (by kernel_rfl) (by kernel_rfl) h with rfl | ⟨a, len, cap, rfl, hl, hm, hi⟩
  · exact ⟨none, 0, 0, [], rfl, [], Rd.none_ w 2, rfl, fun i hi => absurd hi (by simp)⟩
  · obtain ⟨l, hll, hr, hq⟩ := rows_read (w := w) (a := a) (α := Rr × List Vl) (cl := fun p => rcl p.1) (Q := fun p => RdV w p.1.A p.1.n p.1.c p.2) (fun p => rcl_len p.1) (by omega) hl hm (fun i hi' => by
      obtain ⟨n, hf⟩ := hi i hi'
      obtain ⟨v0, y0, c0, t0⟩ := hf 0 _ rfl
      obtain ⟨v1, y1, c1, t1⟩ := hf 1 _ rfl
      obtain ⟨n0, e0, _⟩ := DataW.trod_bool Tryz.underlying4 t0
      obtain ⟨A, m, d, vl, e1, hv⟩ := vals_read t1
      simp only [List.cons.injEq, and_true] at e0 e1
      subst e0 e1
      refine ⟨⟨⟨n0, A, m, d⟩, vl⟩, fun j u hu => ?_, hv⟩
      have hj : j < 2 := by have := (List.getElem?_eq_some_iff.1 hu).1; simpa [rcl] using this
      rcases (by omega : j = 0 ∨ j = 1) with rfl | rfl <;> (obtain rfl := Option.some.inj hu; assumption))
    refine ⟨some a, len, cap, l.map (fun p => ⟨p.1.g, p.2⟩), rfl, l.map Prod.fst, ?_, by simp, fun i hi => ?_⟩
    · have e : cls (fun p : Rr × List Vl => rcl p.1) l = rrs (l.map Prod.fst) := by simp [cls, rrs, List.flatMap_map]
      rw [← e]
      exact hr
    · have hi' : i < l.length := by simpa using hi
      rw [rrth_get (by simpa using hi'), rth_get hi]
      simp only [List.getElem_map]
      exact ⟨rfl, hq _ (List.getElem_mem hi')⟩
theorem acts_read (h : DataW.trod enc Tryz.prog w base spare held fuel 28 cs = some x) : ∃ (A : Option Addr) (n c : Nat) (l : List Ac), cs = [.slice A n c] ∧ RdX w A n c l := by
  rcases slice_fields Tryz.underlying28 Tryz.underlying46 (by kernel_rfl) (by kernel_rfl) h with rfl | ⟨a, len, cap, rfl, hl, hm, hi⟩
  · exact ⟨none, 0, 0, [], rfl, Rd.none_ w 6⟩
  · obtain ⟨l, hll, hr, -⟩ := rows_read (w := w) (a := a) (Q := fun _ => True) acC_len (by omega) hl hm (fun i hi' => by
      obtain ⟨n, hf⟩ := hi i hi'
      obtain ⟨v0, y0, c0, t0⟩ := hf 0 _ rfl
      obtain ⟨v1, y1, c1, t1⟩ := hf 1 _ rfl
      obtain ⟨v2, y2, c2, t2⟩ := hf 2 _ rfl
      obtain ⟨v3, y3, c3, t3⟩ := hf 3 _ rfl
      obtain ⟨v4, y4, c4, t4⟩ := hf 4 _ rfl
      obtain ⟨v5, y5, c5, t5⟩ := hf 5 _ rfl
      obtain ⟨n0, e0, _, m0⟩ := DataW.trod_int Tryz.underlying3 t0
      obtain ⟨n1, e1, _, m1⟩ := DataW.trod_int Tryz.underlying3 t1
      obtain ⟨n2, e2, _, m2⟩ := DataW.trod_int Tryz.underlying3 t2
      obtain ⟨n3, e3, _, m3⟩ := DataW.trod_int Tryz.underlying3 t3
      obtain ⟨n4, e4, _, m4⟩ := DataW.trod_string Tryz.underlying9 t4
      obtain ⟨n5, e5, _, m5⟩ := DataW.trod_string Tryz.underlying9 t5
      simp only [List.cons.injEq, and_true] at e0 e1 e2 e3 e4 e5
      subst e0 e1 e2 e3 e4 e5
      refine ⟨⟨n0, n1, n2, n3, n4, n5⟩, fun j u hu => ?_, trivial⟩
      have hj : j < 6 := by have := (List.getElem?_eq_some_iff.1 hu).1; simpa [acC] using this
      rcases (by omega : j = 0 ∨ j = 1 ∨ j = 2 ∨ j = 3 ∨ j = 4 ∨ j = 5) with rfl | rfl | rfl | rfl | rfl | rfl <;> (obtain rfl := Option.some.inj hu; assumption))
    exact ⟨some a, len, cap, l, rfl, hr⟩
theorem tags_read (h : DataW.trod enc Tryz.prog w base spare held fuel 26 cs = some x) : ∃ (A : Option Addr) (n c : Nat), cs = [.slice A n c] ∧ TgR w A n ∧ n ≤ 9223372036854775807 := by
  rcases slice_fields Tryz.underlying26 Tryz.underlying126 (by kernel_rfl) (by kernel_rfl) h with rfl | ⟨a, len, cap, rfl, hl, hm, hi⟩
  · exact ⟨none, 0, 0, rfl, fun i hi => absurd hi (by omega), by omega⟩
  · refine ⟨some a, len, cap, rfl, fun i hi' => ?_, by unfold maxLen at hm; omega⟩
    obtain ⟨n, hf⟩ := hi i hi'
    obtain ⟨v0, y0, c0, t0⟩ := hf 0 _ rfl
    obtain ⟨v1, y1, c1, t1⟩ := hf 1 _ rfl
    obtain ⟨v2, y2, c2, t2⟩ := hf 2 _ rfl
    obtain ⟨n0, e0, _, m0⟩ := DataW.trod_string Tryz.underlying9 t0
    obtain ⟨n1, e1, _, m1⟩ := DataW.trod_string Tryz.underlying9 t1
    obtain ⟨n2, e2, _, m2⟩ := DataW.trod_string Tryz.underlying9 t2
    simp only [List.cons.injEq, and_true] at e0 e1 e2
    subst e0 e1 e2
    exact ⟨a, n0, n1, n2, rfl, c0, cell_fk c1 (by omega), cell_fk c2 (by omega)⟩
structure CgR (w : World) (c : Cg) (fs : List Fd) (rs : List Rc) (vals : List Vl) (acts : List Ac) : Prop where
  rf : RdF w c.A c.n c.c fs
  rr : RdR w c.B c.m c.d rs
  tg : TgR w c.G c.gn
  tn : c.gn ≤ 9223372036854775807
  rv : RdV w c.V c.vn c.vc vals
  rx : RdX w c.X c.xn c.xc acts
theorem changes_read {r : Reach} {b0 : Nat} {v : Value} {dd : DataW H} {pp : List MemPlace} (hv : Value.okWide Tryz.prog w r b0 30 v) (h : DataW.Trod enc Tryz.prog w base spare held 30 v dd pp) :
    ∃ (c : Cg) (fs : List Fd) (rs : List Rc) (vals : List Vl) (acts : List Ac), v = .agg (cgC c).toArray ∧ CgR w c fs rs vals acts := by
  obtain ⟨cs, rfl, hsz⟩ := okWide_struct Tryz.underlying30 hv
  have hC : Tryz.prog.cellsOf 30 = 6 := by kernel_rfl
  obtain ⟨fuel, hf⟩ := h
  obtain ⟨cl⟩ := cs
  have hl : cl.length = 6 := hsz.trans hC
  match cl, hl with
  | [q0, q1, q2, q3, q4, q5], _ =>
    obtain ⟨ys, n', hn', hy, hlen, hyl, hff⟩ := DataW.trod_struct Tryz.underlying30 hf
    have k25 : Tryz.prog.cellsOf 25 = 3 := by kernel_rfl
    have k26 : Tryz.prog.cellsOf 26 = 1 := by kernel_rfl
    have k27 : Tryz.prog.cellsOf 27 = 1 := by kernel_rfl
    have k28 : Tryz.prog.cellsOf 28 = 1 := by kernel_rfl
    have k3 : Tryz.prog.cellsOf 3 = 1 := by kernel_rfl
    have k22 : Tryz.prog.cellsOf 22 = 1 := by kernel_rfl
    have k23 : Tryz.prog.cellsOf 23 = 1 := by kernel_rfl
    have g0 := (hff 0 _ rfl)
    have g1 := (hff 1 _ rfl)
    have g2 := (hff 2 _ rfl)
    have g3 := (hff 3 _ rfl)
    rw [List.getElem?_eq_getElem (by rw [hyl]; decide)] at g0 g1 g2 g3
    simp [Value.cells, k25, k26, k27, k28] at g0 g1 g2 g3
    obtain ⟨A3, n3, c3, e3, r3⟩ := tags_read g1
    obtain ⟨A4, n4, c4, l4, e4, r4⟩ := vals_read g2
    obtain ⟨A5, n5, c5, l5, e5, r5⟩ := acts_read g3
    obtain ⟨ys', n'', _, _, _, hyl', hff'⟩ := DataW.trod_struct Tryz.underlying25 g0
    have f0 := (hff' 0 _ rfl)
    have f1 := (hff' 1 _ rfl)
    have f2 := (hff' 2 _ rfl)
    rw [List.getElem?_eq_getElem (by rw [hyl']; decide)] at f0 f1 f2
    simp [Value.cells, k3, k22, k23] at f0 f1 f2
    obtain ⟨n0, e0, _, m0⟩ := DataW.trod_int Tryz.underlying3 f0
    obtain ⟨A1, n1, c1, l1, e1, r1⟩ := fields_read f1
    obtain ⟨A2, n2, c2, l2, e2, r2⟩ := recs_read f2
    simp only [List.cons.injEq, and_true] at e0 e1 e2 e3 e4 e5
    subst e0 e1 e2 e3 e4 e5
    exact ⟨⟨n0, A1, n1, c1, A2, n2, c2, A3, n3, c3, A4, n4, c4, A5, n5, c5⟩, l1, l2, l4, l5, rfl, r1, r2, r3.1, r3.2, r4, r5⟩
end
open Go.RowKit Go.Shelf
def SomeB (e : Ending) : Prop := ∃ q : Bool, e = .returned (.bool q)
theorem TgR.ext {w w' : World} {A : Option Addr} {n : Nat} (h : TgR w A n) (hx : Ext w w') : TgR w' A n := fun i hi => by
  obtain ⟨ad, s0, s1, s2, e, a, b, c⟩ := h i hi
  exact ⟨ad, s0, s1, s2, e, hx.cell a, hx.cell b, hx.cell c⟩
theorem CgR.ext {w w' : World} {c : Cg} {fs : List Fd} {rs : List Rc} {vals : List Vl} {acts : List Ac} (h : CgR w c fs rs vals acts) (hx : Ext w w') : CgR w' c fs rs vals acts :=
  ⟨h.rf.ext hx, h.rr.ext hx, h.tg.ext hx, h.tn, h.rv.ext hx, h.rx.ext hx⟩
theorem isHeavy_any (c : Cg) (fs : List Fd) (rs : List Rc) (vals : List Vl) (acts : List Ac) (w : World) (h : CgR w c fs rs vals acts) : Calls Tryz.prog 4 #[.agg (cgC c).toArray] w fun e w' => SomeB e ∧ Ext w w' := by
  have hmx := h.rx.max
  have hmr := h.rr.max
  have hmt := h.tn
  obtain ⟨w1, g, e1, h1, s1, kg, x1⟩ := newB w (cgC c) 30
  have hc := hid (h.ext x1)
  have hw1 := hid (fun w' (hx : Ext w1 w') => weight_any c.p c.A c.n c.c c.B c.m c.d fs rs w' (hc.out.rf.ext hx) (hc.out.rr.ext hx))
  have hw2 := hid (fun w' (hx : Ext w1 w') => weightTags_any c.G c.gn c.gc w' hmt (hc.out.tg.ext hx))
  have hw3 := hid (fun w' (hx : Ext w1 w') => weightOf_any c.V c.vn c.vc vals w' (hc.out.rv.ext hx))
  replace kg := hid kg
  replace x1 := hid x1
  clear h
  unfold tb at hw1
  unfold cgC at e1 kg ⊢
  go_enter Tryz.func4, Tryz.ntmps4
  go_upto_region 1 with fail
  simp only [e1.out, h1.out]
  clear e1 h1 s1
  have xa := (Ext.refl w1).drew_right
  refine region_J (fun w' => Ext w1 w') 12 (by kernel_rfl) ?_
  generalize w1.drew = da at xa ⊢
  refine JR 0 (v := ?va1) rfl (by kernel_rfl) rfl ?ya1 xa ?ra1
  case ya1 => (intro w hw; (go_simp; with_reducible rfl))
  simp only [Act.put, lyA, lyB, lyC, lyD, lyE, lyF]
  refine JR 1 (v := ?va2) rfl (by kernel_rfl) rfl ?ya2 xa ?ra2
  case ya2 => (intro w hw; obtain ⟨a0, a1, a2, a3, a4, a5⟩ := (kg.out.ext hw).c6; (go_simp; with_reducible rfl))
  simp only [Act.put, lyA, lyB, lyC, lyD, lyE, lyF]
  refine JR 3 (v := ?va3) rfl (by kernel_rfl) rfl ?ya3 xa ?ra3
  case ya3 => (intro w hw; (go_simp; with_reducible rfl))
  simp only [Act.put, lyA, lyB, lyC, lyD, lyE, lyF]
  refine JR 4 (v := ?va4) rfl (by kernel_rfl) rfl ?ya4 xa ?ra4
  case ya4 => (intro w hw; obtain ⟨a0, a1, a2, a3, a4, a5⟩ := (kg.out.ext hw).c6; (go_simp; with_reducible rfl))
  simp only [Act.put, lyA, lyB, lyC, lyD, lyE, lyF]
  refine JR 7 (v := ?va5) rfl (by kernel_rfl) rfl ?ya5 xa ?ra5
  case ya5 => (intro w hw; (go_simp; with_reducible rfl))
  simp only [Act.put, lyA, lyB, lyC, lyD, lyE, lyF]
  refine JR 8 (v := ?va6) rfl (by kernel_rfl) rfl ?ya6 xa ?ra6
  case ya6 => (intro w hw; obtain ⟨a0, a1, a2, a3, a4, a5⟩ := (kg.out.ext hw).c6; (go_simp; with_reducible rfl))
  simp only [Act.put, lyA, lyB, lyC, lyD, lyE, lyF]
  refine J_one 2 rfl (by kernel_rfl) (fun K hK => ?_)
  go_simp
  refine (hw1.out _ xa).mono ?_
  rintro e9 wa7 ⟨⟨z1, rfl⟩, hxa7⟩
  refine hK _ _ ⟨fun _ => ((xa).trans hxa7), ?_⟩
  clear hK K
  try simp only [Act.put, lyA, lyB, lyC, lyD, lyE, lyF]
  have xa7 := ((xa).trans hxa7)
  refine J_one 5 rfl (by kernel_rfl) (fun K hK => ?_)
  go_simp
  refine (hw2.out _ xa7).mono ?_
  rintro e9 wa8 ⟨⟨z2, rfl⟩, hxa8⟩
  refine hK _ _ ⟨fun _ => ((xa7).trans hxa8), ?_⟩
  clear hK K
  try simp only [Act.put, lyA, lyB, lyC, lyD, lyE, lyF]
  have xa8 := ((xa7).trans hxa8)
  refine JR 6 (v := ?va9) rfl (by kernel_rfl) rfl ?ya9 xa8 ?ra9
  case ya9 => (intro w hw; (go_simp; with_reducible rfl))
  simp only [Act.put, lyA, lyB, lyC, lyD, lyE, lyF]
  refine J_one 9 rfl (by kernel_rfl) (fun K hK => ?_)
  go_simp
  refine (hw3.out _ xa8).mono ?_
  rintro e9 wa10 ⟨⟨z3, rfl⟩, hxa10⟩
  refine hK _ _ ⟨fun _ => ((xa8).trans hxa10), ?_⟩
  clear hK K
  try simp only [Act.put, lyA, lyB, lyC, lyD, lyE, lyF]
  have xa10 := ((xa8).trans hxa10)
  refine JR 10 (v := ?va11) rfl (by kernel_rfl) rfl ?ya11 xa10 ?ra11
  case ya11 => (intro w hw; (go_simp; with_reducible rfl))
  simp only [Act.put, lyA, lyB, lyC, lyD, lyE, lyF]
  refine JR 11 (v := ?va12) rfl (by kernel_rfl) rfl ?ya12 xa10 ?ra12
  case ya12 => (intro w hw; (go_simp; with_reducible rfl))
  simp only [Act.put, lyA, lyB, lyC, lyD, lyE, lyF]
  refine J_done (by kernel_rfl) (OnlyOn.normal ?_)
  have hx2 := hid (xa10)
  generalize wa10 = w2 at *
  clear hw1 hw2 hw3
  go_wp2_with fail
  go_loopw [3, 4] (fun x v wr => ∃ (i : Nat) (y : Int), i ≤ c.xn ∧ v = .int .i64 i ∧ x = .int .i64 y ∧ Hid (Ext w1 wr)) (fun _ v _ => c.xn - (intOf v).toNat)
  case atStart => exact ⟨0, _, by omega, rfl, rfl, hx2⟩
  case round =>
    clear hx2
    obtain ⟨i, y, hi, rfl, rfl, hx⟩ := hrel
    obtain ⟨a0, a1, a2, a3, a4, a5⟩ := (kg.out.ext hx.out).c6
    by_cases hlt : i < c.xn
    · obtain ⟨ad, hA, r0, r1, r2, r3, r4, r5⟩ := (hc.out.rx.ext hx.out).at_ hlt
      rw [hA] at a5
      clear r0 r1 r2 r3 hA
      go_upto_region 5 with fail
      go_quiet (fail)
      go_wp2
      go_roundw
      case rel => exact ⟨i + 1, _, by omega, by go_num, rfl, hx.out.drewN_right _⟩
      case measure => simp [intOf]; omega
    · obtain rfl : i = c.xn := by omega
      have hxf := hid (x1.out.trans hx.out)
      clear hx
      by_cases b1 : 65536 < y
      · go_wp2
        go_ret
        exact ⟨⟨_, rfl⟩, hxf.out⟩
      · by_cases b2 : 60 < (c.xn : Int)
        · go_wp2
          go_ret
          exact ⟨⟨_, rfl⟩, hxf.out⟩
        · by_cases b3 : 40 < (c.m : Int)
          · go_wp2
            go_ret
            exact ⟨⟨_, rfl⟩, hxf.out⟩
          · go_wp2
            go_ret
            exact ⟨⟨_, rfl⟩, hxf.out⟩
open Go.RowKit Go.Shelf Go.MuLone
structure Lm where
  t : Tt
  d : Tt
  dA : Option Addr
  dc : Nat
  lA : Option Addr
  ln : Nat
  lc : Nat
  fA : Option Addr
  fc : Nat
  bA : Option Addr
  bn : Nat
  bc : Nat
  R : Nat → Prop
def logC (s p : Int) (L : Lm) : List Value := [.int .i32 s, .int .u32 0, .int .i64 p, .slice L.t.A L.t.n L.t.c, .slice L.t.B L.t.m L.t.d, .slice L.lA L.ln L.lc, .slice L.dA 1 L.dc, .slice L.fA 2 L.fc, .slice L.fA 2 L.fc, .slice none 0 0, .slice none 0 0]
def LvR (w : World) (lo : Nat) (p : Int) (L : Lm) : Prop := (L.lA = none ∧ L.ln = 0 ∧ L.lc = 0) ∨ (L.ln = 1 ∧ ∃ A n c B m d, w.ownsRow lo 25 3 (.slice L.lA 1 L.lc) 1 [.int .i64 p, .slice A n c, .slice B m d])
structure LogI (w : World) (lo b : Nat) (s p : Int) (fs : List Fd) (r0 rs : List Rc) (L : Lm) : Prop where
  bk : Bk w b (logC s p L) 108
  ow : OwTt w lo fs.length fs rs L.t
  od : OwTt w lo fs.length fs r0 L.d
  dr : w.ownsRow lo 25 3 (.slice L.dA 1 L.dc) 1 [.int .i64 p, .slice L.d.A L.d.n L.d.c, .slice L.d.B L.d.m L.d.d]
  lr : LvR w lo p L
  fr : w.ownsRow lo 94 1 (.slice L.fA 2 L.fc) 2 [.slice L.bA L.bn L.bc, .slice none 0 0]
  rd : ∀ k, L.d.F k → L.R k
  rr : ∀ k, (Value.slice L.dA 1 L.dc).ownBlock = some k → L.R k
  rl : ∀ k, (Value.slice L.lA L.ln L.lc).ownBlock = some k → L.R k
  rf : ∀ k, (Value.slice L.fA 2 L.fc).ownBlock = some k → L.R k
  nb : ¬ L.t.F b
  rb : ¬ L.R b
  rt : ∀ k, L.R k → ¬ L.t.F k
  lb : lo ≤ b
  bd : ∀ k, L.R k → lo ≤ k ∧ k < w.heap.size
def LogF (b : Nat) (L : Lm) (k : Nat) : Prop := k = b ∨ L.t.F k ∨ L.R k
def LogTo (w w' : World) (lo b : Nat) (s p : Int) (fs : List Fd) (r0 rs : List Rc) (L : Lm) : Prop :=
  ∃ L', LogI w' lo b s p fs r0 rs L' ∧ L'.ln = L.ln ∧ Mv w w' (LogF b L) ∧ ∀ k, LogF b L' k → LogF b L k ∨ w.heap.size ≤ k
section
variable {w w' w1 : World} {lo b : Nat} {s s' p : Int} {fs : List Fd} {r0 rs rs' : List Rc} {L L' : Lm} {u : Tt}
theorem LogI.keep (h : LogI w lo b s p fs r0 rs L) (hk : ∀ k, LogF b L k → w'.heap[k]? = w.heap[k]?) (hs : w.heap.size ≤ w'.heap.size) : LogI w' lo b s p fs r0 rs L := by
  have hR := fun k (q : L.R k) => hk k (.inr (.inr q))
  refine ⟨h.bk.keep (hk b (.inl rfl)), h.ow.keep (fun k q => hk k (.inr (.inl q))), h.od.keep (fun k q => hR k (h.rd k q)), own_same h.dr (fun k q => hR k (h.rr k q)), ?_, own_same h.fr (fun k q => hR k (h.rf k q)), h.rd, h.rr, h.rl, h.rf, h.nb, h.rb, h.rt, h.lb, fun k q => ⟨(h.bd k q).1, Nat.lt_of_lt_of_le (h.bd k q).2 hs⟩⟩
  rcases h.lr with e | ⟨e, A, n, c, B, m, d, e2⟩
  · exact .inl e
  · exact .inr ⟨e, A, n, c, B, m, d, own_same e2 (fun k q => hR k (h.rl k (by rw [e]; exact q)))⟩
theorem LogI.lt (h : LogI w lo b s p fs r0 rs L) {k : Nat} (hk : LogF b L k) : lo ≤ k ∧ k < w.heap.size := by
  rcases hk with rfl | hk | hk
  · exact ⟨h.lb, h.bk.lt⟩
  · exact h.ow.lt hk
  · exact h.bd k hk
theorem LogI.ext (h : LogI w lo b s p fs r0 rs L) (hx : Ext w w') : LogI w' lo b s p fs r0 rs L := h.keep (fun k q => hx.block (h.lt q).2) hx.size
theorem LogI.fb (h : LogI w lo b s p fs r0 rs L) : LogF b L b := .inl rfl
theorem LogI.turn (h : LogI w lo b s p fs r0 rs L) (s' : Int) : LogI (w.setCell ⟨b, 0, none⟩ (.int .i32 s')) lo b s' p fs r0 rs L := by
  have hk : ∀ k, k ≠ b → (w.setCell ⟨b, 0, none⟩ (.int .i32 s')).heap[k]? = w.heap[k]? := (setCell_at w b 0 _).2
  have hR := fun k (q : L.R k) => hk k (fun e => h.rb (e ▸ q))
  refine ⟨h.bk.set 0 _, h.ow.keep (fun k q => hk k (fun e => h.nb (e ▸ q))), h.od.keep (fun k q => hR k (h.rd k q)), own_same h.dr (fun k q => hR k (h.rr k q)), ?_, own_same h.fr (fun k q => hR k (h.rf k q)), h.rd, h.rr, h.rl, h.rf, h.nb, h.rb, h.rt, h.lb, fun k q => ⟨(h.bd k q).1, by rw [(setCell_at _ _ _ _).1]; exact (h.bd k q).2⟩⟩
  rcases h.lr with e | ⟨e, A, n, c, B, m, d, e2⟩
  · exact .inl e
  · exact .inr ⟨e, A, n, c, B, m, d, own_same e2 (fun k q => hR k (h.rl k (by rw [e]; exact q)))⟩
theorem LogI.now (h : LogI w lo b s p fs r0 rs L) (hb : Bk w' b (logC s' p { L with t := u }) 108) (hU : OwTt w' lo fs.length fs rs' u) (hF : ∀ k, u.F k → L.t.F k ∨ w.heap.size ≤ k) (hm : Mv w w' (fun k => k = b ∨ L.t.F k)) : LogI w' lo b s' p fs r0 rs' { L with t := u } := by
  have hR := fun k (q : L.R k) => hm.at (h.bd k q).2 (fun e => e.elim (fun e => h.rb (e ▸ q)) (fun e => h.rt k q e))
  refine ⟨hb, hU, h.od.keep (fun k q => hR k (h.rd k q)), own_same h.dr (fun k q => hR k (h.rr k q)), ?_, own_same h.fr (fun k q => hR k (h.rf k q)), h.rd, h.rr, h.rl, h.rf, fun q => ?_, h.rb, fun k q e => ?_, h.lb, fun k q => ⟨(h.bd k q).1, Nat.lt_of_lt_of_le (h.bd k q).2 hm.size⟩⟩
  · rcases h.lr with e | ⟨e, A, n, c, B, m, d, e2⟩
    · exact .inl e
    · exact .inr ⟨e, A, n, c, B, m, d, own_same e2 (fun k q => hR k (h.rl k (by rw [e]; exact q)))⟩
  · rcases hF b q with e | e
    · exact h.nb e
    · have := h.bk.lt; omega
  · rcases hF k e with e | e
    · exact h.rt k q e
    · have := (h.bd k q).2; omega
theorem LogI.c (h : LogI w lo b s p fs r0 rs L) : w.cell? ⟨b, 0, none⟩ = some (.int .i32 s) ∧ w.cell? ⟨b, 2, none⟩ = some (.int .i64 p) ∧ w.cell? ⟨b, 3, none⟩ = some (.slice L.t.A fs.length L.t.c) ∧ w.cell? ⟨b, 4, none⟩ = some (.slice L.t.B rs.length L.t.d) ∧
    w.cell? ⟨b, 5, none⟩ = some (.slice L.lA L.ln L.lc) ∧ w.cell? ⟨b, 6, none⟩ = some (.slice L.dA 1 L.dc) ∧ w.cell? ⟨b, 7, none⟩ = some (.slice L.fA 2 L.fc) ∧ w.cell? ⟨b, 8, none⟩ = some (.slice L.fA 2 L.fc) ∧ w.cell? ⟨b, 9, none⟩ = some (.slice none 0 0) ∧ w.cell? ⟨b, 10, none⟩ = some (.slice none 0 0) :=
  ⟨h.bk.at rfl, h.bk.at rfl, by rw [← h.ow.2.2.2.2.1]; exact h.bk.at rfl, by rw [← h.ow.2.2.2.1]; exact h.bk.at rfl, h.bk.at rfl, h.bk.at rfl, h.bk.at rfl, h.bk.at rfl, h.bk.at rfl, h.bk.at rfl⟩
theorem LogTo.of (h : LogI w' lo b s p fs r0 rs L) (hm : Mv w w' (LogF b L)) : LogTo w w' lo b s p fs r0 rs L := ⟨L, h, rfl, hm, fun k hk => .inl hk⟩
theorem LogTo.trans (hm : Mv w w1 (LogF b L)) (h : LogTo w1 w' lo b s p fs r0 rs L) : LogTo w w' lo b s p fs r0 rs L := by
  obtain ⟨L', a, c, d, e⟩ := h
  exact ⟨L', a, c, hm.trans d (fun k hk => .inl hk), fun k hk => (e k hk).imp id (fun q => Nat.le_trans hm.size q)⟩
theorem LogTo.unlock (h : LogTo w w' lo b s p fs r0 rs L) : LogTo w (w'.setCell ⟨b, 0, none⟩ (.int .i32 0)) lo b 0 p fs r0 rs L := by
  obtain ⟨L', a, c, d, e⟩ := h
  exact ⟨L', a.turn 0, c, d.set (.inl (.inl rfl)) 0 _, e⟩
theorem LogTo.ext (h : LogTo w w1 lo b s p fs r0 rs L) (hx : Ext w1 w') : LogTo w w' lo b s p fs r0 rs L := by
  obtain ⟨L', a, c, d, e⟩ := h
  exact ⟨L', a.ext hx, c, d.ext hx, e⟩
theorem LogTo.c0 (h : LogTo w w' lo b s p fs r0 rs L) : w'.cell? ⟨b, 0, none⟩ = some (.int .i32 s) ∧ w'.frozen? ⟨b, 0, none⟩ = false := by
  obtain ⟨L', a, c, d, e⟩ := h
  exact ⟨a.bk.at rfl, a.bk.free 0⟩
end
theorem row25 {w : World} {lo c : Nat} {A A1 B1 : Option Addr} {p : Int} {n1 c1 m1 d1 : Nat} (h : w.ownsRow lo 25 3 (.slice A 1 c) 1 [.int .i64 p, .slice A1 n1 c1, .slice B1 m1 d1]) : ∃ g, A = some ⟨g, 0, none⟩ ∧ g < w.heap.size ∧ w.cell? ⟨g, 0, none⟩ = some (.int .i64 p) ∧ w.cell? ⟨g, 1, none⟩ = some (.slice A1 n1 c1) ∧ w.cell? ⟨g, 2, none⟩ = some (.slice B1 m1 d1) := by
  obtain ⟨g, e, _, hl⟩ := own_blk h (by omega)
  subst e
  obtain ⟨ad, e, hc⟩ := (Rd.of_own h).2.2.2 (by omega)
  injection e with e
  subst e
  have q := fun j v (hj : [Value.int .i64 p, .slice A1 n1 c1, .slice B1 m1 d1][j]? = some v) => by have := hc j v hj; rwa [lit_add0] at this
  exact ⟨g, rfl, hl, q 0 _ rfl, q 1 _ rfl, q 2 _ rfl⟩
open Go.RowKit Go.Shelf
section
variable {P : Program} {ops : Array Oper} {Q : Exit → Act → World → Prop} {md : Region.Mode} {S T : World → Prop} {last : Nat}
def wpAnyK (P : Program) (md : Region.Mode) (ops : Array Oper) (Q : Exit → Act → World → Prop) (S : World → Prop) (last : Nat) : Nat → Array Bool → Act → World → Prop
  | 0, listed, a, w => Region.ready md ops listed = [] ∧ Q .normal a w
  | fuel + 1, listed, a, w =>
    (Region.ready md ops listed = [] → Q .normal a w) ∧
    ∀ i ∈ Region.ready md ops listed, wpOp P ops Q i (fun a' w' => (i ≠ last → listed.getD last true = false → S w') ∧ wpAnyK P md ops Q S last fuel (listed.setIfInBounds i true) a' w') a w
theorem wpAny_of_K : ∀ (fuel : Nat) (listed : Array Bool) (a : Act) (w : World), wpAnyK P md ops Q S last fuel listed a w → wpAny P md ops Q fuel listed a w
  | 0, _, _, _, h => h
  | fuel + 1, _, _, _, h => ⟨h.1, fun i hi => wpOp_mono (fun a' w' h' => wpAny_of_K fuel _ a' w' h'.2) (h.2 i hi)⟩
theorem wpAnyK_first {i : Nat} {oi : Oper} {v : Value} (hi : ops[i]? = some oi) (hsel : ∀ (j : Nat) (o : Oper) cs b, ops[j]? = some o → o.op ≠ .select cs b)
    (hQ : ∀ c a w, Q (.panic c) (a.put oi.dst v) w → Q (.panic c) a w) (hil : i ≠ last) :
    ∀ (fuel : Nat) (listed : Array Bool) (a : Act) (w : World),
      (∀ j oj, ops[j]? = some oj → j ≠ i → listed.getD j true = false → (∀ e ∈ oj.after, Region.binds md e = true → e.on ≠ i) → oi.apart ops oj = true) →
      i ∈ Region.ready md ops listed → YieldsIf P ops T oi v a → T w → (listed.getD last true = false → S w) → ((∀ w, T w) ∨ (waits md ops last i = true ∧ listed.getD last true = false ∧ ∀ w, S w → T w)) →
      wpAnyK P md ops Q S last fuel (listed.setIfInBounds i true) (a.put oi.dst v) w → wpAnyK P md ops Q S last (fuel + 1) listed a w := by
  intro fuel
  induction fuel with
  | zero =>
    intro listed a w _ hr hy hT hS _ H
    refine ⟨fun h => (by rw [h] at hr; cases hr), fun j hj => ?_⟩
    by_cases hji : j = i
    · subst hji; exact hy.wpOp hi hT ⟨fun _ => hS, H⟩
    · have := ready_mono hj hji
      rw [H.1] at this
      cases this
  | succ fuel ih =>
    intro listed a w hfree hr hy hT hS hw H
    refine ⟨fun h => (by rw [h] at hr; cases hr), fun j hj => ?_⟩
    by_cases hji : j = i
    · subst hji; exact hy.wpOp hi hT ⟨fun _ => hS, H⟩
    · have h1 := H.2 j (ready_mono hj hji)
      obtain ⟨hjun, oj, hoj, hall⟩ := mem_ready.1 hj
      have hnot : ∀ e ∈ oj.after, Region.binds md e = true → e.on ≠ i := fun e he hb heq => by
        have h1 := hall e he hb
        have h0 := (mem_ready.1 hr).1
        rw [heq] at h1
        rcases Nat.lt_or_ge i listed.size with h' | h'
        · simp [h'] at h0 h1; rw [h0] at h1; cases h1
        · simp [Array.getElem?_eq_none h'] at h1
      have h2 := wpOp_putIf hoj (hfree j oj hoj hji hjun hnot) (fun cs b => hsel i oi cs b hi) (fun cs b => hsel j oj cs b hoj) hQ hy h1
      have hfree' : ∀ k ok, ops[k]? = some ok → k ≠ i → (listed.setIfInBounds j true).getD k true = false →
          (∀ e ∈ ok.after, Region.binds md e = true → e.on ≠ i) → oi.apart ops ok = true := fun k ok hk hki hun hno => by
        refine hfree k ok hk hki ?_ hno
        by_cases hjk : j = k
        · subst hjk; exact hjun
        · rw [getD_set_ne true hjk] at hun; exact hun
      have hlast : (listed.setIfInBounds i true).getD last true = listed.getD last true := getD_set_ne true hil
      refine wpOp_mono (fun a' w' h3 => ?_) h2
      obtain ⟨h4, h5, h6⟩ := h3
      have hS' : j ≠ last → listed.getD last true = false → S w' := fun n1 n2 => h5 n1 (hlast.trans n2)
      have hlj : (listed.setIfInBounds j true).getD last true = false → j ≠ last ∧ listed.getD last true = false := fun h => by
        by_cases hjl : j = last
        · subst hjl
          rcases Nat.lt_or_ge j listed.size with h' | h'
          · simp [h'] at h
          · simp [Array.getElem?_eq_none h'] at h
        · exact ⟨hjl, by rw [getD_set_ne true hjl] at h; exact h⟩
      refine ⟨hS', ih (listed.setIfInBounds j true) a' w' hfree' (ready_mono hr (Ne.symm hji)) h4 ?_ (fun h => hS' (hlj h).1 (hlj h).2) ?_ (by rw [Array.setIfInBounds_comm _ _ hji]; exact h6)⟩
      · rcases hw with hw | ⟨w1, w2, w3⟩
        · exact hw w'
        · exact w3 w' (hS' (fun e => waits_spec w1 hr (e ▸ hj)) w2)
      · rcases hw with hw | ⟨w1, w2, w3⟩
        · exact .inl hw
        · have hjl : j ≠ last := fun e => waits_spec w1 hr (e ▸ hj)
          exact .inr ⟨w1, by rw [getD_set_ne true hjl]; exact w2, w3⟩
theorem K_take (i : Nat) {oi : Oper} {v : Value} {fuel : Nat} {listed : Array Bool} {a : Act} {w : World} (hi : ops[i]? = some oi)
    (hs : Region.noSelect ops = true) (hf : Region.free md ops listed i = true) (hr : (Region.ready md ops listed).contains i = true) (hw : waits md ops last i = true) (hil : (i != last) = true) (hl : listed.getD last true = false)
    (hQ : ∀ c a w, Q (.panic c) (a.put oi.dst v) w → Q (.panic c) a w) (hy : YieldsIf P ops S oi v a) (hS : S w)
    (h : wpAnyK P md ops Q S last fuel (listed.setIfInBounds i true) (a.put oi.dst v) w) : wpAnyK P md ops Q S last (fuel + 1) listed a w :=
  wpAnyK_first hi (Region.noSelect_spec hs) hQ (by simpa using hil) fuel listed a w (Region.free_spec hi hf) (by simpa using hr) hy hS (fun _ => hS) (.inr ⟨hw, hl, fun _ h => h⟩) h
theorem K_free (i : Nat) {oi : Oper} {v : Value} {fuel : Nat} {listed : Array Bool} {a : Act} {w : World} (hi : ops[i]? = some oi)
    (hs : Region.noSelect ops = true) (hf : Region.free md ops listed i = true) (hr : (Region.ready md ops listed).contains i = true) (hil : (i != last) = true)
    (hQ : ∀ c a w, Q (.panic c) (a.put oi.dst v) w → Q (.panic c) a w) (hy : YieldsIf P ops (fun _ => True) oi v a) (hS : listed.getD last true = true ∨ S w)
    (h : wpAnyK P md ops Q S last fuel (listed.setIfInBounds i true) (a.put oi.dst v) w) : wpAnyK P md ops Q S last (fuel + 1) listed a w :=
  wpAnyK_first (T := fun _ => True) hi (Region.noSelect_spec hs) hQ (by simpa using hil) fuel listed a w (Region.free_spec hi hf) (by simpa using hr) hy trivial (fun h => hS.resolve_left (fun h1 => by rw [h1] at h; cases h)) (.inl fun _ => trivial) h
theorem K_one (i : Nat) {o : Oper} {fuel : Nat} {listed : Array Bool} {a : Act} {w : World} (hi : ops[i]? = some o) (hr : Region.ready md ops listed = [i])
    (h : ∀ K, (∀ a' w', (i ≠ last → listed.getD last true = false → S w') ∧ wpAnyK P md ops Q S last fuel (listed.setIfInBounds i true) a' w' → K a' w') → if Region.wanted o (yielded ops a.tmps) = true then Oper.wp P o a w K Q else K (a.put o.dst undef) w) : wpAnyK P md ops Q S last (fuel + 1) listed a w := by
  refine ⟨fun h0 => absurd (hr ▸ h0) (by simp), fun j hj => ?_⟩
  rw [hr, List.mem_singleton] at hj
  subst hj
  have h1 := h _ (fun _ _ h => h)
  unfold wpOp
  simp only [hi]
  split
  · rename_i hw; rw [if_pos hw] at h1; exact .inl h1
  · rename_i hw; rw [if_neg hw] at h1; exact h1
theorem K_done {fuel : Nat} {listed : Array Bool} {a : Act} {w : World} (hr : Region.ready md ops listed = []) (h : Q .normal a w) : wpAnyK P md ops Q S last fuel listed a w := by
  cases fuel with
  | zero => exact ⟨hr, h⟩
  | succ n => exact ⟨fun _ => h, by rw [hr]; simp⟩
end
theorem region_K {P : Program} {id : Nat} {ops : Array Oper} {Q : Exit → Act → World → Prop} (S : World → Prop) (last : Nat) {a : Act} {w : World} (hm : P.follows .mixedOrders = true)
    (h : wpAnyK P .any ops (OnlyOn Q) S last ops.size (Array.replicate ops.size false) a w.drew) : (Code.region id ops true).wp P Q a w :=
  Code.wp_mono OnlyOn.imp (wp_region_any hm (wpAny_of_K _ _ _ _ h))
section
variable {P : Program} {ops : Array Oper} {Q : Exit → Act → World → Prop} {md : Region.Mode} {S : World → Prop} {last : Nat}
def kow (md : Region.Mode) (ops : Array Oper) (listed : Array Bool) (i last : Nat) : Bool := Region.noSelect ops && (Region.free md ops listed i && ((Region.ready md ops listed).contains i && (waits md ops last i && (i != last && (listed.getD last true == false)))))
theorem KT (i : Nat) {oi : Oper} {v : Value} {fuel : Nat} {listed : Array Bool} {a : Act} {w : World} (hi : ops[i]? = some oi) (hc : kow md ops listed i last = true) (hw : Region.wanted oi (yielded ops a.tmps) = true)
    (hv : ∀ w, S w → (execOp a.eval oi).run P w = .ok (.value v) w) (hS : S w)
    (h : wpAnyK P md ops (OnlyOn Q) S last fuel (listed.setIfInBounds i true) (a.put oi.dst v) w) : wpAnyK P md ops (OnlyOn Q) S last (fuel + 1) listed a w := by
  unfold kow at hc
  simp only [Bool.and_eq_true] at hc
  obtain ⟨h1, h2, h3, h4, h5, h6⟩ := hc
  exact K_take i hi h1 h2 h3 h4 h5 (by simpa using h6) (fun _ _ _ h => h) (.inl ⟨hw, hv⟩) hS h
def kof (md : Region.Mode) (ops : Array Oper) (listed : Array Bool) (i last : Nat) : Bool := Region.noSelect ops && (Region.free md ops listed i && ((Region.ready md ops listed).contains i && (i != last)))
theorem KF (i : Nat) {oi : Oper} {v : Value} {fuel : Nat} {listed : Array Bool} {a : Act} {w : World} (hi : ops[i]? = some oi) (hc : kof md ops listed i last = true) (hw : Region.wanted oi (yielded ops a.tmps) = true)
    (hv : ∀ w, (execOp a.eval oi).run P w = .ok (.value v) w) (hS : listed.getD last true = true ∨ S w)
    (h : wpAnyK P md ops (OnlyOn Q) S last fuel (listed.setIfInBounds i true) (a.put oi.dst v) w) : wpAnyK P md ops (OnlyOn Q) S last (fuel + 1) listed a w := by
  unfold kof at hc
  simp only [Bool.and_eq_true] at hc
  obtain ⟨h1, h2, h3, h5⟩ := hc
  exact K_free i hi h1 h2 h3 h5 (fun _ _ _ h => h) (.inl ⟨hw, fun w _ => hv w⟩) hS h
theorem K_end (i : Nat) {o : Oper} {fuel : Nat} {listed : Array Bool} {a : Act} {w : World} (hi : ops[i]? = some o) (hr : Region.ready md ops listed = [i]) (hl : (i == last || listed.getD last true) = true)
    (h : ∀ K, (∀ a' w', wpAnyK P md ops Q S last fuel (listed.setIfInBounds i true) a' w' → K a' w') → if Region.wanted o (yielded ops a.tmps) = true then Oper.wp P o a w K Q else K (a.put o.dst undef) w) : wpAnyK P md ops Q S last (fuel + 1) listed a w :=
  K_one i hi hr (fun K hK => h K (fun a' w' q => hK a' w' ⟨fun h1 h2 => by
    rw [h2, Bool.or_false] at hl
    exact absurd (by simpa using hl) h1, q⟩))
end
end Go.Proofs.YtngoebbmgpdeiaaGreatDoor
