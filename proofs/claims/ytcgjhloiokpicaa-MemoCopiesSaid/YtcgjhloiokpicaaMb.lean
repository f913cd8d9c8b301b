/-
  put where nothing is free: the walk.
-/
import Derived.Test.YtcgjhloiokpicaaMJ
import Derived.Stop.RegionWithIn
import Derived.Sort.CutIn
import Derived.Deep.AppendLies
import Derived.Deep.RegionLaw
import Derived.Deep.RegionHeld3
import Derived.Deep.DeepCutAuto
import Derived.Deep.DrawnRows
import Derived.Deep.CutRange
namespace Go.Proofs.Ytcgjhloiokpicaa
open Go.RowKit Go.Shelf
set_option linter.unusedVariables false
set_option linter.unusedSimpArgs false
attribute [local go_sem] Oper.semAt_some
theorem _root_.Go.Boxed.ext {W W' : World} {B : Nat} {t : TypeId} {v : Value} (h : Boxed W B t v) (hx : Ext W W') : Boxed W' B t v := (hx.block h.lt).trans h
theorem results_cells2 {P : Program} {fn : Func} {p q : Tmp} {ty tz : TypeId} (h : fn.results = #[.cell p ty, .cell q tz]) (tmps : Array Value) (w : World) (A B : Addr) (hp : tmps.getD p undef = .pointer (some A)) (hq : tmps.getD q undef = .pointer (some B)) {a b : Value}
    (ha : (loadVar ty A).run P w = .ok a w) (hb : (loadVar tz B).run P w = .ok b w) : (results fn tmps).run P w = .ok (.tuple #[a, b]) w := by
  have h1 : (asAddr (.pointer (some A))).run P w = .ok A w := rfl
  have h2 : (asAddr (.pointer (some B))).run P w = .ok B w := rfl
  simp only [results, h]
  simp only [Array.getD_eq_getD_getElem?] at hp hq
  simp [Sem.run_bind, Result.andThen, hp, hq, h1, h2, ha, hb]
theorem load_int {w : World} {A : Addr} {x : Int} (h : w.cell? A = some (.int .i64 x)) : (loadVar 3 A).run Try.prog w = .ok (.int .i64 x) w := by go_simp
theorem load_bool {w : World} {A : Addr} {x : Bool} (h : w.cell? A = some (.bool x)) : (loadVar 4 A).run Try.prog w = .ok (.bool x) w := by go_simp
theorem own_slice {w : World} {b n : Nat} {e : TypeId} {v : Value} {xs : List Value} (h : w.ownsRow b e 4 v n xs) (hn : 0 < n) : ∃ (g c : Nat), v = .slice (some ⟨g, 0, none⟩) n c := by
  rcases h.2 with ⟨_, h0⟩ | ⟨g, cap, cur, rfl, _⟩
  · omega
  · exact ⟨g, cap, rfl⟩
set_option maxRecDepth 100000 in
set_option maxHeartbeats 4000000 in
theorem put_none (lk size : Int) (g : Nat) (v : Value) (l : List En) (s : ByteArray) (w : World) (h : MA lk w g size v l) (hs1 : 16 ≤ size) (hs2 : size ≤ 256) (hz : s.size ≤ 2048) (hin : ∀ k, k < l.length → 0 ≤ (eth l k).block ∧ (eth l k).block ≤ 4096 ∧ 0 ≤ (eth l k).blocks ∧ (eth l k).blocks ≤ 4096) (hfr : ∀ k, k < l.length → (eth l k).kind = 0 → k + 1 < l.length) (hll : l.length ≤ 5000) (hno : ∀ k, k < l.length → (eth l k).kind ≠ 0) (hei : 1 ≤ endI l ∧ endI l ≤ 4096) :
    Calls Try.prog 56 #[.pointer (some ⟨g, 0, none⟩), .string s] w fun e w' => e = .returned (.tuple #[.int .i64 (putB l (needS size s.size)), .bool (putO l (needS size s.size))]) ∧ ∃ v', MA lk w' g size v' (putL l (needS size s.size) s) ∧ MT g v v' w w' := by
  have c2 := h.c2
  have lg := h.lt
  replace hin := hid hin
  replace hfr := hid hfr
  replace hll := hid hll
  replace hno := hid hno
  have hN := hid (fun w => needs_any size s.size w hs1 hs2 (by omega) (by omega))
  have hnr := need_rng ⟨hs1, hs2⟩ (n := s.size) (by omega) (by omega)
  generalize needS size s.size = n at *
  refine (callsIn_wide (n := 5)).1 ?_
  refine callsIn_of_wp_marks Try.func56 rfl trivial ?_ rfl
  simp only [Try.ntmps56, List.size_toArray, List.length_cons, List.length_nil, Nat.reduceAdd, Nat.reduceSub, Array.replicate_succ, Array.replicate_zero, List.push_toArray, List.append_toArray, List.nil_append, List.cons_append]
  refine wpIn_wide.2 ?_
  go_upto_region 1 with fail
  have hg1 := h.ext ((((Ext.refl w).alloc_right (.cells #[.pointer (some ⟨g, 0, none⟩)] 28)).alloc_right (.cells #[.string s] 9)).alloc_right (.cells #[.int .i64 0] 3) |>.alloc_right (.cells #[.bool false] 4))
  have hx1 : Hid (Ext w ((((w.alloc (.cells #[.pointer (some ⟨g, 0, none⟩)] 28)).alloc (.cells #[.string s] 9)).alloc (.cells #[.int .i64 0] 3)).alloc (.cells #[.bool false] 4))) := ((((Ext.refl w).alloc_right _).alloc_right _).alloc_right _).alloc_right _
  have d2 : ((((w.alloc (.cells #[.pointer (some ⟨g, 0, none⟩)] 28)).alloc (.cells #[.string s] 9)).alloc (.cells #[.int .i64 0] 3)).alloc (.cells #[.bool false] 4)).cell? ⟨w.heap.size, 0, none⟩ = some (.pointer (some ⟨g, 0, none⟩)) := by go_simp
  have d3 : ((((w.alloc (.cells #[.pointer (some ⟨g, 0, none⟩)] 28)).alloc (.cells #[.string s] 9)).alloc (.cells #[.int .i64 0] 3)).alloc (.cells #[.bool false] 4)).cell? ⟨w.heap.size + 1, 0, none⟩ = some (.string s) := by go_simp
  have B4 : Hid (Boxed ((((w.alloc (.cells #[.pointer (some ⟨g, 0, none⟩)] 28)).alloc (.cells #[.string s] 9)).alloc (.cells #[.int .i64 0] 3)).alloc (.cells #[.bool false] 4)) (w.heap.size + 1 + 1) 3 (.int .i64 0)) := by
    have e := (Boxed.new ((w.alloc (.cells #[.pointer (some ⟨g, 0, none⟩)] 28)).alloc (.cells #[.string s] 9)) 3 (.int .i64 0)).alloc (.cells #[.bool false] 4)
    unfold Hid; simpa using e
  have B5 : Hid (Boxed ((((w.alloc (.cells #[.pointer (some ⟨g, 0, none⟩)] 28)).alloc (.cells #[.string s] 9)).alloc (.cells #[.int .i64 0] 3)).alloc (.cells #[.bool false] 4)) (w.heap.size + 1 + 1 + 1) 4 (.bool false)) := by
    have e := Boxed.new (((w.alloc (.cells #[.pointer (some ⟨g, 0, none⟩)] 28)).alloc (.cells #[.string s] 9)).alloc (.cells #[.int .i64 0] 3)) 4 (.bool false)
    unfold Hid; simpa using e
  have hz1 : Hid (((((w.alloc (.cells #[.pointer (some ⟨g, 0, none⟩)] 28)).alloc (.cells #[.string s] 9)).alloc (.cells #[.int .i64 0] 3)).alloc (.cells #[.bool false] 4)).heap.size = w.heap.size + 4) := by simp [Hid]
  clear c2
  generalize ((((w.alloc (.cells #[.pointer (some ⟨g, 0, none⟩)] 28)).alloc (.cells #[.string s] 9)).alloc (.cells #[.int .i64 0] 3)).alloc (.cells #[.bool false] 4)) = w1 at *
  have c2 := hg1.c2
  have lg1 := hg1.lt
  have l2 := World.block_lt_of_cell? w1 _ d2
  have l3 := World.block_lt_of_cell? w1 _ d3
  dsimp only at l2 l3
  go_cut [6] from 6 to 87 (fun a wx => ∃ p : Nat, a = .pointer (some ⟨p, 0, none⟩) ∧ wx.cell? ⟨p, 0, none⟩ = some (.int .i64 n) ∧ Hid (w1.heap.size ≤ p) ∧ Hid (Ext w1 wx))
  case first =>
    have HS : Hid (∀ w', Ext w1 w' → (w'.cell? ⟨w.heap.size, 0, none⟩ = some (.pointer (some ⟨g, 0, none⟩)) ∧ w'.cell? ⟨w.heap.size + 1, 0, none⟩ = some (.string s) ∧ w'.cell? ⟨g, 2, none⟩ = some (.int .i64 size) ∧ Ext w1 w')) := fun w' hx => ⟨hx.cell d2, hx.cell d3, hx.cell c2, hx⟩
    have I := hid (HS.out w1.drew (Ext.refl w1).drew_right)
    clear d2 d3 c2
    have z2 := hid (Nat.le_refl w1.heap.size)
    go_region_held3 (fun w' => w'.cell? ⟨w.heap.size, 0, none⟩ = some (.pointer (some ⟨g, 0, none⟩)) ∧ w'.cell? ⟨w.heap.size + 1, 0, none⟩ = some (.string s) ∧ w'.cell? ⟨g, 2, none⟩ = some (.int .i64 size) ∧ Ext w1 w')
      ((first | exact I.out | (exact HS.out _ (((Ext.refl w1).alloc_right _).drew_right)) | (exact HS.out _ ((((Ext.refl w1).drew_right).alloc_right _))) | (go_split_ands; exact HS.out _ (Ext.alloc_right (by assumption) _)) | (go_split_ands; exact HS.out _ (by assumption)) | (go_split_ands; exact HS.out _ (Ext.set (by assumption) (by exact Nat.le_refl _) _))))
      ((go_at_call 33; go_split_ands; refine (hN.out _).mono ?_; rintro e w3 ⟨rfl, rfl⟩))
    all_goals
      go_wp2_with fail
      go_meet
      exact ⟨w1.heap.size, rfl, by go_simp, Nat.le_refl _, ((Ext.refl w1).alloc_right _).drew_right⟩
  case rest =>
    obtain ⟨p, rfl, d6, hp, hxc⟩ := hcut
    have hgc := hg1.ext hxc.out
    have d2c := hxc.out.cell d2
    have d3c := hxc.out.cell d3
    have B4c : Hid (Boxed wc (w.heap.size + 1 + 1) 3 (.int .i64 0)) := (hxc.out.block B4.out.lt).trans B4.out
    have B5c : Hid (Boxed wc (w.heap.size + 1 + 1 + 1) 4 (.bool false)) := (hxc.out.block B5.out.lt).trans B5.out
    have hxw : Hid (Ext w wc) := hx1.out.trans hxc.out
    have hpz : Hid (w.heap.size + 4 ≤ p) := by unfold Hid; rw [← hz1.out]; exact hp.out
    have hwz : Hid (w.heap.size + 4 ≤ wc.heap.size) := by unfold Hid; rw [← hz1.out]; exact hxc.out.size
    clear d2 d3 c2 B4 B5 hg1 hx1 hz1 hp hxc l2 l3 lg1
    go_wp2_with (go_at_call 66; refine (freesF_any _ _).mono ?_; rintro e w' ⟨rfl, rfl⟩)
    have hx0 : Hid (Ext wc (wc.alloc (.cells #[.pointer (some ⟨g, 0, none⟩)] 28))) := (Ext.refl wc).alloc_right _
    have hB0 : (wc.alloc (.cells #[.pointer (some ⟨g, 0, none⟩)] 28)).cell? ⟨wc.heap.size, 0, none⟩ = some (.pointer (some ⟨g, 0, none⟩)) := by go_simp
    have hlc : Hid (p < wc.heap.size) := World.block_lt_of_cell? wc _ d6
    generalize hw0 : wc.alloc (.cells #[.pointer (some ⟨g, 0, none⟩)] 28) = w0 at *
    clear hw0
    have hg0 := hgc.ext hx0.out
    have e2 := hx0.out.cell d2c
    have e3 := hx0.out.cell d3c
    have e6 := hx0.out.cell d6
    have B4 : Hid (Boxed w0 (w.heap.size + 1 + 1) 3 (.int .i64 0)) := (hx0.out.block B4c.out.lt).trans B4c.out
    have B5 : Hid (Boxed w0 (w.heap.size + 1 + 1 + 1) 4 (.bool false)) := (hx0.out.block B5c.out.lt).trans B5c.out
    have hxw0 : Hid (Ext w w0) := hxw.out.trans hx0.out
    have hw0z : Hid (w.heap.size + 4 ≤ w0.heap.size) := Nat.le_trans hwz.out hx0.out.size
    have hpl : Hid (p < w0.heap.size) := Nat.lt_of_lt_of_le hlc.out hx0.out.size
    clear hgc d2c d3c d6 B4c B5c hxw hwz hlc hx0
    refine (wpIn_wide (n := 5)).1 ?_
    refine wpIn_rangeFunc_ownF rfl (by decide) (gf := 80) (lb := #[.pointer (some ⟨wc.heap.size, 0, none⟩)]) rfl trivial (enters_of Try.func80 (by kernel_rfl) rfl)
      (frees_stops Fence.wide (5 - 1) trivial rfl (by decide) wc.heap.size lk size g v l w0 hB0 hg0) belowK_t (belowK_b (Nat.le_refl _)) (Below.refl _ _) (fun _ => rfl)
      (fun pre W => Hid (Ext w0 W) ∧ Hid (∀ k ∈ pre, (eth l k.1).blocks < n))
      (fun c pre W => c = .ret ∧ ∃ (i : Pl l) (init : List (Pl l)) (v' : Value), pre = init ++ [i] ∧ (∀ k ∈ init, (eth l k.1).blocks < n) ∧ n ≤ (eth l i.1).blocks ∧ MA lk W g size v' (putAt l i.1 n s) ∧ MT g v v' w W ∧ W.cell? ⟨w.heap.size + 1 + 1, 0, none⟩ = some (.int .i64 (eth l i.1).block) ∧ W.cell? ⟨w.heap.size + 1 + 1 + 1, 0, none⟩ = some (.bool true))
      ?hI ?hIx ⟨Ext.refl _, fun k hk => by cases hk⟩ (fun x => { tmps := #[Value.pointer (some ⟨g, 0, none⟩), Value.string s, Value.pointer (some ⟨w.heap.size, 0, none⟩), Value.pointer (some ⟨w.heap.size + 1, 0, none⟩), Value.pointer (some ⟨w.heap.size + 1 + 1, 0, none⟩), Value.pointer (some ⟨w.heap.size + 1 + 1 + 1, 0, none⟩), Value.pointer (some ⟨p, 0, none⟩), Value.int .i64 x.1, u8, u9, u10, u11, u12, u13, u14, u15, u16, u17, Value.pointer (some ⟨g, 0, none⟩), Value.func (.func 80) #[] #[.pointer (some ⟨wc.heap.size, 0, none⟩)], Value.int .i64 x.1, u21, u22, u23, u24, u25, u26, u27, u28, u29, u30, u31, u32, u33, u34, u35, u36, u37, u38, u39, u40, u41, u42, u43, u44, u45, u46, u47, u48, u49, u50, u51, u52, u53, u54, u55, u56, u57, u58, u59, u60, u61, u62, u63, u64, u65, u66, u67, u68, u69, u70, u71, u72, u73, u74, u75, u76, u77, u78, u79, u80, u81, u82, u83, u84, u85, u86, u87], defers := [] }) ?assign ?body ?done ?stop
    case hI =>
      intro pre W W' row hs hg hr
      exact ⟨hs.1.out.keep hg (fun r e => (hr r e).1), hs.2⟩
    case hIx =>
      rintro c pre W W' row ⟨rfl, i, init, v', h1, h2, h3, h4, h5, h6, h7⟩ hg hr
      exact ⟨rfl, i, init, v', h1, h2, h3, h4.keep hg (fun r e => (hr r e).2), h5.keep hg (fun r e => by have := (hr r e).1; have := hw0z.out; omega), cell_row hg (fun r e => (hr r e).2) h6, cell_row hg (fun r e => (hr r e).2) h7⟩
    case assign =>
      intro lp x W K hK
      gi_wp2
      exact hK
    case body =>
      rintro lp pre x W ⟨hxW, hpre⟩ hlen
      exact absurd x.2.2 (hno.out x.1 x.2.1)
    case done =>
      rintro D xs W hD hS ⟨hxW, hpre⟩ hK
      have hgW := hg0.ext hxW.out
      have e2W := hxW.out.cell e2
      have e6W := hxW.out.cell e6
      have hnf := hid (putN_none (l := l) (n := n) (fun j hj => by unfold fitE; rw [show ((eth l j).kind == 0) = false by rw [beq_eq_false_iff_ne]; exact hno.out j hj]; rfl))
      have hE := hid (fun w (h : MA lk w g size v l) => end_any lk size g v l w h)
      clear hpre hS
      generalize hee : endI l = E at *
      replace hee := hid hee
      have hKc : Hid (D < W.heap.size) := (Array.getElem?_eq_some_iff.1 hK).1
      have hvb : ∀ k, w.heap.size ≤ k → v.ownBlock ≠ some k := fun k hk e => by
        have := (h.own.lt k e).2
        omega
      have hvb1 := hid (hvb (w.heap.size + 1 + 1) (by omega))
      have hvb2 := hid (hvb (w.heap.size + 1 + 1 + 1) (by omega))
      replace hvb := hid hvb
      replace hK := hid hK
      have hwr : IntKind.i64.wrap (E + n) = E + n := IntWalk.i64_in _ (by omega)
      by_cases hfull : E + n ≤ 4096
      · go_upto_region 12 with (go_at_call 42; refine (hE.out _ hgW).mono ?_; rintro e W2 ⟨rfl, hx2⟩; have e6X := hx2.cell e6W)
        have hg2 := hgW.ext hx2
        have e2X := hx2.cell e2W
        have e3X := hx2.cell (hxW.out.cell e3)
        have hB4 := hid (B4.out.ext (hxW.out.trans hx2))
        have hB5 := hid (B5.out.ext (hxW.out.trans hx2))
        go_upto_region 14 with fail
        obtain ⟨i0, hi0, hz0, hz1, hz2⟩ := info_parts infoEn
        have c3 := hg2.c3
        have hown := hid (fun (cs : Array Value) => ((Ext.refl W2).drew_right.alloc_right (.cells cs 78)).own hg2.own)
        have hll2 := hll.out
        have hnews : Hid (∀ j u, (En.mk E n 1 s).cells[j]? = some u → (W2.drew.alloc (.cells #[.int .i64 E, .int .i64 n, .int .i64 1, .string s] 78)).cell? ((⟨W2.heap.size, 0, none⟩ : Addr).add j) = some u) := World.news_of_block (heap_alloc_new W2.drew _)
        have k2 := World.block_lt_of_cell? W2 _ e2X
        have k3 := World.block_lt_of_cell? W2 _ e3X
        have k6 := World.block_lt_of_cell? W2 _ e6X
        have kg := World.block_lt_of_cell? W2 _ c3
        dsimp only at k2 k3 k6 kg
        have hpost : Hid (∀ (ga ca : Nat) (w3 : World), w3.ownsRow 0 78 4 (.slice (some ⟨ga, 0, none⟩) (l.length + 1) ca) (l.length + 1) (ents l ++ (En.mk E n 1 s).cells) → (W2.drew.alloc (.cells #[.int .i64 E, .int .i64 n, .int .i64 1, .string s] 78)).grownBy w3 v.ownBlock → (v.ownBlock = some ga ∨ ga = W2.heap.size + 1) → (w3.cell? ⟨w.heap.size, 0, none⟩ = some (.pointer (some ⟨g, 0, none⟩)) ∧ w3.cell? ⟨w.heap.size + 1, 0, none⟩ = some (.string s) ∧ w3.cell? ⟨p, 0, none⟩ = some (.int .i64 n) ∧ w3.cell? ⟨g, 3, none⟩ = some v) ∧ w3.frozen? ⟨g, 3, none⟩ = false ∧ Hid (MA lk (w3.setCell ⟨g, 3, none⟩ (.slice (some ⟨ga, 0, none⟩) (l.length + 1) ca)) g size (.slice (some ⟨ga, 0, none⟩) (l.length + 1) ca) (l ++ [⟨E, n, 1, s⟩]) ∧ Rw v (.slice (some ⟨ga, 0, none⟩) (l.length + 1) ca) W2 w3)) := by
          intro ga ca w3 ho hgr hga
          have hxe : Ext W2 (W2.drew.alloc (.cells #[.int .i64 E, .int .i64 n, .int .i64 1, .string s] 78)) := (Ext.refl W2).drew_right.alloc_right _
          have hrw : Rw v (.slice (some ⟨ga, 0, none⟩) (l.length + 1) ca) W2 w3 := ⟨(Ext.grown hxe _).trans hgr, by
            rcases hga with e | e
            · exact .inl (by rw [e]; rfl)
            · refine .inr (fun k hk => ?_)
              have hk2 : ga = k := by simpa [Value.ownBlock] using hk
              omega⟩
          have hl1 : (l ++ [En.mk E n 1 s]).length = l.length + 1 := by simp
          obtain ⟨m1, m2, m3, m4⟩ := MA.put (l' := l ++ [⟨E, n, 1, s⟩]) hg2 hrw (by rw [hl1, ents_append]; simpa [ents] using ho)
          exact ⟨⟨hrw.1.cell e2X (fun e => hvb.out _ (Nat.le_refl _) e.symm), hrw.1.cell e3X (fun e => hvb.out _ (Nat.le_succ _) e.symm), hrw.1.cell e6X (fun e => hvb.out p (by have := hpz.out; omega) e.symm), m3⟩, m4, m1, hrw⟩
        have I0 : (fun w' : World => w'.cell? ⟨w.heap.size, 0, none⟩ = some (.pointer (some ⟨g, 0, none⟩)) ∧ w'.cell? ⟨w.heap.size + 1, 0, none⟩ = some (.string s) ∧ w'.cell? ⟨p, 0, none⟩ = some (.int .i64 n) ∧ w'.cell? ⟨g, 3, none⟩ = some v) W2.drew := ⟨e2X, e3X, e6X, c3⟩
        have I1 : (fun w' : World => w'.cell? ⟨w.heap.size, 0, none⟩ = some (.pointer (some ⟨g, 0, none⟩)) ∧ w'.cell? ⟨w.heap.size + 1, 0, none⟩ = some (.string s) ∧ w'.cell? ⟨p, 0, none⟩ = some (.int .i64 n) ∧ w'.cell? ⟨g, 3, none⟩ = some v) (W2.drew.alloc (.cells #[.int .i64 E, .int .i64 n, .int .i64 1, .string s] 78)) := by
          have hxe : Ext W2 (W2.drew.alloc (.cells #[.int .i64 E, .int .i64 n, .int .i64 1, .string s] 78)) := (Ext.refl W2).drew_right.alloc_right _
          exact ⟨hxe.cell e2X, hxe.cell e3X, hxe.cell e6X, hxe.cell c3⟩
        refine region_J (fun w' => w'.cell? ⟨w.heap.size, 0, none⟩ = some (.pointer (some ⟨g, 0, none⟩)) ∧ w'.cell? ⟨w.heap.size + 1, 0, none⟩ = some (.string s) ∧ w'.cell? ⟨p, 0, none⟩ = some (.int .i64 n) ∧ w'.cell? ⟨g, 3, none⟩ = some v) 13 (by kernel_rfl) ?_
        refine J_take 0 (v := ?va0) rfl (by kernel_rfl) (by kernel_rfl) (by kernel_rfl) (by kernel_rfl) (fun _ _ _ h => h) (Or.inl ⟨by rfl, ?ya0⟩) I0 ?ra0
        case ya0 => (intro w hSw; obtain ⟨_, _, _, _⟩ := hSw; (go_simp; with_reducible rfl))
        simp only [Act.put, List.setIfInBounds_toArray, List.set_cons_zero, List.set_cons_succ]
        refine J_take 1 (v := ?va1) rfl (by kernel_rfl) (by kernel_rfl) (by kernel_rfl) (by kernel_rfl) (fun _ _ _ h => h) (Or.inl ⟨by rfl, ?ya1⟩) I0 ?ra1
        case ya1 => (intro w hSw; obtain ⟨_, _, _, _⟩ := hSw; (go_simp; with_reducible rfl))
        simp only [Act.put, List.setIfInBounds_toArray, List.set_cons_zero, List.set_cons_succ]
        refine J_take 2 (v := ?va2) rfl (by kernel_rfl) (by kernel_rfl) (by kernel_rfl) (by kernel_rfl) (fun _ _ _ h => h) (Or.inl ⟨by rfl, ?ya2⟩) I0 ?ra2
        case ya2 => (intro w hSw; obtain ⟨_, _, _, _⟩ := hSw; (go_simp; with_reducible rfl))
        simp only [Act.put, List.setIfInBounds_toArray, List.set_cons_zero, List.set_cons_succ]
        refine J_take 3 (v := ?va3) rfl (by kernel_rfl) (by kernel_rfl) (by kernel_rfl) (by kernel_rfl) (fun _ _ _ h => h) (Or.inl ⟨by rfl, ?ya3⟩) I0 ?ra3
        case ya3 => (intro w hSw; obtain ⟨_, _, _, _⟩ := hSw; (go_simp; with_reducible rfl))
        simp only [Act.put, List.setIfInBounds_toArray, List.set_cons_zero, List.set_cons_succ]
        refine J_take 4 (v := ?va4) rfl (by kernel_rfl) (by kernel_rfl) (by kernel_rfl) (by kernel_rfl) (fun _ _ _ h => h) (Or.inl ⟨by rfl, ?ya4⟩) I0 ?ra4
        case ya4 => (intro w hSw; obtain ⟨_, _, _, _⟩ := hSw; (go_simp; with_reducible rfl))
        simp only [Act.put, List.setIfInBounds_toArray, List.set_cons_zero, List.set_cons_succ]
        refine J_take 5 (v := ?va5) rfl (by kernel_rfl) (by kernel_rfl) (by kernel_rfl) (by kernel_rfl) (fun _ _ _ h => h) (Or.inl ⟨by rfl, ?ya5⟩) I0 ?ra5
        case ya5 => (intro w hSw; obtain ⟨_, _, _, _⟩ := hSw; (go_simp; with_reducible rfl))
        simp only [Act.put, List.setIfInBounds_toArray, List.set_cons_zero, List.set_cons_succ]
        refine J_take 6 (v := ?va6) rfl (by kernel_rfl) (by kernel_rfl) (by kernel_rfl) (by kernel_rfl) (fun _ _ _ h => h) (Or.inl ⟨by rfl, ?ya6⟩) I0 ?ra6
        case ya6 => (intro w hSw; obtain ⟨_, _, _, _⟩ := hSw; (go_simp; with_reducible rfl))
        simp only [Act.put, List.setIfInBounds_toArray, List.set_cons_zero, List.set_cons_succ]
        refine J_take 7 (v := ?va7) rfl (by kernel_rfl) (by kernel_rfl) (by kernel_rfl) (by kernel_rfl) (fun _ _ _ h => h) (Or.inl ⟨by rfl, ?ya7⟩) I0 ?ra7
        case ya7 => (intro w hSw; obtain ⟨_, _, _, _⟩ := hSw; (go_simp; with_reducible rfl))
        simp only [Act.put, List.setIfInBounds_toArray, List.set_cons_zero, List.set_cons_succ]
        refine J_take 8 (v := ?va8) rfl (by kernel_rfl) (by kernel_rfl) (by kernel_rfl) (by kernel_rfl) (fun _ _ _ h => h) (Or.inl ⟨by rfl, ?ya8⟩) I0 ?ra8
        case ya8 => (intro w hSw; obtain ⟨_, _, _, _⟩ := hSw; (go_simp; with_reducible rfl))
        simp only [Act.put, List.setIfInBounds_toArray, List.set_cons_zero, List.set_cons_succ]
        refine J_one 9 rfl (by kernel_rfl) (fun K hK => ?_)
        go_simp
        refine hK _ _ ⟨fun _ => I1, ?_⟩
        clear hK K
        try simp only [Act.put, List.setIfInBounds_toArray, List.set_cons_zero, List.set_cons_succ]
        refine J_one 10 rfl (by kernel_rfl) (fun K hK => ?_)
        refine step_append_lies _ rfl _ _ 74 rfl 0 78 i0 _ 4 40 Try.underlying74 hi0 hz0 hz1 hz2 rfl (by decide) v l.length (ents l) (by simp [Act.eval, Act.put]) (hown.out _) ⟨W2.heap.size, 0, none⟩ 1 1 (En.mk E n 1 s).cells (by simp [Act.eval, Act.put]) rfl hnews.out (by simp [En.cells, Value.oneCell']) (by decide) (by unfold maxLen; omega) (by omega) (Nat.zero_le _) (W2.heap.size + 1) (by simp) ?_
        intro ga ca w3 ho3 hgr3 hga3 _
        obtain ⟨I3, m4, hM⟩ := hpost.out ga ca w3 ho3 hgr3 hga3
        clear ho3 hgr3 hpost I0 I1 hnews
        have m3 := I3.2.2.2
        refine hK _ _ ⟨fun _ => I3, ?_⟩
        clear hK K
        simp only [Act.put, List.setIfInBounds_toArray, List.set_cons_zero, List.set_cons_succ]
        refine J_one 11 rfl (by kernel_rfl) (fun K hK => ?_)
        go_simp
        refine hK _ _ ⟨fun _ => I3, ?_⟩
        clear hK K
        try simp only [Act.put, List.setIfInBounds_toArray, List.set_cons_zero, List.set_cons_succ]
        refine J_one 12 rfl (by kernel_rfl) (fun K hK => ?_)
        go_simp
        refine hK _ _ ⟨fun _ => I3, ?_⟩
        clear hK K
        try simp only [Act.put, List.setIfInBounds_toArray, List.set_cons_zero, List.set_cons_succ]
        refine J_one 13 rfl (by kernel_rfl) (fun K hK => ?_)
        go_simp
        refine hK _ _ ⟨fun h => absurd rfl h, ?_⟩
        clear hK K
        refine J_done (by kernel_rfl) (OnlyOn.normal ?_)
        have hvG : Hid ((Value.slice (some ⟨ga, 0, none⟩) (l.length + 1) ca).ownBlock ≠ some g) := by obtain ⟨q, _, _, h3⟩ := hM.out.1; exact h3
        have hMT3 : Hid (MT g v (.slice (some ⟨ga, 0, none⟩) (l.length + 1) ca) w (w3.setCell ⟨g, 3, none⟩ (.slice (some ⟨ga, 0, none⟩) (l.length + 1) ca))) :=
          ((((MT.refl g v w).right (hxw0.out.trans (hxW.out.trans hx2))).rw hM.out.2).set 3 _)
        have hbz := hw0z.out
        have hz02 : Hid (w0.heap.size ≤ W2.heap.size) := (hxW.out.trans hx2).size
        have far : Hid (∀ k, w.heap.size ≤ k → k < W2.heap.size → (w3.setCell ⟨g, 3, none⟩ (.slice (some ⟨ga, 0, none⟩) (l.length + 1) ca)).heap[k]? = W2.heap[k]?) := fun k hk hk2 =>
          (heap_setCell_other _ _ k _ (by dsimp only; omega)).trans (hM.out.2.1.block k hk2 (fun e => hvb.out k hk e.symm))
        have b4 : Boxed (w3.setCell ⟨g, 3, none⟩ (.slice (some ⟨ga, 0, none⟩) (l.length + 1) ca)) (w.heap.size + 1 + 1) 3 (.int .i64 0) := (far.out _ (by omega) hB4.out.lt).trans hB4.out
        have b5 : Boxed (w3.setCell ⟨g, 3, none⟩ (.slice (some ⟨ga, 0, none⟩) (l.length + 1) ca)) (w.heap.size + 1 + 1 + 1) 4 (.bool false) := (far.out _ (by omega) hB5.out.lt).trans hB5.out
        have hD3 : Hid ((w3.setCell ⟨g, 3, none⟩ (.slice (some ⟨ga, 0, none⟩) (l.length + 1) ca)).heap[D]? = some (.deferred (some []))) :=
          (far.out D (by omega) (by have := hKc.out; have := hx2.size; omega)).trans ((hx2.block hKc.out).trans hK.out)
        have hM3 := hid hM.out.1
        have hvb3 : Hid (∀ k, w.heap.size ≤ k → k < w0.heap.size → (Value.slice (some ⟨ga, 0, none⟩) (l.length + 1) ca).ownBlock ≠ some k) := by
          intro k hk hk2 e
          rcases hM.out.2.2 with e2 | e2
          · exact hvb.out k hk (e2 ▸ e)
          · have := e2 k e
            have := hz02.out
            omega
        generalize (Value.slice (some ⟨ga, 0, none⟩) (l.length + 1) ca) = v' at *
        generalize w3.setCell ⟨g, 3, none⟩ v' = W3 at *
        clear far hM I3 m3 m4 hown hB4 hB5
        have B4X := b4.cell
        have B4F := b4.frozen
        have B5X := b5.cell
        have B5F := b5.frozen
        replace b4 := hid b4
        replace b5 := hid b5
        go_wp2_with fail
        have hD1 : D ≠ w.heap.size + 1 + 1 := by omega
        have hD2 : D ≠ w.heap.size + 1 + 1 + 1 := by omega
        have hK2 : ((W3.setCell ⟨w.heap.size + 1 + 1, 0, none⟩ (.int .i64 E)).setCell ⟨w.heap.size + 1 + 1 + 1, 0, none⟩ (.bool true)).heap[D]? = some (.deferred (some [])) :=
          (heap_setCell_other _ _ D _ hD2).trans ((heap_setCell_other _ _ D _ hD1).trans hD3.out)
        have hMA : MA lk ((W3.setCell ⟨w.heap.size + 1 + 1, 0, none⟩ (.int .i64 E)).setCell ⟨w.heap.size + 1 + 1 + 1, 0, none⟩ (.bool true)) g size v' (l ++ [⟨E, n, 1, s⟩]) :=
          (hM3.out.other (by omega) (hvb3.out _ (by omega) (by omega)) 0 _).other (by omega) (hvb3.out _ (by omega) (by omega)) 0 _
        have hMT : MT g v v' w ((W3.setCell ⟨w.heap.size + 1 + 1, 0, none⟩ (.int .i64 E)).setCell ⟨w.heap.size + 1 + 1 + 1, 0, none⟩ (.bool true)) :=
          (hMT3.out.out (by omega) 0 _).out (by omega) 0 _
        refine ⟨by simp, .inl ⟨_, _, rfl, run_takeDeferred hK2, ?_⟩⟩
        have hg5 := grownBy_putObj' ((W3.setCell ⟨w.heap.size + 1 + 1, 0, none⟩ (.int .i64 E)).setCell ⟨w.heap.size + 1 + 1 + 1, 0, none⟩ (.bool true)) D (.deferred none)
        have hr5 : NoCells ((W3.setCell ⟨w.heap.size + 1 + 1, 0, none⟩ (.int .i64 E)).setCell ⟨w.heap.size + 1 + 1 + 1, 0, none⟩ (.bool true)) (some D) := fun r e => by cases e; exact ⟨_, hK2, rfl⟩
        have v4 : ((W3.setCell ⟨w.heap.size + 1 + 1, 0, none⟩ (.int .i64 E)).setCell ⟨w.heap.size + 1 + 1 + 1, 0, none⟩ (.bool true)).cell? ⟨w.heap.size + 1 + 1, 0, none⟩ = some (.int .i64 E) := by go_simp
        have v5 : ((W3.setCell ⟨w.heap.size + 1 + 1, 0, none⟩ (.int .i64 E)).setCell ⟨w.heap.size + 1 + 1 + 1, 0, none⟩ (.bool true)).cell? ⟨w.heap.size + 1 + 1 + 1, 0, none⟩ = some (.bool true) := by go_simp
        refine ⟨_, results_cells2 rfl _ _ ⟨w.heap.size + 1 + 1, 0, none⟩ ⟨w.heap.size + 1 + 1 + 1, 0, none⟩ rfl rfl (load_int (cell_row hg5 hr5 v4)) (load_bool (cell_row hg5 hr5 v5)), ?_, v', ?_, ?_⟩
        · unfold putB putO
          rw [if_neg hnf.out, if_neg hnf.out, hee.out, if_pos hfull, decide_eq_true hfull]
        · unfold putL
          rw [if_neg hnf.out, hee.out, if_pos hfull]
          exact hMA.keep hg5 hr5
        · exact hMT.keep hg5 (fun r e => by cases e; omega)
      · go_wp2_with (go_at_call 42; refine (hE.out _ hgW).mono ?_; rintro e W2 ⟨rfl, hx2⟩; have e6X := hx2.cell e6W; have hB4 := B4.out.ext (hxW.out.trans hx2); have hB5 := B5.out.ext (hxW.out.trans hx2); have B4X := hB4.cell; have B4F := hB4.frozen; have B5X := hB5.cell; have B5F := hB5.frozen; replace hB4 := hid hB4; replace hB5 := hid hB5)
        have hbz := hw0z.out
        have hD1 : D ≠ w.heap.size + 1 + 1 := by omega
        have hD2 : D ≠ w.heap.size + 1 + 1 + 1 := by omega
        have hK2 : ((W2.setCell ⟨w.heap.size + 1 + 1, 0, none⟩ (.int .i64 0)).setCell ⟨w.heap.size + 1 + 1 + 1, 0, none⟩ (.bool false)).heap[D]? = some (.deferred (some [])) :=
          (heap_setCell_other _ _ D _ hD2).trans ((heap_setCell_other _ _ D _ hD1).trans ((hx2.block hKc.out).trans hK.out))
        have hMA : MA lk ((W2.setCell ⟨w.heap.size + 1 + 1, 0, none⟩ (.int .i64 0)).setCell ⟨w.heap.size + 1 + 1 + 1, 0, none⟩ (.bool false)) g size v l :=
          ((hgW.ext hx2).other (by omega) hvb1.out 0 _).other (by omega) hvb2.out 0 _
        have hMT : MT g v v w ((W2.setCell ⟨w.heap.size + 1 + 1, 0, none⟩ (.int .i64 0)).setCell ⟨w.heap.size + 1 + 1 + 1, 0, none⟩ (.bool false)) :=
          (((MT.refl g v w).right (hxw0.out.trans (hxW.out.trans hx2))).out (by omega) 0 _).out (by omega) 0 _
        refine ⟨by simp, .inl ⟨_, _, rfl, run_takeDeferred hK2, ?_⟩⟩
        have hg5 := grownBy_putObj' ((W2.setCell ⟨w.heap.size + 1 + 1, 0, none⟩ (.int .i64 0)).setCell ⟨w.heap.size + 1 + 1 + 1, 0, none⟩ (.bool false)) D (.deferred none)
        have hr5 : NoCells ((W2.setCell ⟨w.heap.size + 1 + 1, 0, none⟩ (.int .i64 0)).setCell ⟨w.heap.size + 1 + 1 + 1, 0, none⟩ (.bool false)) (some D) := fun r e => by cases e; exact ⟨_, hK2, rfl⟩
        have v4 : ((W2.setCell ⟨w.heap.size + 1 + 1, 0, none⟩ (.int .i64 0)).setCell ⟨w.heap.size + 1 + 1 + 1, 0, none⟩ (.bool false)).cell? ⟨w.heap.size + 1 + 1, 0, none⟩ = some (.int .i64 0) := by go_simp
        have v5 : ((W2.setCell ⟨w.heap.size + 1 + 1, 0, none⟩ (.int .i64 0)).setCell ⟨w.heap.size + 1 + 1 + 1, 0, none⟩ (.bool false)).cell? ⟨w.heap.size + 1 + 1 + 1, 0, none⟩ = some (.bool false) := by go_simp
        refine ⟨_, results_cells2 rfl _ _ ⟨w.heap.size + 1 + 1, 0, none⟩ ⟨w.heap.size + 1 + 1 + 1, 0, none⟩ rfl rfl (load_int (cell_row hg5 hr5 v4)) (load_bool (cell_row hg5 hr5 v5)), ?_, v, ?_, ?_⟩
        · have hfl : ¬ E + n ≤ 4096 := by omega
          unfold putB putO
          rw [if_neg hnf.out, if_neg hnf.out, hee.out, if_neg hfl, decide_eq_false hfl]
        · have hfl : ¬ E + n ≤ 4096 := by omega
          unfold putL
          rw [if_neg hnf.out, hee.out, if_neg hfl]
          exact hMA.keep hg5 hr5
        · exact hMT.keep hg5 (fun r e => by cases e; omega)
    case stop =>
      rintro D c pre W hD hS ⟨rfl, i, init, v', h1, h2, h3, h4, h5, h6, h7⟩ hK
      exact absurd i.2.2 (hno.out i.1 i.2.1)
end Go.Proofs.Ytcgjhloiokpicaa
