/-
  An index that is copied; The reference's tree copied, and compared.
-/
import Derived.Test.YtpijfiaecicpfaaGreatQ17
import Derived.Test.YtpijfiaecicpfaaGreatQ16
import Derived.Test.YtpijfiaecicpfaaGreatQ11
set_option maxRecDepth 100000
set_option maxHeartbeats 40000000
set_option linter.unusedVariables false
set_option linter.unusedSimpArgs false
namespace Go.Proofs.YtpijfiaecicpfaaGreat
open Go.RowKit Go.Shelf Go.MuLone
theorem copied_any : ∀ (h p : Nat) (T : BT) (f : Nat → Nat) (w : World), TN w h p T f → Shp h T → T.l.length ≤ 4 → Calls Tryz.prog 44 #[.pointer (some ⟨p, 0, none⟩)] w (GiveC h T w) := by
  intro h
  induction h with
  | zero =>
    intro p T f w hT hs h4
    obtain ⟨l, ks⟩ := T
    obtain ⟨hk, lv, kv, e1, e2, e3, e4⟩ := hT
    have h4' : l.length ≤ 4 := h4
    subst hk
    refine (copied_step 0 [] (fun q K fk w' hK => by cases hK) p l [] lv kv (fun _ => 0) w e1 e2 e3 (fun _ => rfl) (by omega) (by simp)).mono ?_
    rintro e w' ⟨q, lv', kv', qs, g', rfl, hC⟩
    obtain ⟨hx, hq, o1, o2, kk, nd, lo⟩ := hC
    have hqs : qs.length = 0 := kk.len
    obtain rfl : qs = [] := List.eq_nil_of_length_eq_zero hqs
    have hg0 : ∀ a, g' a = 0 := kk
    refine ⟨q, fun a => one1 q a + ob lv' a + ob kv' a, rfl, ⟨rfl, lv', kv', hq, o1, o2, fun _ => rfl⟩, hx, fun a => ?_, fun a ha => ?_⟩
    · have := nd a; show one1 q a + ob lv' a + ob kv' a ≤ 1; omega
    · have := lo a ha; show one1 q a + ob lv' a + ob kv' a = 0; omega
  | succ h ih =>
    intro p T f w hT hs h4
    obtain ⟨l, ks⟩ := T
    obtain ⟨lv, kv, ps, gk, e1, e2, e3, e5, e4⟩ := hT
    have h4' : l.length ≤ 4 := h4
    have hk := hs.1
    have hpk := e5.len
    refine (copied_step h ks (fun q K fk w' hK hT => ih q K fk w' hT (hs.2 K hK).2.2 (hs.2 K hK).2.1) p l ps lv kv gk w e1 e2 e3 e5 (by omega) (by omega)).mono ?_
    rintro e w' ⟨q, lv', kv', qs, g', rfl, hC⟩
    obtain ⟨hx, hq, o1, o2, kk, nd, lo⟩ := hC
    exact ⟨q, fun a => one1 q a + ob lv' a + ob kv' a + g' a, rfl, ⟨lv', kv', qs, g', hq, o1, o2, kk, fun _ => rfl⟩, hx, nd, lo⟩
theorem Copy_any (t : Nat) (L : List Te) (h p : Nat) (T : BT) (fT : Nat → Nat) (w : World) (H : TreeAt 0 w t L h p T fT) : Calls Tryz.prog 13 #[.pointer (some ⟨t, 0, none⟩)] w fun e w' => ∃ u F', e = .returned (.pointer (some ⟨u, 0, none⟩)) ∧ PTo w' u L (h, T) F' ∧ Ext w w' ∧ ∀ a, a < w.heap.size → F' a = 0 := by
  have c0 := H.c0
  have f0 := H.free 0
  have H1 := hid (H.lock 1)
  have hlt := hid H.lt
  have lt1 : t < (w.setCell ⟨t, 0, none⟩ (.int .i32 1)).heap.size := by simpa using H.lt
  have hszl : Hid ((w.setCell ⟨t, 0, none⟩ (.int .i32 1)).heap.size = w.heap.size) := by unfold Hid; simp
  have hb := hid (fun w' (hx : Ext (w.setCell ⟨t, 0, none⟩ (.int .i32 1)) w') => H.back hx)
  have hCo := hid (fun w' (hx : Ext (w.setCell ⟨t, 0, none⟩ (.int .i32 1)) w') => copied_any h p T fT w' (H1.out.tn.ext hx) H1.out.sh H1.out.l4)
  have hT0 := hid (fun (W : World) (q u : Nat) (f' : Nat → Nat) (hu : ∃ s, W.heap[u]? = some (.cells #[.int .i32 0, .int .u32 s, .pointer (some ⟨q, 0, none⟩), .int .i64 L.length] 64 (0, 0))) (hT : TN W h q T f') (hn : ∀ a, one1 u a + f' a ≤ 1) => (⟨hu, hT, hn, H.sh, H.l4, H.l1, H.fl, H.sr, H.ok, H.le⟩ : TreeAt 0 W u L h q T f'))
  have hc : Hid (∀ w', Ext (w.setCell ⟨t, 0, none⟩ (.int .i32 1)) w' → (fun w' : World => w'.cell? ⟨t, 2, none⟩ = some (.pointer (some ⟨p, 0, none⟩)) ∧ w'.cell? ⟨t, 3, none⟩ = some (.int .i64 L.length)) w') := fun w' hx => by
    obtain ⟨s, hq⟩ := H1.out.ht
    exact ⟨hx.cell (by rw [Lib.cell_of_heap hq]; rfl), hx.cell (by rw [Lib.cell_of_heap hq]; rfl)⟩
  have hfr : Hid (∀ w', Ext (w.setCell ⟨t, 0, none⟩ (.int .i32 1)) w' → w'.cell? ⟨t, 0, none⟩ = some (.int .i32 1) ∧ w'.frozen? ⟨t, 0, none⟩ = false) := fun w' hx => ⟨hx.cell H1.out.c0, (hx.frozen (p := ⟨t, 0, none⟩) H1.out.lt).trans (H1.out.free 0)⟩
  clear H
  go_enter_defers Tryz.func13, Tryz.ntmps13
  go_wp2_with fail
  go_at_call 41
  refine (lock_free muLib ⟨t, 0, none⟩ _ c0 f0).mono ?_
  rintro e w' ⟨rfl, rfl⟩
  go_upto_region 5 with fail
  clear c0 f0 H1
  generalize w.setCell ⟨t, 0, none⟩ (.int .i32 1) = wl at *
  have hx1 := hid ((Ext.refl wl).drew_right)
  have I0 : (fun w' : World => w'.cell? ⟨t, 2, none⟩ = some (.pointer (some ⟨p, 0, none⟩)) ∧ w'.cell? ⟨t, 3, none⟩ = some (.int .i64 L.length)) wl.drew := hc.out _ hx1.out
  refine region_J (fun w' : World => w'.cell? ⟨t, 2, none⟩ = some (.pointer (some ⟨p, 0, none⟩)) ∧ w'.cell? ⟨t, 3, none⟩ = some (.int .i64 L.length)) 12 (by kernel_rfl) ?_
  generalize wl.drew = W1 at *
  refine JO 0 (v := ?vc0) I0 ?yc0 ?rc0
  case yc0 => (intro w h; obtain ⟨_, _⟩ := h; go_simp; with_reducible rfl)
  simp only [Act.put, lyA, lyB, lyC, lyD, lyE, lyF]
  refine JO 1 (v := ?vc1) I0 ?yc1 ?rc1
  case yc1 => (intro w h; obtain ⟨_, _⟩ := h; go_simp; with_reducible rfl)
  simp only [Act.put, lyA, lyB, lyC, lyD, lyE, lyF]
  refine JO 2 (v := ?vc2) I0 ?yc2 ?rc2
  case yc2 => (intro w h; obtain ⟨_, _⟩ := h; go_simp; with_reducible rfl)
  simp only [Act.put, lyA, lyB, lyC, lyD, lyE, lyF]
  refine JO 3 (v := ?vc3) I0 ?yc3 ?rc3
  case yc3 => (intro w h; obtain ⟨_, _⟩ := h; go_simp; with_reducible rfl)
  simp only [Act.put, lyA, lyB, lyC, lyD, lyE, lyF]
  refine JO 5 (v := ?vc5) I0 ?yc5 ?rc5
  case yc5 => (intro w h; obtain ⟨_, _⟩ := h; go_simp; with_reducible rfl)
  simp only [Act.put, lyA, lyB, lyC, lyD, lyE, lyF]
  refine JO 6 (v := ?vc6) I0 ?yc6 ?rc6
  case yc6 => (intro w h; obtain ⟨_, _⟩ := h; go_simp; with_reducible rfl)
  simp only [Act.put, lyA, lyB, lyC, lyD, lyE, lyF]
  refine JO 7 (v := ?vc7) I0 ?yc7 ?rc7
  case yc7 => (intro w h; obtain ⟨_, _⟩ := h; go_simp; with_reducible rfl)
  simp only [Act.put, lyA, lyB, lyC, lyD, lyE, lyF]
  refine JO 8 (v := ?vc8) I0 ?yc8 ?rc8
  case yc8 => (intro w h; obtain ⟨_, _⟩ := h; go_simp; with_reducible rfl)
  simp only [Act.put, lyA, lyB, lyC, lyD, lyE, lyF]
  refine J_one 4 rfl (by kernel_rfl) (fun K hK => ?_)
  go_simp
  refine (hCo.out W1 hx1.out).mono ?_
  rintro e W2 ⟨q, f', rfl, hT, hx2, h1, h0⟩
  have hlo : Hid (∀ a, a < w.heap.size → f' a = 0) := fun a ha => h0 a (Nat.lt_of_lt_of_le (by have := hszl.out; omega) hx1.out.size)
  replace hx1 := hid (hx1.out.trans hx2)
  have I2 : (fun w' : World => w'.cell? ⟨t, 2, none⟩ = some (.pointer (some ⟨p, 0, none⟩)) ∧ w'.cell? ⟨t, 3, none⟩ = some (.int .i64 L.length)) W2 := hc.out _ hx1.out
  replace hT := hid hT
  replace h1 := hid h1
  clear hx2 h0 hCo
  refine hK _ _ ⟨fun _ => I2, ?_⟩
  clear hK K
  try simp only [Act.put, lyA, lyB, lyC, lyD, lyE, lyF]
  refine J_one 9 rfl (by kernel_rfl) (fun K hK => ?_)
  go_simp
  refine hK _ _ ⟨fun _ => I2, ?_⟩
  clear hK K
  try simp only [Act.put, lyD, lyE, lyF]
  refine J_one 10 rfl (by kernel_rfl) (fun K hK => ?_)
  go_simp
  have hxa := (Ext.refl W2).alloc_right (.cells #[.int .i32 0, .int .u32 0, .pointer (some ⟨q, 0, none⟩), .int .i64 L.length] 64)
  have hva := heap_alloc_new W2 (.cells #[.int .i32 0, .int .u32 0, .pointer (some ⟨q, 0, none⟩), .int .i64 L.length] 64)
  have hTA := hid (hT0.out _ q W2.heap.size f' ⟨0, hva⟩ (hT.out.ext hxa) (fun a => by
    by_cases e : a = W2.heap.size
    · rw [show f' a = 0 from TN.bound hT.out a (by omega), e, one_self]; omega
    · have := h1.out a
      rw [show one1 W2.heap.size a = 0 from if_neg e]; omega))
  have hszw : Hid (w.heap.size ≤ W2.heap.size) := by have := hx1.out.size; have := hszl.out; unfold Hid; omega
  replace hx1 := hid (hx1.out.trans hxa)
  have I3 : (fun w' : World => w'.cell? ⟨t, 2, none⟩ = some (.pointer (some ⟨p, 0, none⟩)) ∧ w'.cell? ⟨t, 3, none⟩ = some (.int .i64 L.length)) (W2.alloc (.cells #[.int .i32 0, .int .u32 0, .pointer (some ⟨q, 0, none⟩), .int .i64 L.length] 64)) := hc.out _ hx1.out
  clear hxa hva hT h1 hT0 I0
  generalize W2.heap.size = u at *
  generalize W2.alloc (.cells #[.int .i32 0, .int .u32 0, .pointer (some ⟨q, 0, none⟩), .int .i64 L.length] 64) = W3 at *
  refine hK _ _ ⟨fun _ => I3, ?_⟩
  clear hK K
  try simp only [Act.put, lyA, lyB, lyC, lyD, lyE, lyF]
  refine J_one 11 rfl (by kernel_rfl) (fun K hK => ?_)
  go_simp
  refine hK _ _ ⟨fun _ => I3, ?_⟩
  clear hK K
  try simp only [Act.put, lyD, lyE, lyF]
  refine J_done (by kernel_rfl) (OnlyOn.normal ?_)
  clear I2 I3 hc
  have hP : PTo W3 u L (h, T) (fun a => one1 u a + f' a) := ⟨q, f', hTA.out, fun _ => rfl⟩
  have hF : FR (one1 t) W3 (W3.setCell ⟨t, 0, none⟩ (.int .i32 0)) := fr_set (b := t)
  have hP2 := hid (hP.frame hF (fun a ha => if_neg (fun e => ha (by
    have h9 := hlo.out a (by have := hlt.out; omega)
    have h8 : one1 u a = 0 := if_neg (fun e2 => by have := hszw.out; have := hlt.out; omega)
    show one1 u a + f' a = 0
    omega))))
  have hx3 := hid (hb.out _ hx1.out)
  obtain ⟨k0, kf⟩ := hfr.out _ hx1.out
  have hl2 : Hid (∀ a, a < w.heap.size → one1 u a + f' a = 0) := fun a ha => by
    have h9 := hlo.out a ha
    have h8 : one1 u a = 0 := if_neg (fun e2 => by have := hszw.out; omega)
    omega
  replace k0 := hid k0
  replace kf := hid kf
  clear hP hF hTA hb hfr hx1
  go_wp2
  refine leaves_cons (f := 42) (args := #[.pointer (some ⟨t, 0, none⟩)]) (by simp) (by simp [go_sem]) ?_
  refine (unlock_deferred muLib ⟨t, 0, none⟩ .returning _ k0.out kf.out).mono ?_
  rintro e u' w'' ⟨rfl, rfl, rfl⟩
  exact ⟨_, results_tmp rfl _ _ _, u, _, rfl, hP2.out, hx3.out, hl2.out⟩
open Go.RowKit Go.Shelf
theorem cp_any (w : World) (t ty e : TypeId) (i : TypeInfo) (z : Value) (bytes : Nat) (ht : Tryz.prog.underlying t = some (.slice e)) (hi : Tryz.prog.info? e = some i) (hz : i.zero = some z) (hsize : i.size = 1) (hby : i.bytes = bytes) (hzs : z.cells.size = 1) (A : Option Addr) (m c : Nat) (es : List Value) (hr : Rd w 1 A m c es) (h1 : ∀ u ∈ es, u.oneCell' = true) (hm : m ≤ 1000000) (hb : bytes ≤ 1000) :
    ∃ v' w', (Builtin.append_ #[t, t] ty #[.slice none 0 0, .slice A m c]).run Tryz.prog w = .ok v' w' ∧ w'.ownsRow 0 e 1 v' m es ∧ Ext w w' ∧ ∀ a, a < w.heap.size → ob v' a = 0 := by
  obtain ⟨v', w', h2, h3, h4, h5⟩ := app_rw (P := Tryz.prog) w t ty e i z 1 bytes ht hi hz hsize hby hzs (by decide) (.slice none 0 0) 0 [] (World.ownsRow_nil _ _ _ _) A m c es hr h1 (by unfold maxLen; omega) (Nat.le_trans (Nat.mul_le_mul (show 0 + m ≤ 1000000 by omega) hb) (by decide))
  rw [Nat.zero_add, List.nil_append] at h3
  refine ⟨v', w', h2, h3, ⟨h4.os, h4.tape, h4.output, h4.size, fun k hk => h4.block k hk (fun e => by cases e)⟩, fun a ha => if_neg (fun e => ?_)⟩
  rcases h5 with h6 | h6
  · rw [h6] at e; cases e
  · have := h6 a e; omega
theorem cp_S (w : World) (ty : TypeId) (A : Option Addr) (m c : Nat) (es : List Value) (hr : Rd w 1 A m c es) (h1 : ∀ u ∈ es, u.oneCell' = true) (hm : m ≤ 1000000) :
    ∃ v' w', (Builtin.append_ #[28, 28] ty #[.slice none 0 0, .slice A m c]).run Tryz.prog w = .ok v' w' ∧ w'.ownsRow 0 9 1 v' m es ∧ Ext w w' ∧ ∀ a, a < w.heap.size → ob v' a = 0 := by
  obtain ⟨i0, hi0, hz0, hz1, hz2⟩ := info_parts infoS
  exact cp_any w _ ty _ i0 _ 16 Tryz.underlying28 hi0 hz0 hz1 hz2 rfl A m c es hr h1 hm (by decide)
theorem cp_I (w : World) (ty : TypeId) (A : Option Addr) (m c : Nat) (es : List Value) (hr : Rd w 1 A m c es) (h1 : ∀ u ∈ es, u.oneCell' = true) (hm : m ≤ 1000000) :
    ∃ v' w', (Builtin.append_ #[29, 29] ty #[.slice none 0 0, .slice A m c]).run Tryz.prog w = .ok v' w' ∧ w'.ownsRow 0 3 1 v' m es ∧ Ext w w' ∧ ∀ a, a < w.heap.size → ob v' a = 0 := by
  obtain ⟨i0, hi0, hz0, hz1, hz2⟩ := info_parts infoI
  exact cp_any w _ ty _ i0 _ 8 Tryz.underlying29 hi0 hz0 hz1 hz2 rfl A m c es hr h1 hm (by decide)
theorem ints_one9 : ∀ (l : List Int), ∀ u ∈ ints l, u.oneCell' = true := by
  intro l u h
  obtain ⟨x, _, rfl⟩ := List.mem_map.1 h
  rfl
theorem rCopy_any (r : Nat) (L : List Te) (w : World) (h : RTr w r L) (hl : L.length ≤ 1200) : Calls Tryz.prog 10 #[.pointer (some ⟨r, 0, none⟩)] w fun e w' => ∃ u G', e = .returned (.pointer (some ⟨u, 0, none⟩)) ∧ RTo w' u L G' ∧ Ext w w' ∧ ∀ a, a < w.heap.size → G' a = 0 := by
  obtain ⟨A1, c1, A2, c2, h1, hk, hr⟩ := h
  have hc : Hid (∀ w', Ext w w' → (fun w' : World => w'.cell? ⟨r, 0, none⟩ = some (.slice A1 L.length c1) ∧ w'.cell? ⟨r, 1, none⟩ = some (.slice A2 L.length c2)) w') := fun w' hx => ⟨hx.cell (by rw [Lib.cell_of_heap h1]; rfl), hx.cell (by rw [Lib.cell_of_heap h1]; rfl)⟩
  have lr := (Array.getElem?_eq_some_iff.1 h1).1
  have hmx := Rd.max hk
  have hmx2 := RdI.max hr
  replace hk := hid hk
  replace hr := hid hr
  clear h1
  go_enter Tryz.func10, Tryz.ntmps10
  go_upto_region 1 with fail
  have hx1 := hid ((Ext.refl w).drew_right)
  have I0 : (fun w' : World => w'.cell? ⟨r, 0, none⟩ = some (.slice A1 L.length c1) ∧ w'.cell? ⟨r, 1, none⟩ = some (.slice A2 L.length c2)) w.drew := hc.out _ hx1.out
  refine region_J (fun w' : World => w'.cell? ⟨r, 0, none⟩ = some (.slice A1 L.length c1) ∧ w'.cell? ⟨r, 1, none⟩ = some (.slice A2 L.length c2)) 13 (by kernel_rfl) ?_
  generalize w.drew = W0 at *
  refine JO 0 (v := ?vc0) I0 ?yc0 ?rc0
  case yc0 => (intro w h; obtain ⟨_, _⟩ := h; go_simp; with_reducible rfl)
  simp only [Act.put, lyA, lyB, lyC, lyD, lyE, lyF]
  refine JO 1 (v := ?vc1) I0 ?yc1 ?rc1
  case yc1 => (intro w h; obtain ⟨_, _⟩ := h; go_simp; with_reducible rfl)
  simp only [Act.put, lyA, lyB, lyC, lyD, lyE, lyF]
  refine JO 2 (v := ?vc2) I0 ?yc2 ?rc2
  case yc2 => (intro w h; obtain ⟨_, _⟩ := h; go_simp; with_reducible rfl)
  simp only [Act.put, lyA, lyB, lyC, lyD, lyE, lyF]
  refine JO 3 (v := ?vc3) I0 ?yc3 ?rc3
  case yc3 => (intro w h; obtain ⟨_, _⟩ := h; go_simp; with_reducible rfl)
  simp only [Act.put, lyA, lyB, lyC, lyD, lyE, lyF]
  refine JO 5 (v := ?vc5) I0 ?yc5 ?rc5
  case yc5 => (intro w h; obtain ⟨_, _⟩ := h; go_simp; with_reducible rfl)
  simp only [Act.put, lyA, lyB, lyC, lyD, lyE, lyF]
  refine JO 6 (v := ?vc6) I0 ?yc6 ?rc6
  case yc6 => (intro w h; obtain ⟨_, _⟩ := h; go_simp; with_reducible rfl)
  simp only [Act.put, lyA, lyB, lyC, lyD, lyE, lyF]
  refine JO 7 (v := ?vc7) I0 ?yc7 ?rc7
  case yc7 => (intro w h; obtain ⟨_, _⟩ := h; go_simp; with_reducible rfl)
  simp only [Act.put, lyA, lyB, lyC, lyD, lyE, lyF]
  refine JO 8 (v := ?vc8) I0 ?yc8 ?rc8
  case yc8 => (intro w h; obtain ⟨_, _⟩ := h; go_simp; with_reducible rfl)
  simp only [Act.put, lyA, lyB, lyC, lyD, lyE, lyF]
  refine J_one 4 rfl (by kernel_rfl) (fun K hK => ?_)
  obtain ⟨v1, W1, ha1, o1, hxa, hz1⟩ := cp_S W0 28 A1 L.length c1 _ (hk.out.ext hx1.out) (strv_one _) (by omega)
  obtain ⟨Ax, cx, rfl, -⟩ := own_form o1
  replace ha1 := hid ha1
  replace o1 := hid o1
  replace hz1 : Hid (∀ a, a < w.heap.size → ob (.slice Ax L.length cx) a = 0) := fun a ha => hz1 a (Nat.lt_of_lt_of_le ha hx1.out.size)
  replace hx1 := hid (hx1.out.trans hxa)
  have I1 : (fun w' : World => w'.cell? ⟨r, 0, none⟩ = some (.slice A1 L.length c1) ∧ w'.cell? ⟨r, 1, none⟩ = some (.slice A2 L.length c2)) W1 := hc.out _ hx1.out
  clear hxa
  refine step_run rfl _ (ex_append _ _ _ _ rfl _ _ (by simp [Act.eval, Act.put]) (by simp [Act.eval, Act.put]) _ ha1.out) ?_
  refine hK _ _ ⟨fun _ => I1, ?_⟩
  clear hK K
  try simp only [Act.put, lyA, lyB, lyC, lyD, lyE, lyF]
  refine J_one 9 rfl (by kernel_rfl) (fun K hK => ?_)
  obtain ⟨v2, W2, ha2, o2, hxa, hz2⟩ := cp_I W1 29 A2 L.length c2 _ (Rd.ext hr.out hx1.out) (ints_one9 _) (by omega)
  obtain ⟨Ay, cy, rfl, -⟩ := own_form o2
  have hd12 : Hid (∀ a, ob (.slice Ax L.length cx) a + ob (.slice Ay L.length cy) a ≤ 1) := fun a => by
    by_cases ha : a < W1.heap.size
    · rw [hz2 a ha]; unfold ob; split <;> omega
    · rw [own_bound o1.out (Nat.le_of_not_lt ha)]; unfold ob; split <;> omega
  replace o1 := hid (hxa.own o1.out)
  replace ha2 := hid ha2
  replace o2 := hid o2
  replace hz2 : Hid (∀ a, a < w.heap.size → ob (.slice Ay L.length cy) a = 0) := fun a ha => hz2 a (Nat.lt_of_lt_of_le ha hx1.out.size)
  replace hx1 := hid (hx1.out.trans hxa)
  have I2 : (fun w' : World => w'.cell? ⟨r, 0, none⟩ = some (.slice A1 L.length c1) ∧ w'.cell? ⟨r, 1, none⟩ = some (.slice A2 L.length c2)) W2 := hc.out _ hx1.out
  clear hxa
  refine step_run rfl _ (ex_append _ _ _ _ rfl _ _ (by simp [Act.eval, Act.put]) (by simp [Act.eval, Act.put]) _ ha2.out) ?_
  refine hK _ _ ⟨fun _ => I2, ?_⟩
  clear hK K
  try simp only [Act.put, lyA, lyB, lyC, lyD, lyE, lyF]
  refine J_one 10 rfl (by kernel_rfl) (fun K hK => ?_)
  go_simp
  refine hK _ _ ⟨fun _ => I2, ?_⟩
  clear hK K
  try simp only [Act.put, lyD, lyE, lyF]
  refine J_one 11 rfl (by kernel_rfl) (fun K hK => ?_)
  go_simp
  have hxa := (Ext.refl W2).alloc_right (.cells #[.slice Ax L.length cx, .slice Ay L.length cy] 31)
  have hva := heap_alloc_new W2 (.cells #[.slice Ax L.length cx, .slice Ay L.length cy] 31)
  have hszw : w.heap.size ≤ W2.heap.size := hx1.out.size
  have k1 := Rd.of_own o1.out
  have k2 := Rd.of_own o2.out
  have hR : Hid (RTo (W2.alloc (.cells #[.slice Ax L.length cx, .slice Ay L.length cy] 31)) W2.heap.size L (fun a => one1 W2.heap.size a + ob (.slice Ax L.length cx) a + ob (.slice Ay L.length cy) a)) := by
    refine ⟨Ax, cx, Ay, cy, hva, k1.ext hxa, Rd.ext k2 hxa, ?_, fun _ ad e => ?_, fun _ ad e => ?_, fun a ha => ?_⟩
    · show one1 W2.heap.size W2.heap.size + _ + _ ≠ 0
      rw [one_self]; omega
    · have h9 : (Value.slice Ax L.length cx).ownBlock = some ad.block := by rw [e]; rfl
      refine ⟨?_, by have := (o1.out.lt _ h9).2; omega⟩
      show one1 W2.heap.size ad.block + ob (.slice Ax L.length cx) ad.block + _ ≠ 0
      rw [ob_some h9]; omega
    · have h9 : (Value.slice Ay L.length cy).ownBlock = some ad.block := by rw [e]; rfl
      refine ⟨?_, by have := (o2.out.lt _ h9).2; omega⟩
      show one1 W2.heap.size ad.block + ob (.slice Ax L.length cx) ad.block + ob (.slice Ay L.length cy) ad.block ≠ 0
      rw [ob_some h9]; omega
    · rw [World.size_alloc] at ha
      show one1 W2.heap.size a + ob (.slice Ax L.length cx) a + ob (.slice Ay L.length cy) a = 0
      rw [own_bound o1.out (by omega), own_bound o2.out (by omega), show one1 W2.heap.size a = 0 from if_neg (by omega)]
  have hz : Hid (∀ a, a < w.heap.size → one1 W2.heap.size a + ob (.slice Ax L.length cx) a + ob (.slice Ay L.length cy) a = 0) := fun a ha => by
    rw [hz1.out a ha, hz2.out a ha, show one1 W2.heap.size a = 0 from if_neg (by omega)]
  replace hx1 := hid (hx1.out.trans hxa)
  have I3 : (fun w' : World => w'.cell? ⟨r, 0, none⟩ = some (.slice A1 L.length c1) ∧ w'.cell? ⟨r, 1, none⟩ = some (.slice A2 L.length c2)) (W2.alloc (.cells #[.slice Ax L.length cx, .slice Ay L.length cy] 31)) := hc.out _ hx1.out
  clear hxa hva hszw k1 k2 o1 o2 hz1 hz2 I0 ha1 ha2 I1
  generalize W2.heap.size = u at *
  generalize W2.alloc (.cells #[.slice Ax L.length cx, .slice Ay L.length cy] 31) = W3 at *
  refine hK _ _ ⟨fun _ => I3, ?_⟩
  clear hK K
  try simp only [Act.put, lyA, lyB, lyC, lyD, lyE, lyF]
  refine J_one 12 rfl (by kernel_rfl) (fun K hK => ?_)
  go_simp
  refine hK _ _ ⟨fun _ => I3, ?_⟩
  clear hK K
  try simp only [Act.put, lyD, lyE, lyF]
  refine J_done (by kernel_rfl) (OnlyOn.normal ?_)
  clear I2 I3 hc
  go_wp2
  go_ret
  exact ⟨u, _, rfl, hR.out, hx1.out, hz.out⟩
theorem rSame_any (a b : Nat) (L M : List Te) (w : World) (h : RTr w a L) (h' : RTr w b M) (hl : L.length ≤ 1200) (hm : M.length ≤ 1200) (R : Bool) (hR : Hid (R = true ↔ L = M)) : Calls Tryz.prog 15 #[.pointer (some ⟨a, 0, none⟩), .pointer (some ⟨b, 0, none⟩)] w (Give (.bool R) w) := by
  obtain ⟨A1, c1, A2, c2, h1, hk, hr⟩ := h
  obtain ⟨B1, d1, B2, d2, g1, gk, gr⟩ := h'
  have hz : Hid (∀ w', Ext w w' → w'.cell? ⟨a, 0, none⟩ = some (.slice A1 L.length c1) ∧ w'.cell? ⟨a, 1, none⟩ = some (.slice A2 L.length c2) ∧ w'.cell? ⟨b, 0, none⟩ = some (.slice B1 M.length d1) ∧ w'.cell? ⟨b, 1, none⟩ = some (.slice B2 M.length d2) ∧ a < w'.heap.size ∧ b < w'.heap.size) := fun w' hx =>
    ⟨hx.cell (by rw [Lib.cell_of_heap h1]; rfl), hx.cell (by rw [Lib.cell_of_heap h1]; rfl), hx.cell (by rw [Lib.cell_of_heap g1]; rfl), hx.cell (by rw [Lib.cell_of_heap g1]; rfl), Nat.lt_of_lt_of_le (Array.getElem?_eq_some_iff.1 h1).1 hx.size, Nat.lt_of_lt_of_le (Array.getElem?_eq_some_iff.1 g1).1 hx.size⟩
  have hmx := Rd.max hk
  have hmx2 := RdI.max hr
  have hmx3 := Rd.max gk
  have hmx4 := RdI.max gr
  replace hk := hid hk
  replace hr := hid hr
  replace gk := hid gk
  replace gr := hid gr
  clear h1 g1
  obtain ⟨z0, z1, y0, y1, la, lb⟩ := hz.out _ (Ext.refl w)
  go_enter Tryz.func15, Tryz.ntmps15
  go_upto_region 1 with fail
  go_quiet (fail)
  by_cases hlen : L.length = M.length
  · have hli : (L.length : Int) = (M.length : Int) := by omega
    clear z0 z1 y0 y1 la lb
    have hx0 : Hid (Ext w (w.drewN nq)) := (Ext.refl w).drewN_right _
    have hlen' := hid hlen
    go_wp2_with fail
    go_loopw [5] (fun i wr => ∃ k : Nat, k ≤ L.length ∧ i = .int .i64 k ∧ Hid (Ext w wr) ∧ Hid (∀ j, j < k → tth L j = tth M j)) (fun i _ => L.length - (intOf i).toNat)
    case atStart => exact ⟨0, Nat.zero_le _, rfl, hx0, fun j hj => absurd hj (Nat.not_lt_zero _)⟩
    case round =>
      obtain ⟨k, hkl, rfl, hx, hall⟩ := hrel
      clear hx0
      obtain ⟨z0, z1, y0, y1, la, lb⟩ := hz.out _ hx.out
      by_cases hlt : k < L.length
      · have hki : (k : Int) < (L.length : Int) := by omega
        have hltM : k < M.length := by omega
        obtain ⟨p1, rfl, x0⟩ := rds_at (hk.out.ext hx.out) hlt
        obtain ⟨p2, rfl, x1⟩ := rdi_at (RdI.ext hr.out hx.out) hlt
        obtain ⟨q1, rfl, x2⟩ := rds_at (gk.out.ext hx.out) hltM
        obtain ⟨q2, rfl, x3⟩ := rdi_at (RdI.ext gr.out hx.out) hltM
        rw [show sth (L.map Te.key) k = (tth L k).key by rw [sth_get (by rw [List.length_map]; exact hlt), List.getElem_map, tth_get hlt]] at x0
        rw [show ith (L.map Te.no) k = (tth L k).no by rw [ith_get (by rw [List.length_map]; exact hlt), List.getElem_map, tth_get hlt]] at x1
        rw [show sth (M.map Te.key) k = (tth M k).key by rw [sth_get (by rw [List.length_map]; exact hltM), List.getElem_map, tth_get hltM]] at x2
        rw [show ith (M.map Te.no) k = (tth M k).no by rw [ith_get (by rw [List.length_map]; exact hltM), List.getElem_map, tth_get hltM]] at x3
        have hnext : Hid ((tth L k).key = (tth M k).key → (tth L k).no = (tth M k).no → ∀ j, j < k + 1 → tth L j = tth M j) := fun e1 e2 j hj => by
          rcases Nat.lt_or_eq_of_le (Nat.le_of_lt_succ hj) with h3 | h3
          · exact hall.out j h3
          · rw [h3]
            cases hA : tth L k
            cases hB : tth M k
            rw [hA, hB] at e1 e2
            simp only at e1 e2
            rw [e1, e2]
        have hdiff : Hid (((tth L k).key ≠ (tth M k).key ∨ (tth L k).no ≠ (tth M k).no) → R = false) := fun hd => by
          cases hRR : R with
          | false => rfl
          | true =>
            have e := hR.out.1 hRR
            subst e
            rcases hd with h3 | h3 <;> exact absurd rfl h3
        have hli2 : (k : Int) < (M.length : Int) := by omega
        generalize (tth L k).key = s at *
        generalize (tth L k).no = u at *
        generalize (tth M k).key = s' at *
        generalize (tth M k).no = u' at *
        clear hall
        go_upto_region 6 with fail
        have I0 : (fun w' : World => w'.cell? ⟨a, 0, none⟩ = some (.slice (some p1) L.length c1) ∧ w'.cell? ⟨a, 1, none⟩ = some (.slice (some p2) L.length c2) ∧ w'.cell? ⟨b, 0, none⟩ = some (.slice (some q1) M.length d1) ∧ w'.cell? ⟨b, 1, none⟩ = some (.slice (some q2) M.length d2) ∧ w'.cell? (p1.add k) = some (.string s) ∧ w'.cell? (p2.add k) = some (.int .i64 u) ∧ w'.cell? (q1.add k) = some (.string s') ∧ w'.cell? (q2.add k) = some (.int .i64 u')) wr.drew := ⟨z0, z1, y0, y1, x0, x1, x2, x3⟩
        refine region_J (fun w' : World => w'.cell? ⟨a, 0, none⟩ = some (.slice (some p1) L.length c1) ∧ w'.cell? ⟨a, 1, none⟩ = some (.slice (some p2) L.length c2) ∧ w'.cell? ⟨b, 0, none⟩ = some (.slice (some q1) M.length d1) ∧ w'.cell? ⟨b, 1, none⟩ = some (.slice (some q2) M.length d2) ∧ w'.cell? (p1.add k) = some (.string s) ∧ w'.cell? (p2.add k) = some (.int .i64 u) ∧ w'.cell? (q1.add k) = some (.string s') ∧ w'.cell? (q2.add k) = some (.int .i64 u')) 32 (by kernel_rfl) ?_
        have hx2 := hid (hx.out.drew_right)
        clear z0 z1 y0 y1 x0 x1 x2 x3 hx la lb
        generalize wr.drew = W1 at *
        by_cases hs : s = s'
        · subst hs
          by_cases hu : u = u'
          · subst hu
            have hn := hid (hnext.out rfl rfl)
            clear hnext hdiff
            refine JO 0 (v := ?va0) I0 ?ya0 ?ra0
            case ya0 => (intro w h; obtain ⟨_, _, _, _, _, _, _, _⟩ := h; go_simp; with_reducible rfl)
            simp only [Act.put, lyA, lyB, lyC, lyD, lyE, lyF]
            refine JO 1 (v := ?va1) I0 ?ya1 ?ra1
            case ya1 => (intro w h; obtain ⟨_, _, _, _, _, _, _, _⟩ := h; go_simp; with_reducible rfl)
            simp only [Act.put, lyA, lyB, lyC, lyD, lyE, lyF]
            refine JO 2 (v := ?va2) I0 ?ya2 ?ra2
            case ya2 => (intro w h; obtain ⟨_, _, _, _, _, _, _, _⟩ := h; go_simp; with_reducible rfl)
            simp only [Act.put, lyA, lyB, lyC, lyD, lyE, lyF]
            refine JO 3 (v := ?va3) I0 ?ya3 ?ra3
            case ya3 => (intro w h; obtain ⟨_, _, _, _, _, _, _, _⟩ := h; go_simp; with_reducible rfl)
            simp only [Act.put, lyA, lyB, lyC, lyD, lyE, lyF]
            refine JO 4 (v := ?va4) I0 ?ya4 ?ra4
            case ya4 => (intro w h; obtain ⟨_, _, _, _, _, _, _, _⟩ := h; go_simp; with_reducible rfl)
            simp only [Act.put, lyA, lyB, lyC, lyD, lyE, lyF]
            refine JO 5 (v := ?va5) I0 ?ya5 ?ra5
            case ya5 => (intro w h; obtain ⟨_, _, _, _, _, _, _, _⟩ := h; go_simp; with_reducible rfl)
            simp only [Act.put, lyA, lyB, lyC, lyD, lyE, lyF]
            refine JO 6 (v := ?va6) I0 ?ya6 ?ra6
            case ya6 => (intro w h; obtain ⟨_, _, _, _, _, _, _, _⟩ := h; go_simp; with_reducible rfl)
            simp only [Act.put, lyA, lyB, lyC, lyD, lyE, lyF]
            refine JO 7 (v := ?va7) I0 ?ya7 ?ra7
            case ya7 => (intro w h; obtain ⟨_, _, _, _, _, _, _, _⟩ := h; go_simp; with_reducible rfl)
            simp only [Act.put, lyA, lyB, lyC, lyD, lyE, lyF]
            refine JO 8 (v := ?va8) I0 ?ya8 ?ra8
            case ya8 => (intro w h; obtain ⟨_, _, _, _, _, _, _, _⟩ := h; go_simp; with_reducible rfl)
            simp only [Act.put, lyA, lyB, lyC, lyD, lyE, lyF]
            refine JO 9 (v := ?va9) I0 ?ya9 ?ra9
            case ya9 => (intro w h; obtain ⟨_, _, _, _, _, _, _, _⟩ := h; go_simp; with_reducible rfl)
            simp only [Act.put, lyA, lyB, lyC, lyD, lyE, lyF]
            refine JO 10 (v := ?va10) I0 ?ya10 ?ra10
            case ya10 => (intro w h; obtain ⟨_, _, _, _, _, _, _, _⟩ := h; go_simp; with_reducible rfl)
            simp only [Act.put, lyA, lyB, lyC, lyD, lyE, lyF]
            refine JO 11 (v := ?va11) I0 ?ya11 ?ra11
            case ya11 => (intro w h; obtain ⟨_, _, _, _, _, _, _, _⟩ := h; go_simp; with_reducible rfl)
            simp only [Act.put, lyA, lyB, lyC, lyD, lyE, lyF]
            refine JO 12 (v := ?va12) I0 ?ya12 ?ra12
            case ya12 => (intro w h; obtain ⟨_, _, _, _, _, _, _, _⟩ := h; go_simp; with_reducible rfl)
            simp only [Act.put, lyA, lyB, lyC, lyD, lyE, lyF]
            refine JO 13 (v := ?va13) I0 ?ya13 ?ra13
            case ya13 => (intro w h; obtain ⟨_, _, _, _, _, _, _, _⟩ := h; go_simp; with_reducible rfl)
            simp only [Act.put, lyA, lyB, lyC, lyD, lyE, lyF]
            refine JO 14 (v := ?va14) I0 ?ya14 ?ra14
            case ya14 => (intro w h; obtain ⟨_, _, _, _, _, _, _, _⟩ := h; go_simp; with_reducible rfl)
            simp only [Act.put, lyA, lyB, lyC, lyD, lyE, lyF]
            refine JO 15 (v := ?va15) I0 ?ya15 ?ra15
            case ya15 => (intro w h; obtain ⟨_, _, _, _, _, _, _, _⟩ := h; go_simp; with_reducible rfl)
            simp only [Act.put, lyA, lyB, lyC, lyD, lyE, lyF]
            refine JO 16 (v := ?va16) I0 ?ya16 ?ra16
            case ya16 => (intro w h; obtain ⟨_, _, _, _, _, _, _, _⟩ := h; go_simp; with_reducible rfl)
            simp only [Act.put, lyA, lyB, lyC, lyD, lyE, lyF]
            refine JO 17 (v := ?va17) I0 ?ya17 ?ra17
            case ya17 => (intro w h; obtain ⟨_, _, _, _, _, _, _, _⟩ := h; go_simp; with_reducible rfl)
            simp only [Act.put, lyA, lyB, lyC, lyD, lyE, lyF]
            refine JO 18 (v := ?va18) I0 ?ya18 ?ra18
            case ya18 => (intro w h; obtain ⟨_, _, _, _, _, _, _, _⟩ := h; go_simp; with_reducible rfl)
            simp only [Act.put, lyA, lyB, lyC, lyD, lyE, lyF]
            refine JO 19 (v := ?va19) I0 ?ya19 ?ra19
            case ya19 => (intro w h; obtain ⟨_, _, _, _, _, _, _, _⟩ := h; go_simp; with_reducible rfl)
            simp only [Act.put, lyA, lyB, lyC, lyD, lyE, lyF]
            refine JO 20 (v := ?va20) I0 ?ya20 ?ra20
            case ya20 => (intro w h; obtain ⟨_, _, _, _, _, _, _, _⟩ := h; go_simp; with_reducible rfl)
            simp only [Act.put, lyA, lyB, lyC, lyD, lyE, lyF]
            refine JO 21 (v := ?va21) I0 ?ya21 ?ra21
            case ya21 => (intro w h; obtain ⟨_, _, _, _, _, _, _, _⟩ := h; go_simp; with_reducible rfl)
            simp only [Act.put, lyA, lyB, lyC, lyD, lyE, lyF]
            refine JO 22 (v := ?va22) I0 ?ya22 ?ra22
            case ya22 => (intro w h; obtain ⟨_, _, _, _, _, _, _, _⟩ := h; go_simp; with_reducible rfl)
            simp only [Act.put, lyA, lyB, lyC, lyD, lyE, lyF]
            refine JO 23 (v := ?va23) I0 ?ya23 ?ra23
            case ya23 => (intro w h; obtain ⟨_, _, _, _, _, _, _, _⟩ := h; go_simp; with_reducible rfl)
            simp only [Act.put, lyA, lyB, lyC, lyD, lyE, lyF]
            refine JO 24 (v := ?va24) I0 ?ya24 ?ra24
            case ya24 => (intro w h; obtain ⟨_, _, _, _, _, _, _, _⟩ := h; go_simp; with_reducible rfl)
            simp only [Act.put, lyA, lyB, lyC, lyD, lyE, lyF]
            refine JO 25 (v := ?va25) I0 ?ya25 ?ra25
            case ya25 => (intro w h; obtain ⟨_, _, _, _, _, _, _, _⟩ := h; go_simp; with_reducible rfl)
            simp only [Act.put, lyA, lyB, lyC, lyD, lyE, lyF]
            refine JO 26 (v := ?va26) I0 ?ya26 ?ra26
            case ya26 => (intro w h; obtain ⟨_, _, _, _, _, _, _, _⟩ := h; go_simp; with_reducible rfl)
            simp only [Act.put, lyA, lyB, lyC, lyD, lyE, lyF]
            refine JO 27 (v := ?va27) I0 ?ya27 ?ra27
            case ya27 => (intro w h; obtain ⟨_, _, _, _, _, _, _, _⟩ := h; go_simp; with_reducible rfl)
            simp only [Act.put, lyA, lyB, lyC, lyD, lyE, lyF]
            refine JO 28 (v := ?va28) I0 ?ya28 ?ra28
            case ya28 => (intro w h; obtain ⟨_, _, _, _, _, _, _, _⟩ := h; go_simp; with_reducible rfl)
            simp only [Act.put, lyA, lyB, lyC, lyD, lyE, lyF]
            refine JO 29 (v := ?va29) I0 ?ya29 ?ra29
            case ya29 => (intro w h; obtain ⟨_, _, _, _, _, _, _, _⟩ := h; go_simp; with_reducible rfl)
            simp only [Act.put, lyA, lyB, lyC, lyD, lyE, lyF]
            refine JO 30 (v := ?va30) I0 ?ya30 ?ra30
            case ya30 => (intro w h; obtain ⟨_, _, _, _, _, _, _, _⟩ := h; go_simp; with_reducible rfl)
            simp only [Act.put, lyA, lyB, lyC, lyD, lyE, lyF]
            refine JO 31 (v := ?va31) I0 ?ya31 ?ra31
            case ya31 => (intro w h; obtain ⟨_, _, _, _, _, _, _, _⟩ := h; go_simp; with_reducible rfl)
            simp only [Act.put, lyA, lyB, lyC, lyD, lyE, lyF]
            refine J_done (by kernel_rfl) (OnlyOn.normal ?_)
            go_wp2
            go_roundw
            case rel => exact ⟨k + 1, by omega, by go_num, hx2, hn⟩
            case measure => simp [intOf]; omega
          · obtain rfl := hdiff.out (.inr hu)
            have hu2 : (u == u') = false := by rw [beq_eq_false_iff_ne]; exact hu
            clear hnext hdiff
            refine JO 0 (v := ?vb0) I0 ?yb0 ?rb0
            case yb0 => (intro w h; obtain ⟨_, _, _, _, _, _, _, _⟩ := h; go_simp; with_reducible rfl)
            simp only [Act.put, lyA, lyB, lyC, lyD, lyE, lyF]
            refine JO 1 (v := ?vb1) I0 ?yb1 ?rb1
            case yb1 => (intro w h; obtain ⟨_, _, _, _, _, _, _, _⟩ := h; go_simp; with_reducible rfl)
            simp only [Act.put, lyA, lyB, lyC, lyD, lyE, lyF]
            refine JO 2 (v := ?vb2) I0 ?yb2 ?rb2
            case yb2 => (intro w h; obtain ⟨_, _, _, _, _, _, _, _⟩ := h; go_simp; with_reducible rfl)
            simp only [Act.put, lyA, lyB, lyC, lyD, lyE, lyF]
            refine JO 3 (v := ?vb3) I0 ?yb3 ?rb3
            case yb3 => (intro w h; obtain ⟨_, _, _, _, _, _, _, _⟩ := h; go_simp; with_reducible rfl)
            simp only [Act.put, lyA, lyB, lyC, lyD, lyE, lyF]
            refine JO 4 (v := ?vb4) I0 ?yb4 ?rb4
            case yb4 => (intro w h; obtain ⟨_, _, _, _, _, _, _, _⟩ := h; go_simp; with_reducible rfl)
            simp only [Act.put, lyA, lyB, lyC, lyD, lyE, lyF]
            refine JO 5 (v := ?vb5) I0 ?yb5 ?rb5
            case yb5 => (intro w h; obtain ⟨_, _, _, _, _, _, _, _⟩ := h; go_simp; with_reducible rfl)
            simp only [Act.put, lyA, lyB, lyC, lyD, lyE, lyF]
            refine JO 6 (v := ?vb6) I0 ?yb6 ?rb6
            case yb6 => (intro w h; obtain ⟨_, _, _, _, _, _, _, _⟩ := h; go_simp; with_reducible rfl)
            simp only [Act.put, lyA, lyB, lyC, lyD, lyE, lyF]
            refine JO 7 (v := ?vb7) I0 ?yb7 ?rb7
            case yb7 => (intro w h; obtain ⟨_, _, _, _, _, _, _, _⟩ := h; go_simp; with_reducible rfl)
            simp only [Act.put, lyA, lyB, lyC, lyD, lyE, lyF]
            refine JO 8 (v := ?vb8) I0 ?yb8 ?rb8
            case yb8 => (intro w h; obtain ⟨_, _, _, _, _, _, _, _⟩ := h; go_simp; with_reducible rfl)
            simp only [Act.put, lyA, lyB, lyC, lyD, lyE, lyF]
            refine JO 9 (v := ?vb9) I0 ?yb9 ?rb9
            case yb9 => (intro w h; obtain ⟨_, _, _, _, _, _, _, _⟩ := h; go_simp; with_reducible rfl)
            simp only [Act.put, lyA, lyB, lyC, lyD, lyE, lyF]
            refine JO 10 (v := ?vb10) I0 ?yb10 ?rb10
            case yb10 => (intro w h; obtain ⟨_, _, _, _, _, _, _, _⟩ := h; go_simp; with_reducible rfl)
            simp only [Act.put, lyA, lyB, lyC, lyD, lyE, lyF]
            refine JO 11 (v := ?vb11) I0 ?yb11 ?rb11
            case yb11 => (intro w h; obtain ⟨_, _, _, _, _, _, _, _⟩ := h; go_simp; with_reducible rfl)
            simp only [Act.put, lyA, lyB, lyC, lyD, lyE, lyF]
            refine JO 12 (v := ?vb12) I0 ?yb12 ?rb12
            case yb12 => (intro w h; obtain ⟨_, _, _, _, _, _, _, _⟩ := h; go_simp; with_reducible rfl)
            simp only [Act.put, lyA, lyB, lyC, lyD, lyE, lyF]
            refine JO 13 (v := ?vb13) I0 ?yb13 ?rb13
            case yb13 => (intro w h; obtain ⟨_, _, _, _, _, _, _, _⟩ := h; go_simp; with_reducible rfl)
            simp only [Act.put, lyA, lyB, lyC, lyD, lyE, lyF]
            refine JO 14 (v := ?vb14) I0 ?yb14 ?rb14
            case yb14 => (intro w h; obtain ⟨_, _, _, _, _, _, _, _⟩ := h; go_simp; with_reducible rfl)
            simp only [Act.put, lyA, lyB, lyC, lyD, lyE, lyF]
            refine JO 15 (v := ?vb15) I0 ?yb15 ?rb15
            case yb15 => (intro w h; obtain ⟨_, _, _, _, _, _, _, _⟩ := h; go_simp; with_reducible rfl)
            simp only [Act.put, lyA, lyB, lyC, lyD, lyE, lyF]
            refine JO 16 (v := ?vb16) I0 ?yb16 ?rb16
            case yb16 => (intro w h; obtain ⟨_, _, _, _, _, _, _, _⟩ := h; go_simp; with_reducible rfl)
            simp only [Act.put, lyA, lyB, lyC, lyD, lyE, lyF]
            refine JO 17 (v := ?vb17) I0 ?yb17 ?rb17
            case yb17 => (intro w h; obtain ⟨_, _, _, _, _, _, _, _⟩ := h; go_simp; with_reducible rfl)
            simp only [Act.put, lyA, lyB, lyC, lyD, lyE, lyF]
            refine JO 18 (v := ?vb18) I0 ?yb18 ?rb18
            case yb18 => (intro w h; obtain ⟨_, _, _, _, _, _, _, _⟩ := h; go_simp; with_reducible rfl)
            simp only [Act.put, lyA, lyB, lyC, lyD, lyE, lyF]
            refine JO 19 (v := ?vb19) I0 ?yb19 ?rb19
            case yb19 => (intro w h; obtain ⟨_, _, _, _, _, _, _, _⟩ := h; go_simp; with_reducible rfl)
            simp only [Act.put, lyA, lyB, lyC, lyD, lyE, lyF]
            refine JO 20 (v := ?vb20) I0 ?yb20 ?rb20
            case yb20 => (intro w h; obtain ⟨_, _, _, _, _, _, _, _⟩ := h; go_simp; with_reducible rfl)
            simp only [Act.put, lyA, lyB, lyC, lyD, lyE, lyF]
            refine JO 21 (v := ?vb21) I0 ?yb21 ?rb21
            case yb21 => (intro w h; obtain ⟨_, _, _, _, _, _, _, _⟩ := h; go_simp; with_reducible rfl)
            simp only [Act.put, lyA, lyB, lyC, lyD, lyE, lyF]
            refine JO 22 (v := ?vb22) I0 ?yb22 ?rb22
            case yb22 => (intro w h; obtain ⟨_, _, _, _, _, _, _, _⟩ := h; go_simp; with_reducible rfl)
            simp only [Act.put, lyA, lyB, lyC, lyD, lyE, lyF]
            refine JO 23 (v := ?vb23) I0 ?yb23 ?rb23
            case yb23 => (intro w h; obtain ⟨_, _, _, _, _, _, _, _⟩ := h; go_simp; with_reducible rfl)
            simp only [Act.put, lyA, lyB, lyC, lyD, lyE, lyF]
            refine JO 24 (v := ?vb24) I0 ?yb24 ?rb24
            case yb24 => (intro w h; obtain ⟨_, _, _, _, _, _, _, _⟩ := h; go_simp; with_reducible rfl)
            simp only [Act.put, lyA, lyB, lyC, lyD, lyE, lyF]
            refine JO 25 (v := ?vb25) I0 ?yb25 ?rb25
            case yb25 => (intro w h; obtain ⟨_, _, _, _, _, _, _, _⟩ := h; go_simp; with_reducible rfl)
            simp only [Act.put, lyA, lyB, lyC, lyD, lyE, lyF]
            refine JO 26 (v := ?vb26) I0 ?yb26 ?rb26
            case yb26 => (intro w h; obtain ⟨_, _, _, _, _, _, _, _⟩ := h; go_simp; with_reducible rfl)
            simp only [Act.put, lyA, lyB, lyC, lyD, lyE, lyF]
            refine JO 27 (v := ?vb27) I0 ?yb27 ?rb27
            case yb27 => (intro w h; obtain ⟨_, _, _, _, _, _, _, _⟩ := h; go_simp; with_reducible rfl)
            simp only [Act.put, lyA, lyB, lyC, lyD, lyE, lyF]
            refine JO 28 (v := ?vb28) I0 ?yb28 ?rb28
            case yb28 => (intro w h; obtain ⟨_, _, _, _, _, _, _, _⟩ := h; go_simp; with_reducible rfl)
            simp only [Act.put, lyA, lyB, lyC, lyD, lyE, lyF]
            refine JO 29 (v := ?vb29) I0 ?yb29 ?rb29
            case yb29 => (intro w h; obtain ⟨_, _, _, _, _, _, _, _⟩ := h; go_simp; with_reducible rfl)
            simp only [Act.put, lyA, lyB, lyC, lyD, lyE, lyF]
            refine JO 30 (v := ?vb30) I0 ?yb30 ?rb30
            case yb30 => (intro w h; obtain ⟨_, _, _, _, _, _, _, _⟩ := h; go_simp; with_reducible rfl)
            simp only [Act.put, lyA, lyB, lyC, lyD, lyE, lyF]
            refine JO 31 (v := ?vb31) I0 ?yb31 ?rb31
            case yb31 => (intro w h; obtain ⟨_, _, _, _, _, _, _, _⟩ := h; go_simp; with_reducible rfl)
            simp only [Act.put, lyA, lyB, lyC, lyD, lyE, lyF]
            refine J_done (by kernel_rfl) (OnlyOn.normal ?_)
            go_wp2
            go_ret
            exact ⟨rfl, hx2.out⟩
        · obtain rfl := hdiff.out (.inl hs)
          have hs2 : (s.toList == s'.toList) = false := by
            rw [beq_eq_false_iff_ne]
            intro e
            rw [ByteArray.toList_eq, ByteArray.toList_eq] at e
            exact hs (ByteArray.ext (Array.toList_inj.1 e))
          clear hnext hdiff
          refine JO 0 (v := ?ve0) I0 ?ye0 ?re0
          case ye0 => (intro w h; obtain ⟨_, _, _, _, _, _, _, _⟩ := h; go_simp; with_reducible rfl)
          simp only [Act.put, lyA, lyB, lyC, lyD, lyE, lyF]
          refine JO 1 (v := ?ve1) I0 ?ye1 ?re1
          case ye1 => (intro w h; obtain ⟨_, _, _, _, _, _, _, _⟩ := h; go_simp; with_reducible rfl)
          simp only [Act.put, lyA, lyB, lyC, lyD, lyE, lyF]
          refine JO 2 (v := ?ve2) I0 ?ye2 ?re2
          case ye2 => (intro w h; obtain ⟨_, _, _, _, _, _, _, _⟩ := h; go_simp; with_reducible rfl)
          simp only [Act.put, lyA, lyB, lyC, lyD, lyE, lyF]
          refine JO 3 (v := ?ve3) I0 ?ye3 ?re3
          case ye3 => (intro w h; obtain ⟨_, _, _, _, _, _, _, _⟩ := h; go_simp; with_reducible rfl)
          simp only [Act.put, lyA, lyB, lyC, lyD, lyE, lyF]
          refine JO 4 (v := ?ve4) I0 ?ye4 ?re4
          case ye4 => (intro w h; obtain ⟨_, _, _, _, _, _, _, _⟩ := h; go_simp; with_reducible rfl)
          simp only [Act.put, lyA, lyB, lyC, lyD, lyE, lyF]
          refine JO 5 (v := ?ve5) I0 ?ye5 ?re5
          case ye5 => (intro w h; obtain ⟨_, _, _, _, _, _, _, _⟩ := h; go_simp; with_reducible rfl)
          simp only [Act.put, lyA, lyB, lyC, lyD, lyE, lyF]
          refine JO 6 (v := ?ve6) I0 ?ye6 ?re6
          case ye6 => (intro w h; obtain ⟨_, _, _, _, _, _, _, _⟩ := h; go_simp; with_reducible rfl)
          simp only [Act.put, lyA, lyB, lyC, lyD, lyE, lyF]
          refine JO 7 (v := ?ve7) I0 ?ye7 ?re7
          case ye7 => (intro w h; obtain ⟨_, _, _, _, _, _, _, _⟩ := h; go_simp; with_reducible rfl)
          simp only [Act.put, lyA, lyB, lyC, lyD, lyE, lyF]
          refine JO 8 (v := ?ve8) I0 ?ye8 ?re8
          case ye8 => (intro w h; obtain ⟨_, _, _, _, _, _, _, _⟩ := h; go_simp; with_reducible rfl)
          simp only [Act.put, lyA, lyB, lyC, lyD, lyE, lyF]
          refine JO 9 (v := ?ve9) I0 ?ye9 ?re9
          case ye9 => (intro w h; obtain ⟨_, _, _, _, _, _, _, _⟩ := h; go_simp; with_reducible rfl)
          simp only [Act.put, lyA, lyB, lyC, lyD, lyE, lyF]
          refine JO 10 (v := ?ve10) I0 ?ye10 ?re10
          case ye10 => (intro w h; obtain ⟨_, _, _, _, _, _, _, _⟩ := h; go_simp; with_reducible rfl)
          simp only [Act.put, lyA, lyB, lyC, lyD, lyE, lyF]
          refine JO 11 (v := ?ve11) I0 ?ye11 ?re11
          case ye11 => (intro w h; obtain ⟨_, _, _, _, _, _, _, _⟩ := h; go_simp; with_reducible rfl)
          simp only [Act.put, lyA, lyB, lyC, lyD, lyE, lyF]
          refine JO 12 (v := ?ve12) I0 ?ye12 ?re12
          case ye12 => (intro w h; obtain ⟨_, _, _, _, _, _, _, _⟩ := h; go_simp; with_reducible rfl)
          simp only [Act.put, lyA, lyB, lyC, lyD, lyE, lyF]
          refine JO 13 (v := ?ve13) I0 ?ye13 ?re13
          case ye13 => (intro w h; obtain ⟨_, _, _, _, _, _, _, _⟩ := h; go_simp; with_reducible rfl)
          simp only [Act.put, lyA, lyB, lyC, lyD, lyE, lyF]
          refine JO 14 (v := ?ve14) I0 ?ye14 ?re14
          case ye14 => (intro w h; obtain ⟨_, _, _, _, _, _, _, _⟩ := h; go_simp; with_reducible rfl)
          simp only [Act.put, lyA, lyB, lyC, lyD, lyE, lyF]
          refine JO 15 (v := ?ve15) I0 ?ye15 ?re15
          case ye15 => (intro w h; obtain ⟨_, _, _, _, _, _, _, _⟩ := h; go_simp; with_reducible rfl)
          simp only [Act.put, lyA, lyB, lyC, lyD, lyE, lyF]
          refine J_takeO 16 rfl (by kernel_rfl) (by kernel_rfl) (by kernel_rfl) (by kernel_rfl) (fun _ _ _ h => h) (Or.inr ⟨by rfl, rfl⟩) I0 ?_
          simp only [Act.put, lyA, lyB, lyC, lyD, lyE, lyF]
          refine J_takeO 17 rfl (by kernel_rfl) (by kernel_rfl) (by kernel_rfl) (by kernel_rfl) (fun _ _ _ h => h) (Or.inr ⟨by rfl, rfl⟩) I0 ?_
          simp only [Act.put, lyA, lyB, lyC, lyD, lyE, lyF]
          refine J_takeO 18 rfl (by kernel_rfl) (by kernel_rfl) (by kernel_rfl) (by kernel_rfl) (fun _ _ _ h => h) (Or.inr ⟨by rfl, rfl⟩) I0 ?_
          simp only [Act.put, lyA, lyB, lyC, lyD, lyE, lyF]
          refine J_takeO 19 rfl (by kernel_rfl) (by kernel_rfl) (by kernel_rfl) (by kernel_rfl) (fun _ _ _ h => h) (Or.inr ⟨by rfl, rfl⟩) I0 ?_
          simp only [Act.put, lyA, lyB, lyC, lyD, lyE, lyF]
          refine J_takeO 20 rfl (by kernel_rfl) (by kernel_rfl) (by kernel_rfl) (by kernel_rfl) (fun _ _ _ h => h) (Or.inr ⟨by rfl, rfl⟩) I0 ?_
          simp only [Act.put, lyA, lyB, lyC, lyD, lyE, lyF]
          refine J_takeO 21 rfl (by kernel_rfl) (by kernel_rfl) (by kernel_rfl) (by kernel_rfl) (fun _ _ _ h => h) (Or.inr ⟨by rfl, rfl⟩) I0 ?_
          simp only [Act.put, lyA, lyB, lyC, lyD, lyE, lyF]
          refine J_takeO 22 rfl (by kernel_rfl) (by kernel_rfl) (by kernel_rfl) (by kernel_rfl) (fun _ _ _ h => h) (Or.inr ⟨by rfl, rfl⟩) I0 ?_
          simp only [Act.put, lyA, lyB, lyC, lyD, lyE, lyF]
          refine J_takeO 23 rfl (by kernel_rfl) (by kernel_rfl) (by kernel_rfl) (by kernel_rfl) (fun _ _ _ h => h) (Or.inr ⟨by rfl, rfl⟩) I0 ?_
          simp only [Act.put, lyA, lyB, lyC, lyD, lyE, lyF]
          refine J_takeO 24 rfl (by kernel_rfl) (by kernel_rfl) (by kernel_rfl) (by kernel_rfl) (fun _ _ _ h => h) (Or.inr ⟨by rfl, rfl⟩) I0 ?_
          simp only [Act.put, lyA, lyB, lyC, lyD, lyE, lyF]
          refine J_takeO 25 rfl (by kernel_rfl) (by kernel_rfl) (by kernel_rfl) (by kernel_rfl) (fun _ _ _ h => h) (Or.inr ⟨by rfl, rfl⟩) I0 ?_
          simp only [Act.put, lyA, lyB, lyC, lyD, lyE, lyF]
          refine J_takeO 26 rfl (by kernel_rfl) (by kernel_rfl) (by kernel_rfl) (by kernel_rfl) (fun _ _ _ h => h) (Or.inr ⟨by rfl, rfl⟩) I0 ?_
          simp only [Act.put, lyA, lyB, lyC, lyD, lyE, lyF]
          refine J_takeO 27 rfl (by kernel_rfl) (by kernel_rfl) (by kernel_rfl) (by kernel_rfl) (fun _ _ _ h => h) (Or.inr ⟨by rfl, rfl⟩) I0 ?_
          simp only [Act.put, lyA, lyB, lyC, lyD, lyE, lyF]
          refine J_takeO 28 rfl (by kernel_rfl) (by kernel_rfl) (by kernel_rfl) (by kernel_rfl) (fun _ _ _ h => h) (Or.inr ⟨by rfl, rfl⟩) I0 ?_
          simp only [Act.put, lyA, lyB, lyC, lyD, lyE, lyF]
          refine J_takeO 29 rfl (by kernel_rfl) (by kernel_rfl) (by kernel_rfl) (by kernel_rfl) (fun _ _ _ h => h) (Or.inr ⟨by rfl, rfl⟩) I0 ?_
          simp only [Act.put, lyA, lyB, lyC, lyD, lyE, lyF]
          refine J_takeO 30 rfl (by kernel_rfl) (by kernel_rfl) (by kernel_rfl) (by kernel_rfl) (fun _ _ _ h => h) (Or.inr ⟨by rfl, rfl⟩) I0 ?_
          simp only [Act.put, lyA, lyB, lyC, lyD, lyE, lyF]
          refine JO 31 (v := ?ve31) I0 ?ye31 ?re31
          case ye31 => (intro w h; obtain ⟨_, _, _, _, _, _, _, _⟩ := h; go_simp; with_reducible rfl)
          simp only [Act.put, lyA, lyB, lyC, lyD, lyE, lyF]
          refine J_done (by kernel_rfl) (OnlyOn.normal ?_)
          go_wp2
          go_ret
          exact ⟨rfl, hx2.out⟩
      · obtain rfl : k = L.length := by omega
        have hRt : R = true := hR.out.2 (by
          refine List.ext_getElem hlen'.out (fun j h1 h2 => ?_)
          rw [← tth_get h1, ← tth_get h2]
          exact hall.out j h1)
        subst hRt
        go_wp2
        go_ret
        exact ⟨rfl, hx.out⟩
  · have hli : ((L.length : Int) == (M.length : Int)) = false := by rw [beq_eq_false_iff_ne]; omega
    have hR0 : R = false := by
      cases hRR : R with
      | false => rfl
      | true => exact absurd (congrArg List.length (hR.out.1 hRR)) hlen
    subst hR0
    clear z0 z1 y0 y1 la lb
    go_wp2
    go_ret
    exact ⟨rfl, (Ext.refl w).drewN_right _⟩
end Go.Proofs.YtpijfiaecicpfaaGreat
