/-
  The reference's entries.
-/
import Derived.Test.YtpijfiaecicpfaaGreatQ7
import Derived.Test.YtpijfiaecicpfaaGreatQ4
set_option maxRecDepth 100000
set_option maxHeartbeats 40000000
set_option linter.unusedVariables false
set_option linter.unusedSimpArgs false
namespace Go.Proofs.YtpijfiaecicpfaaGreat
open Go.RowKit Go.Shelf
def gE (l : List Te) (KF : Nat → List Te) : Nat → List Te
  | 0 => []
  | i + 1 => gE l KF i ++ (KF i ++ (if i < l.length then [tth l i] else []))
theorem gE_len {l : List Te} {KF : Nat → List Te} : ∀ {i j : Nat}, i ≤ j → (gE l KF i).length ≤ (gE l KF j).length := fun {i j} h => by
  induction h with
  | refl => exact Nat.le_refl _
  | step _ ih => rw [gE, List.length_append]; omega
theorem gE_leaf {l : List Te} {KF : Nat → List Te} (h : ∀ i, KF i = []) : gE l KF (l.length + 1) = l := by
  have key : ∀ i, i ≤ l.length → gE l KF i = l.take i := fun i => by
    induction i with
    | zero => intro _; rfl
    | succ i ih =>
      intro hi
      rw [gE, ih (by omega), h i, if_pos (by omega), List.nil_append, List.take_succ_eq_append_getElem (by omega), tth_get]
  rw [gE, key _ (Nat.le_refl _), h, if_neg (by omega), List.take_length]
  simp
theorem gE_node {h : Nat} {l : List Te} {ks : List BT} {KF : Nat → List Te} (hl : ks.length = l.length + 1) (hk : ∀ i K, ks[i]? = some K → KF i = flat h K) : gE l KF (l.length + 1) = flat (h + 1) (.nd l ks) := by
  have key : ∀ i, i ≤ l.length → gE l KF i = ptF h l ks i := fun i => by
    induction i with
    | zero => intro _; unfold ptF; rw [List.take_zero]; rfl
    | succ i ih =>
      intro hi
      have hK := List.getElem?_eq_getElem (l := ks) (i := i) (by omega)
      rw [gE, ih (by omega), hk i _ hK, if_pos (by omega), pt_step hl (by omega) hK]
  have hK := List.getElem?_eq_getElem (l := ks) (i := l.length) (by omega)
  rw [gE, key _ (Nat.le_refl _), hk _ _ hK, if_neg (by omega), pt_end hl hK, List.append_nil]
theorem rEnt_step (A : Option Addr) (n c : Nat) (xs : List Nx) (k : Nat) (KF : Nat → List Te) (w : World) (hr : RX w A n c xs) (hk : k < n) (hs : shapeB (xth xs k) = true)
    (hC : Hid (∀ q, q < (xth xs k).kids.length → ∀ w', Ext w w' → Calls Tryz.prog 62 #[.agg #[.slice A n c], .int .i64 (ith (xth xs k).kids q)] w' (GiveE (KF q) w'))) (hleaf : Hid ((xth xs k).kids.length = 0 → ∀ i, KF i = []))
    (hb : Hid ((gE (ents (xth xs k)) KF ((ents (xth xs k)).length + 1)).length ≤ 100000)) : Calls Tryz.prog 62 #[.agg #[.slice A n c], .int .i64 k] w (GiveE (gE (ents (xth xs k)) KF ((ents (xth xs k)).length + 1)) w) := by
  have hm := RX.max hr
  obtain ⟨ad0, A1, c1, A2, c2, A3, c3, rfl, y0, y1, y2, r1, r2, r3⟩ := hr.at_ hk
  have hx1 := (Ext.refl w).alloc_right (.cells #[.slice (some ad0) n c] 40)
  have hb0 := heap_alloc_new w (.cells #[.slice (some ad0) n c] 40)
  have zb : (w.alloc (.cells #[.slice (some ad0) n c] 40)).cell? ⟨w.heap.size, 0, none⟩ = some (.slice (some ad0) n c) := by rw [Lib.cell_of_heap hb0]; rfl
  have lb := World.block_lt_of_cell? _ _ zb
  dsimp only at lb
  replace y0 := hx1.cell y0
  replace y1 := hx1.cell y1
  replace y2 := hx1.cell y2
  obtain ⟨s1, s4, s3⟩ := shape_is hs
  have hl := ents_len s1
  have hat := fun i (hi : i < (xth xs k).keys.length) => ents_at s1 hi
  rw [s1] at y1 r2
  have hkey : Hid (∀ i, i < (xth xs k).keys.length → ∃ ad, A1 = some ad ∧ ∀ w', Ext w w' → w'.cell? (ad.add i) = some (.string (tth (ents (xth xs k)) i).key)) := fun i hi => by
    rw [hat i hi]
    obtain ⟨ad, e1, e2⟩ := rds_at r1 hi
    exact ⟨ad, e1, fun w' hx => hx.cell e2⟩
  have hrec : Hid (∀ i, i < (xth xs k).keys.length → ∃ ad, A2 = some ad ∧ ∀ w', Ext w w' → w'.cell? (ad.add i) = some (.int .i64 (tth (ents (xth xs k)) i).no)) := fun i hi => by
    rw [hat i hi]
    obtain ⟨ad, e1, e2⟩ := rdi_at r2 hi
    exact ⟨ad, e1, fun w' hx => hx.cell e2⟩
  have hkid : Hid (∀ i, i < (xth xs k).kids.length → ∃ ad u, A3 = some ad ∧ (∀ w', Ext w w' → w'.cell? (ad.add i) = some (.int .i64 u)) ∧ ∀ w', Ext w w' → Calls Tryz.prog 62 #[.agg #[.slice (some ad0) n c], .int .i64 u] w' (GiveE (KF i) w')) := fun i hi => by
    obtain ⟨ad, e1, e2⟩ := rdi_at r3 hi
    exact ⟨ad, _, e1, fun w' hx => hx.cell e2, fun w' hx => hC.out i hi w' hx⟩
  have hbd : Hid (∀ i, i ≤ (xth xs k).keys.length + 1 → (gE (ents (xth xs k)) KF i).length ≤ 100000) := fun i hi => Nat.le_trans (gE_len (by rw [hl]; exact hi)) hb.out
  have hst : Hid (∀ i, gE (ents (xth xs k)) KF (i + 1) = gE (ents (xth xs k)) KF i ++ (KF i ++ (if i < (xth xs k).keys.length then [tth (ents (xth xs k)) i] else []))) := fun i => by rw [← hl]; rfl
  rw [hl]
  have hmk := (Rd.max r1).1
  clear hb hC hat hr hs s1 r1 r2 r3 hl
  generalize ents (xth xs k) = l at *
  generalize (xth xs k).keys.length = a at *
  generalize (xth xs k).kids.length = d at *
  have hxA := (Ext.refl (w.alloc (.cells #[.slice (some ad0) n c] 40))).alloc_right (.cells #[.slice A1 a c1, .slice A2 a c2, .slice A3 d c3] 48)
  have hpA := heap_alloc_new (w.alloc (.cells #[.slice (some ad0) n c] 40)) (.cells #[.slice A1 a c1, .slice A2 a c2, .slice A3 d c3] 48)
  rw [World.size_alloc] at hpA
  have hx1 := hid (hx1.trans hxA)
  have zb1 := hxA.cell zb
  go_enter Tryz.func62, Tryz.ntmps62
  go_upto_region 5 with fail
  obtain ⟨b, hbb⟩ : ∃ b, b = w.heap.size := ⟨_, rfl⟩
  rw [← hbb] at zb zb1 lb hpA
  simp only [← hbb]
  replace hbb := hid hbb
  clear hxA y0 y1 y2
  generalize (w.alloc (.cells #[.slice (some ad0) n c] 40)).alloc (.cells #[.slice A1 a c1, .slice A2 a c2, .slice A3 d c3] 48) = w1 at *
  have hp0 : w1.cell? ⟨b + 1, 0, none⟩ = some (.slice A1 a c1) := by rw [Lib.cell_of_heap hpA]; rfl
  have hp1 : w1.cell? ⟨b + 1, 1, none⟩ = some (.slice A2 a c2) := by rw [Lib.cell_of_heap hpA]; rfl
  have hp2 : w1.cell? ⟨b + 1, 2, none⟩ = some (.slice A3 d c3) := by rw [Lib.cell_of_heap hpA]; rfl
  have hcells : Hid (∀ w', Ext w1 w' → w'.cell? ⟨b, 0, none⟩ = some (.slice (some ad0) n c) ∧ w'.cell? ⟨b + 1, 0, none⟩ = some (.slice A1 a c1) ∧ w'.cell? ⟨b + 1, 1, none⟩ = some (.slice A2 a c2) ∧ w'.cell? ⟨b + 1, 2, none⟩ = some (.slice A3 d c3) ∧ b + 1 < w'.heap.size) := fun w' hx => ⟨hx.cell zb1, hx.cell hp0, hx.cell hp1, hx.cell hp2, Nat.lt_of_lt_of_le (Array.getElem?_eq_some_iff.1 hpA).1 hx.size⟩
  generalize b + 1 = p at *
  clear hp0 hp1 hp2 hpA zb zb1 lb
  go_loopw [6, 7, 9] (fun kv rv i wr => ∃ (q N1 N2 : Nat) (K1 K2 : Option Addr) (d1 d2 : Nat), q ≤ a + 1 ∧ i = .int .i64 q ∧ kv = .slice K1 N1 d1 ∧ rv = .slice K2 N2 d2 ∧ Hid (KR w1 wr (.slice K1 N1 d1) (.slice K2 N2 d2) ((gE l KF q).map Te.key) ((gE l KF q).map Te.no))) (fun _ _ i _ => a + 1 - (intOf i).toNat)
  case atStart => exact ⟨0, 0, 0, none, none, 0, 0, by omega, rfl, rfl, rfl, KR.start w1⟩
  case round =>
    obtain ⟨q, N1, N2, K1, K2, d1, d2, hq, rfl, rfl, rfl, hT⟩ := hrel
    obtain ⟨zb, zp0, zp1, zp2, lp⟩ := hcells.out wr hT.out.up
    by_cases hqa : q ≤ a
    · have hst1 := hid (hst.out q)
      have hbd1 := hbd.out (q + 1) (by omega)
      rw [hst1.out] at hbd1
      simp only [List.length_append] at hbd1
      generalize gE l KF q = G at *
      have hwq : IntKind.i64.wrap ((q : Int) + 1) = (q : Int) + 1 := IntWalk.i64_in _ (by omega)
      rcases s3 with rfl | rfl
      · have hkf := hleaf.out rfl q
        rw [hkf, List.nil_append] at hst1
        rw [hkf] at hbd1
        have hM : Hid (gE l KF (q + 1) = G ++ (if q < a then [tth l q] else [])) := hst1.out
        have hMb : G.length + 1 ≤ 100001 := by omega
        clear hst1 hkf hbd1
        by_cases hlt : q < a
        · obtain ⟨kad, rfl, zk1⟩ := hkey.out q hlt
          obtain ⟨rad, rfl, zr1⟩ := hrec.out q hlt
          have hMe := hM.out
          rw [if_pos hlt] at hMe
          obtain ⟨x, hxq⟩ : ∃ x, x = tth l q := ⟨_, rfl⟩
          have hxk := hid hxq
          rw [← hxq] at hMe zk1 zr1
          have zk := zk1 wr (hx1.out.trans hT.out.up)
          have zr := zr1 wr (hx1.out.trans hT.out.up)
          have hk1 : Hid ((gE l KF (q + 1)).map Te.key = G.map Te.key ++ [x.key]) := by unfold Hid; rw [hMe, List.map_append]; rfl
          have hk2 : Hid ((gE l KF (q + 1)).map Te.no = G.map Te.no ++ [x.no]) := by unfold Hid; rw [hMe, List.map_append]; rfl
          clear hxq hM hMe
          have hqi : (q : Int) < (a : Int) := by omega
          have hS : Hid (∀ w', Ext w1 w' → (fun w' : World => w'.cell? ⟨p, 0, none⟩ = some (.slice (some kad) a c1) ∧ w'.cell? ⟨p, 1, none⟩ = some (.slice (some rad) a c2) ∧ w'.cell? (kad.add q) = some (.string x.key) ∧ w'.cell? (rad.add q) = some (.int .i64 x.no)) w') := fun w' hx => by
            obtain ⟨-, e0, e1, -, -⟩ := hcells.out w' hx
            exact ⟨e0, e1, zk1 w' (hx1.out.trans hx), zr1 w' (hx1.out.trans hx)⟩
          clear zk1 zr1
          go_upto_region 11 with fail
          have I0 : (fun w' : World => w'.cell? ⟨p, 0, none⟩ = some (.slice (some kad) a c1) ∧ w'.cell? ⟨p, 1, none⟩ = some (.slice (some rad) a c2) ∧ w'.cell? (kad.add q) = some (.string x.key) ∧ w'.cell? (rad.add q) = some (.int .i64 x.no)) wr.drew := ⟨zp0, zp1, zk, zr⟩
          refine region_J (fun w' : World => w'.cell? ⟨p, 0, none⟩ = some (.slice (some kad) a c1) ∧ w'.cell? ⟨p, 1, none⟩ = some (.slice (some rad) a c2) ∧ w'.cell? (kad.add q) = some (.string x.key) ∧ w'.cell? (rad.add q) = some (.int .i64 x.no)) 18 (by kernel_rfl) ?_
          replace hT : Hid (KR w1 wr.drew (.slice K1 N1 d1) (.slice K2 N2 d2) (G.map Te.key) (G.map Te.no)) := hT.out.ext (Ext.drewN wr 1)
          clear zb zp0 zp1 zp2 lp zk zr
          generalize wr.drew = wr at *
          refine JO 0 (v := ?vt10) I0 ?yt10 ?rt10
          case yt10 => (intro w h; obtain ⟨_, _, _, _⟩ := h; go_simp; with_reducible rfl)
          simp only [Act.put, lyA, lyB, lyC, lyD, lyE, lyF]
          refine JO 1 (v := ?vt11) I0 ?yt11 ?rt11
          case yt11 => (intro w h; obtain ⟨_, _, _, _⟩ := h; go_simp; with_reducible rfl)
          simp only [Act.put, lyA, lyB, lyC, lyD, lyE, lyF]
          refine JO 2 (v := ?vt12) I0 ?yt12 ?rt12
          case yt12 => (intro w h; obtain ⟨_, _, _, _⟩ := h; go_simp; with_reducible rfl)
          simp only [Act.put, lyA, lyB, lyC, lyD, lyE, lyF]
          refine JO 3 (v := ?vt13) I0 ?yt13 ?rt13
          case yt13 => (intro w h; obtain ⟨_, _, _, _⟩ := h; go_simp; with_reducible rfl)
          simp only [Act.put, lyA, lyB, lyC, lyD, lyE, lyF]
          refine JO 4 (v := ?vt14) I0 ?yt14 ?rt14
          case yt14 => (intro w h; obtain ⟨_, _, _, _⟩ := h; go_simp; with_reducible rfl)
          simp only [Act.put, lyA, lyB, lyC, lyD, lyE, lyF]
          refine JO 5 (v := ?vt15) I0 ?yt15 ?rt15
          case yt15 => (intro w h; obtain ⟨_, _, _, _⟩ := h; go_simp; with_reducible rfl)
          simp only [Act.put, lyA, lyB, lyC, lyD, lyE, lyF]
          refine JO 8 (v := ?vt18) I0 ?yt18 ?rt18
          case yt18 => (intro w h; obtain ⟨_, _, _, _⟩ := h; go_simp; with_reducible rfl)
          simp only [Act.put, lyA, lyB, lyC, lyD, lyE, lyF]
          refine JO 9 (v := ?vt19) I0 ?yt19 ?rt19
          case yt19 => (intro w h; obtain ⟨_, _, _, _⟩ := h; go_simp; with_reducible rfl)
          simp only [Act.put, lyA, lyB, lyC, lyD, lyE, lyF]
          refine JO 10 (v := ?vt110) I0 ?yt110 ?rt110
          case yt110 => (intro w h; obtain ⟨_, _, _, _⟩ := h; go_simp; with_reducible rfl)
          simp only [Act.put, lyA, lyB, lyC, lyD, lyE, lyF]
          refine JO 11 (v := ?vt111) I0 ?yt111 ?rt111
          case yt111 => (intro w h; obtain ⟨_, _, _, _⟩ := h; go_simp; with_reducible rfl)
          simp only [Act.put, lyA, lyB, lyC, lyD, lyE, lyF]
          refine JO 12 (v := ?vt112) I0 ?yt112 ?rt112
          case yt112 => (intro w h; obtain ⟨_, _, _, _⟩ := h; go_simp; with_reducible rfl)
          simp only [Act.put, lyA, lyB, lyC, lyD, lyE, lyF]
          refine JO 13 (v := ?vt113) I0 ?yt113 ?rt113
          case yt113 => (intro w h; obtain ⟨_, _, _, _⟩ := h; go_simp; with_reducible rfl)
          simp only [Act.put, lyA, lyB, lyC, lyD, lyE, lyF]
          refine J_two 6 14 rfl rfl (by kernel_rfl) (fun K hK => ?_) (fun K hK => ?_)
          · go_simp
            have hTa := hid (hT.out.ext ((Ext.refl wr).alloc_right (.cells #[.string x.key] 9)))
            have rk := hid (rd_new1 wr (.string x.key) 9)
            have rk0 := hid ((hT.out.ob0 (Nat.le_refl wr.heap.size)))
            have rkl : Hid (wr.heap.size < (wr.alloc (.cells #[.string x.key] 9)).heap.size) := by unfold Hid; rw [World.size_alloc]; omega
            refine hK _ _ ⟨fun _ => hS.out _ hTa.out.up, ?_⟩
            clear hK K
            try simp only [Act.put, lyA, lyB, lyC, lyD, lyE, lyF]
            generalize wr.heap.size = qk at *
            generalize (wr.alloc (.cells #[.string x.key] 9)) = wa at *
            refine J_two 7 14 rfl rfl (by kernel_rfl) (fun K hK => ?_) (fun K hK => ?_)
            · obtain ⟨K1', d1', wb, hap1, hTb, hkp⟩ := hTa.out.appK (es := [x.key]) rk.out (by rw [List.length_map]; omega) 28
              replace hTb := hid hTb
              replace hap1 := hid hap1
              refine step_run rfl _ (ex_append _ _ _ _ rfl _ _ (by simp [Act.eval, Act.put]) (by simp [Act.eval, Act.put]) _ hap1.out) ?_
              refine hK _ _ ⟨fun _ => hS.out _ hTb.out.up, ?_⟩
              clear hK K
              try simp only [Act.put, lyA, lyB, lyC, lyD, lyE, lyF]
              clear hap1 hkp
              refine J_one 14 rfl (by kernel_rfl) (fun K hK => ?_)
              go_simp
              have hTc := hid (hTb.out.ext ((Ext.refl wb).alloc_right (.cells #[.int .i64 x.no] 3)))
              have rr := hid (rd_new1 wb (.int .i64 x.no) 3)
              have rr0 := hid ((hTb.out.ob0 (Nat.le_refl wb.heap.size)))
              have rrl : Hid (wb.heap.size < (wb.alloc (.cells #[.int .i64 x.no] 3)).heap.size) := by unfold Hid; rw [World.size_alloc]; omega
              refine hK _ _ ⟨fun _ => hS.out _ hTc.out.up, ?_⟩
              clear hK K
              try simp only [Act.put, lyA, lyB, lyC, lyD, lyE, lyF]
              generalize wb.heap.size = qr at *
              generalize (wb.alloc (.cells #[.int .i64 x.no] 3)) = wc at *
              refine J_one 15 rfl (by kernel_rfl) (fun K hK => ?_)
              obtain ⟨K2', d2', wd, hap1, hTd, hkp⟩ := hTc.out.appR (es := [x.no]) rr.out (by rw [List.length_map]; omega) 29
              replace hTd := hid hTd
              replace hap1 := hid hap1
              refine step_run rfl _ (ex_append _ _ _ _ rfl _ _ (by simp [Act.eval, Act.put]) (by simp [Act.eval, Act.put]) _ hap1.out) ?_
              refine hK _ _ ⟨fun _ => hS.out _ hTd.out.up, ?_⟩
              clear hK K
              try simp only [Act.put, lyA, lyB, lyC, lyD, lyE, lyF]
              clear hap1 hkp
              refine J_one 16 rfl (by kernel_rfl) (fun K hK => ?_)
              go_simp
              refine hK _ _ ⟨fun _ => hS.out _ hTd.out.up, ?_⟩
              clear hK K
              try simp only [Act.put, lyA, lyB, lyC, lyD, lyE, lyF]
              refine J_one 17 rfl (by kernel_rfl) (fun K hK => ?_)
              go_simp
              refine hK _ _ ⟨fun _ => hS.out _ hTd.out.up, ?_⟩
              clear hK K
              try simp only [Act.put, lyA, lyB, lyC, lyD, lyE, lyF]
              refine J_done (by kernel_rfl) (OnlyOn.normal ?_)
              clear hS I0
              go_wp2_with fail
              go_roundw
              case rel => exact ⟨q + 1, _, _, _, _, _, _, by omega, by go_num, rfl, rfl, by rw [hk1.out, hk2.out]; have h9 := hTd.out; rw [show (G.map Te.key ++ [x.key]).length = G.length + 1 by simp, show (G.map Te.no ++ [x.no]).length = G.length + 1 by simp] at h9; exact h9⟩
              case measure => simp [intOf]; omega
            · go_simp
              have hTb := hid (hTa.out.ext ((Ext.refl wa).alloc_right (.cells #[.int .i64 x.no] 3)))
              have rr := hid (rd_new1 wa (.int .i64 x.no) 3)
              have rr0 := hid ((hTa.out.ob0 (Nat.le_refl wa.heap.size)))
              have rrl : Hid (wa.heap.size < (wa.alloc (.cells #[.int .i64 x.no] 3)).heap.size) := by unfold Hid; rw [World.size_alloc]; omega
              replace rk := hid (rk.out.ext ((Ext.refl wa).alloc_right (.cells #[.int .i64 x.no] 3)))
              replace rkl := hid (Nat.lt_of_lt_of_le rkl.out ((Ext.refl wa).alloc_right (.cells #[.int .i64 x.no] 3)).size)
              refine hK _ _ ⟨fun _ => hS.out _ hTb.out.up, ?_⟩
              clear hK K
              try simp only [Act.put, lyA, lyB, lyC, lyD, lyE, lyF]
              generalize wa.heap.size = qr at *
              generalize (wa.alloc (.cells #[.int .i64 x.no] 3)) = wb at *
              refine J_one 7 rfl (by kernel_rfl) (fun K hK => ?_)
              obtain ⟨K1', d1', wc, hap1, hTc, hkp⟩ := hTb.out.appK (es := [x.key]) rk.out (by rw [List.length_map]; omega) 28
              replace hTc := hid hTc
              replace rr := hid (hkp.rd rrl.out rr0.out.1 rr.out)
              replace rrl := hid (Nat.lt_of_lt_of_le rrl.out hkp.1)
              replace hap1 := hid hap1
              refine step_run rfl _ (ex_append _ _ _ _ rfl _ _ (by simp [Act.eval, Act.put]) (by simp [Act.eval, Act.put]) _ hap1.out) ?_
              refine hK _ _ ⟨fun _ => hS.out _ hTc.out.up, ?_⟩
              clear hK K
              try simp only [Act.put, lyA, lyB, lyC, lyD, lyE, lyF]
              clear hap1 hkp
              refine J_one 15 rfl (by kernel_rfl) (fun K hK => ?_)
              obtain ⟨K2', d2', wd, hap1, hTd, hkp⟩ := hTc.out.appR (es := [x.no]) rr.out (by rw [List.length_map]; omega) 29
              replace hTd := hid hTd
              replace hap1 := hid hap1
              refine step_run rfl _ (ex_append _ _ _ _ rfl _ _ (by simp [Act.eval, Act.put]) (by simp [Act.eval, Act.put]) _ hap1.out) ?_
              refine hK _ _ ⟨fun _ => hS.out _ hTd.out.up, ?_⟩
              clear hK K
              try simp only [Act.put, lyA, lyB, lyC, lyD, lyE, lyF]
              clear hap1 hkp
              refine J_one 16 rfl (by kernel_rfl) (fun K hK => ?_)
              go_simp
              refine hK _ _ ⟨fun _ => hS.out _ hTd.out.up, ?_⟩
              clear hK K
              try simp only [Act.put, lyA, lyB, lyC, lyD, lyE, lyF]
              refine J_one 17 rfl (by kernel_rfl) (fun K hK => ?_)
              go_simp
              refine hK _ _ ⟨fun _ => hS.out _ hTd.out.up, ?_⟩
              clear hK K
              try simp only [Act.put, lyA, lyB, lyC, lyD, lyE, lyF]
              refine J_done (by kernel_rfl) (OnlyOn.normal ?_)
              clear hS I0
              go_wp2_with fail
              go_roundw
              case rel => exact ⟨q + 1, _, _, _, _, _, _, by omega, by go_num, rfl, rfl, by rw [hk1.out, hk2.out]; have h9 := hTd.out; rw [show (G.map Te.key ++ [x.key]).length = G.length + 1 by simp, show (G.map Te.no ++ [x.no]).length = G.length + 1 by simp] at h9; exact h9⟩
              case measure => simp [intOf]; omega
          · go_simp
            have hTa := hid (hT.out.ext ((Ext.refl wr).alloc_right (.cells #[.int .i64 x.no] 3)))
            have rr := hid (rd_new1 wr (.int .i64 x.no) 3)
            have rr0 := hid ((hT.out.ob0 (Nat.le_refl wr.heap.size)))
            have rrl : Hid (wr.heap.size < (wr.alloc (.cells #[.int .i64 x.no] 3)).heap.size) := by unfold Hid; rw [World.size_alloc]; omega
            refine hK _ _ ⟨fun _ => hS.out _ hTa.out.up, ?_⟩
            clear hK K
            try simp only [Act.put, lyA, lyB, lyC, lyD, lyE, lyF]
            generalize wr.heap.size = qr at *
            generalize (wr.alloc (.cells #[.int .i64 x.no] 3)) = wa at *
            refine J_one 6 rfl (by kernel_rfl) (fun K hK => ?_)
            go_simp
            have hTb := hid (hTa.out.ext ((Ext.refl wa).alloc_right (.cells #[.string x.key] 9)))
            have rk := hid (rd_new1 wa (.string x.key) 9)
            have rk0 := hid ((hTa.out.ob0 (Nat.le_refl wa.heap.size)))
            have rkl : Hid (wa.heap.size < (wa.alloc (.cells #[.string x.key] 9)).heap.size) := by unfold Hid; rw [World.size_alloc]; omega
            replace rr := hid (rr.out.ext ((Ext.refl wa).alloc_right (.cells #[.string x.key] 9)))
            replace rrl := hid (Nat.lt_of_lt_of_le rrl.out ((Ext.refl wa).alloc_right (.cells #[.string x.key] 9)).size)
            refine hK _ _ ⟨fun _ => hS.out _ hTb.out.up, ?_⟩
            clear hK K
            try simp only [Act.put, lyA, lyB, lyC, lyD, lyE, lyF]
            generalize wa.heap.size = qk at *
            generalize (wa.alloc (.cells #[.string x.key] 9)) = wb at *
            refine J_one 7 rfl (by kernel_rfl) (fun K hK => ?_)
            obtain ⟨K1', d1', wc, hap1, hTc, hkp⟩ := hTb.out.appK (es := [x.key]) rk.out (by rw [List.length_map]; omega) 28
            replace hTc := hid hTc
            replace rr := hid (hkp.rd rrl.out rr0.out.1 rr.out)
            replace rrl := hid (Nat.lt_of_lt_of_le rrl.out hkp.1)
            replace hap1 := hid hap1
            refine step_run rfl _ (ex_append _ _ _ _ rfl _ _ (by simp [Act.eval, Act.put]) (by simp [Act.eval, Act.put]) _ hap1.out) ?_
            refine hK _ _ ⟨fun _ => hS.out _ hTc.out.up, ?_⟩
            clear hK K
            try simp only [Act.put, lyA, lyB, lyC, lyD, lyE, lyF]
            clear hap1 hkp
            refine J_one 15 rfl (by kernel_rfl) (fun K hK => ?_)
            obtain ⟨K2', d2', wd, hap1, hTd, hkp⟩ := hTc.out.appR (es := [x.no]) rr.out (by rw [List.length_map]; omega) 29
            replace hTd := hid hTd
            replace hap1 := hid hap1
            refine step_run rfl _ (ex_append _ _ _ _ rfl _ _ (by simp [Act.eval, Act.put]) (by simp [Act.eval, Act.put]) _ hap1.out) ?_
            refine hK _ _ ⟨fun _ => hS.out _ hTd.out.up, ?_⟩
            clear hK K
            try simp only [Act.put, lyA, lyB, lyC, lyD, lyE, lyF]
            clear hap1 hkp
            refine J_one 16 rfl (by kernel_rfl) (fun K hK => ?_)
            go_simp
            refine hK _ _ ⟨fun _ => hS.out _ hTd.out.up, ?_⟩
            clear hK K
            try simp only [Act.put, lyA, lyB, lyC, lyD, lyE, lyF]
            refine J_one 17 rfl (by kernel_rfl) (fun K hK => ?_)
            go_simp
            refine hK _ _ ⟨fun _ => hS.out _ hTd.out.up, ?_⟩
            clear hK K
            try simp only [Act.put, lyA, lyB, lyC, lyD, lyE, lyF]
            refine J_done (by kernel_rfl) (OnlyOn.normal ?_)
            clear hS I0
            go_wp2_with fail
            go_roundw
            case rel => exact ⟨q + 1, _, _, _, _, _, _, by omega, by go_num, rfl, rfl, by rw [hk1.out, hk2.out]; have h9 := hTd.out; rw [show (G.map Te.key ++ [x.key]).length = G.length + 1 by simp, show (G.map Te.no ++ [x.no]).length = G.length + 1 by simp] at h9; exact h9⟩
            case measure => simp [intOf]; omega
        · have hMe := hM.out
          rw [if_neg hlt, List.append_nil] at hMe
          have hTe : Hid (KR w1 wr (.slice K1 N1 d1) (.slice K2 N2 d2) ((gE l KF (q + 1)).map Te.key) ((gE l KF (q + 1)).map Te.no)) := by unfold Hid; rw [hMe]; exact hT.out
          have hqi : ¬ (q : Int) < (a : Int) := by omega
          clear hM hMe hT
          go_wp2_with fail
          go_roundw
          case rel => exact ⟨q + 1, _, _, _, _, _, _, by omega, by go_num, rfl, rfl, hTe⟩
          case measure => simp [intOf]; omega
      · obtain ⟨kad3, u, rfl, zu1, hCq⟩ := hkid.out q (by omega)
        have zu := zu1 wr (hx1.out.trans hT.out.up)
        have hCs := hid (fun w' (hx : Ext w1 w') => hCq w' (hx1.out.trans hx))
        have hd1 : (0 : Int) < ((a + 1 : Nat) : Int) := by omega
        have hqi : (q : Int) < ((a + 1 : Nat) : Int) := by omega
        have hqi2 : (q : Int) < (a : Int) + 1 := by omega
        clear hCq zu1
        go_upto_region 8 with fail
        have I0 : (fun w' : World => w'.cell? ⟨b, 0, none⟩ = some (.slice (some ad0) n c) ∧ w'.cell? ⟨p, 2, none⟩ = some (.slice (some kad3) (a + 1) c3) ∧ w'.cell? (kad3.add q) = some (.int .i64 u)) wr.drew := ⟨zb, zp2, zu⟩
        refine region_J (fun w' : World => w'.cell? ⟨b, 0, none⟩ = some (.slice (some ad0) n c) ∧ w'.cell? ⟨p, 2, none⟩ = some (.slice (some kad3) (a + 1) c3) ∧ w'.cell? (kad3.add q) = some (.int .i64 u)) 12 (by kernel_rfl) ?_
        replace hT : Hid (KR w1 wr.drew (.slice K1 N1 d1) (.slice K2 N2 d2) (G.map Te.key) (G.map Te.no)) := hT.out.ext (Ext.drewN wr 1)
        have hC1 := hid (fun w' (hx : Ext w1 w') => hCs.out w' hx)
        clear zb zp0 zp1 zp2 lp zu hCs
        generalize wr.drew = w9 at *
        refine JO 0 (v := ?va0) I0 ?ya0 ?ra0
        case ya0 => (intro w h; obtain ⟨_, _, _⟩ := h; go_simp; with_reducible rfl)
        simp only [Act.put, lyA, lyB, lyC, lyD, lyE, lyF]
        refine JO 1 (v := ?va1) I0 ?ya1 ?ra1
        case ya1 => (intro w h; obtain ⟨_, _, _⟩ := h; go_simp; with_reducible rfl)
        simp only [Act.put, lyA, lyB, lyC, lyD, lyE, lyF]
        refine JO 2 (v := ?va2) I0 ?ya2 ?ra2
        case ya2 => (intro w h; obtain ⟨_, _, _⟩ := h; go_simp; with_reducible rfl)
        simp only [Act.put, lyA, lyB, lyC, lyD, lyE, lyF]
        refine JO 3 (v := ?va3) I0 ?ya3 ?ra3
        case ya3 => (intro w h; obtain ⟨_, _, _⟩ := h; go_simp; with_reducible rfl)
        simp only [Act.put, lyA, lyB, lyC, lyD, lyE, lyF]
        refine JO 4 (v := ?va4) I0 ?ya4 ?ra4
        case ya4 => (intro w h; obtain ⟨_, _, _⟩ := h; go_simp; with_reducible rfl)
        simp only [Act.put, lyA, lyB, lyC, lyD, lyE, lyF]
        refine JO 5 (v := ?va5) I0 ?ya5 ?ra5
        case ya5 => (intro w h; obtain ⟨_, _, _⟩ := h; go_simp; with_reducible rfl)
        simp only [Act.put, lyA, lyB, lyC, lyD, lyE, lyF]
        refine J_one 6 rfl (by kernel_rfl) (fun K hK => ?_)
        go_simp
        refine (hC1.out w9 hT.out.up).mono ?_
        rintro e w10 ⟨B1, e1, B2, e2, rfl, hr1, hr2, hx10, -, hf2⟩
        have hT9 := hT
        have I1 : (fun w' : World => w'.cell? ⟨b, 0, none⟩ = some (.slice (some ad0) n c) ∧ w'.cell? ⟨p, 2, none⟩ = some (.slice (some kad3) (a + 1) c3) ∧ w'.cell? (kad3.add q) = some (.int .i64 u)) w10 := ⟨hx10.cell I0.1, hx10.cell I0.2.1, hx10.cell I0.2.2⟩
        replace hT := hid (hT.out.ext hx10)
        replace hr1 := hid hr1
        replace hr2 := hid hr2
        clear hC1 hx10 I0
        refine hK _ _ ⟨fun _ => I1, ?_⟩
        clear hK K
        try simp only [Act.put, lyA, lyB, lyC, lyD, lyE, lyF]
        refine JO 7 (v := ?vb7) I1 ?yb7 ?rb7
        case yb7 => (intro w h; obtain ⟨_, _, _⟩ := h; go_simp; with_reducible rfl)
        simp only [Act.put, lyA, lyB, lyC, lyD, lyE, lyF]
        refine JO 8 (v := ?vb8) I1 ?yb8 ?rb8
        case yb8 => (intro w h; obtain ⟨_, _, _⟩ := h; go_simp; with_reducible rfl)
        simp only [Act.put, lyA, lyB, lyC, lyD, lyE, lyF]
        refine JO 9 (v := ?vb9) I1 ?yb9 ?rb9
        case yb9 => (intro w h; obtain ⟨_, _, _⟩ := h; go_simp; with_reducible rfl)
        simp only [Act.put, lyA, lyB, lyC, lyD, lyE, lyF]
        refine J_one 10 rfl (by kernel_rfl) (fun K hK => ?_)
        go_simp
        refine hK _ _ ⟨fun _ => I1, ?_⟩
        clear hK K
        try simp only [Act.put, lyD, lyE, lyF]
        refine J_one 11 rfl (by kernel_rfl) (fun K hK => ?_)
        go_simp
        refine hK _ _ ⟨fun _ => I1, ?_⟩
        clear hK K
        try simp only [Act.put, lyD, lyE, lyF]
        refine J_done (by kernel_rfl) (OnlyOn.normal ?_)
        clear I1
        have hap0 := hT.out.appK hr1.out (by rw [List.length_map]; omega) 28
        have hMb : Hid ((G ++ KF q).length + 1 ≤ 100001) := by unfold Hid; rw [List.length_append]; omega
        have hM : Hid (gE l KF (q + 1) = (G ++ KF q) ++ (if q < a then [tth l q] else [])) := by have := hst1.out; unfold Hid; rw [this, List.append_assoc]
        generalize KF q = E at *
        obtain ⟨K1', d1', w11, hap1, hT1, hkp1⟩ := hap0
        obtain ⟨K2', d2', w12, hap2, hT2, hkp2⟩ := KR.appR hT1 (hT9.out.keep hkp1 hf2 hr2.out) (by rw [List.length_map]; omega) 29
        rw [← List.map_append, ← List.map_append] at hT2
        rw [← List.map_append] at hap1 hap2
        replace hap1 := hid hap1
        replace hap2 := hid hap2
        replace hT2 := hid hT2
        clear hst1 hbd1 hT hT9 hT1 hkp1 hkp2 hr1 hr2 hf2
        have hMb := hMb.out
        generalize hGE : G ++ E = M at *
        replace hGE := hid hGE
        have e1 : (M.map Te.key).length = M.length := List.length_map _
        have e2 : (M.map Te.no).length = M.length := List.length_map _
        rw [e1] at hap1 hT2
        rw [e2] at hap2 hT2
        clear e1 e2
        have hT := hT2
        obtain ⟨zb, zp0, zp1, zp2, lp⟩ := hcells.out w12 hT.out.up
        clear hT2
        by_cases hlt : q < a
        · obtain ⟨kad, rfl, zk1⟩ := hkey.out q hlt
          obtain ⟨rad, rfl, zr1⟩ := hrec.out q hlt
          have hMe := hM.out
          rw [if_pos hlt] at hMe
          obtain ⟨x, hxq⟩ : ∃ x, x = tth l q := ⟨_, rfl⟩
          have hxk := hid hxq
          rw [← hxq] at hMe zk1 zr1
          have zk := zk1 w12 (hx1.out.trans hT.out.up)
          have zr := zr1 w12 (hx1.out.trans hT.out.up)
          have hk1 : Hid ((gE l KF (q + 1)).map Te.key = M.map Te.key ++ [x.key]) := by unfold Hid; rw [hMe, List.map_append]; rfl
          have hk2 : Hid ((gE l KF (q + 1)).map Te.no = M.map Te.no ++ [x.no]) := by unfold Hid; rw [hMe, List.map_append]; rfl
          clear hxq hM hMe
          have hqi : (q : Int) < (a : Int) := by omega
          have hS : Hid (∀ w', Ext w1 w' → (fun w' : World => w'.cell? ⟨p, 0, none⟩ = some (.slice (some kad) a c1) ∧ w'.cell? ⟨p, 1, none⟩ = some (.slice (some rad) a c2) ∧ w'.cell? (kad.add q) = some (.string x.key) ∧ w'.cell? (rad.add q) = some (.int .i64 x.no)) w') := fun w' hx => by
            obtain ⟨-, e0, e1, -, -⟩ := hcells.out w' hx
            exact ⟨e0, e1, zk1 w' (hx1.out.trans hx), zr1 w' (hx1.out.trans hx)⟩
          clear zk1 zr1
          go_upto_region 11 with (at_builtin; first | refine wpList_app rfl _ _ 28 28 rfl _ _ rfl rfl _ hap1.out ?_ | refine wpList_app rfl _ _ 29 29 rfl _ _ rfl rfl _ hap2.out ?_)
          clear hap1 hap2
          have I0 : (fun w' : World => w'.cell? ⟨p, 0, none⟩ = some (.slice (some kad) a c1) ∧ w'.cell? ⟨p, 1, none⟩ = some (.slice (some rad) a c2) ∧ w'.cell? (kad.add q) = some (.string x.key) ∧ w'.cell? (rad.add q) = some (.int .i64 x.no)) w12.drew := ⟨zp0, zp1, zk, zr⟩
          refine region_J (fun w' : World => w'.cell? ⟨p, 0, none⟩ = some (.slice (some kad) a c1) ∧ w'.cell? ⟨p, 1, none⟩ = some (.slice (some rad) a c2) ∧ w'.cell? (kad.add q) = some (.string x.key) ∧ w'.cell? (rad.add q) = some (.int .i64 x.no)) 18 (by kernel_rfl) ?_
          replace hT : Hid (KR w1 w12.drew (.slice K1' M.length d1') (.slice K2' M.length d2') (M.map Te.key) (M.map Te.no)) := hT.out.ext (Ext.drewN w12 1)
          clear zb zp0 zp1 zp2 lp zk zr
          generalize w12.drew = w12 at *
          refine JO 0 (v := ?vt00) I0 ?yt00 ?rt00
          case yt00 => (intro w h; obtain ⟨_, _, _, _⟩ := h; go_simp; with_reducible rfl)
          simp only [Act.put, lyA, lyB, lyC, lyD, lyE, lyF]
          refine JO 1 (v := ?vt01) I0 ?yt01 ?rt01
          case yt01 => (intro w h; obtain ⟨_, _, _, _⟩ := h; go_simp; with_reducible rfl)
          simp only [Act.put, lyA, lyB, lyC, lyD, lyE, lyF]
          refine JO 2 (v := ?vt02) I0 ?yt02 ?rt02
          case yt02 => (intro w h; obtain ⟨_, _, _, _⟩ := h; go_simp; with_reducible rfl)
          simp only [Act.put, lyA, lyB, lyC, lyD, lyE, lyF]
          refine JO 3 (v := ?vt03) I0 ?yt03 ?rt03
          case yt03 => (intro w h; obtain ⟨_, _, _, _⟩ := h; go_simp; with_reducible rfl)
          simp only [Act.put, lyA, lyB, lyC, lyD, lyE, lyF]
          refine JO 4 (v := ?vt04) I0 ?yt04 ?rt04
          case yt04 => (intro w h; obtain ⟨_, _, _, _⟩ := h; go_simp; with_reducible rfl)
          simp only [Act.put, lyA, lyB, lyC, lyD, lyE, lyF]
          refine JO 5 (v := ?vt05) I0 ?yt05 ?rt05
          case yt05 => (intro w h; obtain ⟨_, _, _, _⟩ := h; go_simp; with_reducible rfl)
          simp only [Act.put, lyA, lyB, lyC, lyD, lyE, lyF]
          refine JO 8 (v := ?vt08) I0 ?yt08 ?rt08
          case yt08 => (intro w h; obtain ⟨_, _, _, _⟩ := h; go_simp; with_reducible rfl)
          simp only [Act.put, lyA, lyB, lyC, lyD, lyE, lyF]
          refine JO 9 (v := ?vt09) I0 ?yt09 ?rt09
          case yt09 => (intro w h; obtain ⟨_, _, _, _⟩ := h; go_simp; with_reducible rfl)
          simp only [Act.put, lyA, lyB, lyC, lyD, lyE, lyF]
          refine JO 10 (v := ?vt010) I0 ?yt010 ?rt010
          case yt010 => (intro w h; obtain ⟨_, _, _, _⟩ := h; go_simp; with_reducible rfl)
          simp only [Act.put, lyA, lyB, lyC, lyD, lyE, lyF]
          refine JO 11 (v := ?vt011) I0 ?yt011 ?rt011
          case yt011 => (intro w h; obtain ⟨_, _, _, _⟩ := h; go_simp; with_reducible rfl)
          simp only [Act.put, lyA, lyB, lyC, lyD, lyE, lyF]
          refine JO 12 (v := ?vt012) I0 ?yt012 ?rt012
          case yt012 => (intro w h; obtain ⟨_, _, _, _⟩ := h; go_simp; with_reducible rfl)
          simp only [Act.put, lyA, lyB, lyC, lyD, lyE, lyF]
          refine JO 13 (v := ?vt013) I0 ?yt013 ?rt013
          case yt013 => (intro w h; obtain ⟨_, _, _, _⟩ := h; go_simp; with_reducible rfl)
          simp only [Act.put, lyA, lyB, lyC, lyD, lyE, lyF]
          refine J_two 6 14 rfl rfl (by kernel_rfl) (fun K hK => ?_) (fun K hK => ?_)
          · go_simp
            have hTa := hid (hT.out.ext ((Ext.refl w12).alloc_right (.cells #[.string x.key] 9)))
            have rk := hid (rd_new1 w12 (.string x.key) 9)
            have rk0 := hid ((hT.out.ob0 (Nat.le_refl w12.heap.size)))
            have rkl : Hid (w12.heap.size < (w12.alloc (.cells #[.string x.key] 9)).heap.size) := by unfold Hid; rw [World.size_alloc]; omega
            refine hK _ _ ⟨fun _ => hS.out _ hTa.out.up, ?_⟩
            clear hK K
            try simp only [Act.put, lyA, lyB, lyC, lyD, lyE, lyF]
            generalize w12.heap.size = qk at *
            generalize (w12.alloc (.cells #[.string x.key] 9)) = wa at *
            refine J_two 7 14 rfl rfl (by kernel_rfl) (fun K hK => ?_) (fun K hK => ?_)
            · obtain ⟨K1', d1', wb, hap1, hTb, hkp⟩ := hTa.out.appK (es := [x.key]) rk.out (by rw [List.length_map]; omega) 28
              replace hTb := hid hTb
              replace hap1 := hid hap1
              refine step_run rfl _ (ex_append _ _ _ _ rfl _ _ (by simp [Act.eval, Act.put]) (by simp [Act.eval, Act.put]) _ hap1.out) ?_
              refine hK _ _ ⟨fun _ => hS.out _ hTb.out.up, ?_⟩
              clear hK K
              try simp only [Act.put, lyA, lyB, lyC, lyD, lyE, lyF]
              clear hap1 hkp
              refine J_one 14 rfl (by kernel_rfl) (fun K hK => ?_)
              go_simp
              have hTc := hid (hTb.out.ext ((Ext.refl wb).alloc_right (.cells #[.int .i64 x.no] 3)))
              have rr := hid (rd_new1 wb (.int .i64 x.no) 3)
              have rr0 := hid ((hTb.out.ob0 (Nat.le_refl wb.heap.size)))
              have rrl : Hid (wb.heap.size < (wb.alloc (.cells #[.int .i64 x.no] 3)).heap.size) := by unfold Hid; rw [World.size_alloc]; omega
              refine hK _ _ ⟨fun _ => hS.out _ hTc.out.up, ?_⟩
              clear hK K
              try simp only [Act.put, lyA, lyB, lyC, lyD, lyE, lyF]
              generalize wb.heap.size = qr at *
              generalize (wb.alloc (.cells #[.int .i64 x.no] 3)) = wc at *
              refine J_one 15 rfl (by kernel_rfl) (fun K hK => ?_)
              obtain ⟨K2', d2', wd, hap1, hTd, hkp⟩ := hTc.out.appR (es := [x.no]) rr.out (by rw [List.length_map]; omega) 29
              replace hTd := hid hTd
              replace hap1 := hid hap1
              refine step_run rfl _ (ex_append _ _ _ _ rfl _ _ (by simp [Act.eval, Act.put]) (by simp [Act.eval, Act.put]) _ hap1.out) ?_
              refine hK _ _ ⟨fun _ => hS.out _ hTd.out.up, ?_⟩
              clear hK K
              try simp only [Act.put, lyA, lyB, lyC, lyD, lyE, lyF]
              clear hap1 hkp
              refine J_one 16 rfl (by kernel_rfl) (fun K hK => ?_)
              go_simp
              refine hK _ _ ⟨fun _ => hS.out _ hTd.out.up, ?_⟩
              clear hK K
              try simp only [Act.put, lyA, lyB, lyC, lyD, lyE, lyF]
              refine J_one 17 rfl (by kernel_rfl) (fun K hK => ?_)
              go_simp
              refine hK _ _ ⟨fun _ => hS.out _ hTd.out.up, ?_⟩
              clear hK K
              try simp only [Act.put, lyA, lyB, lyC, lyD, lyE, lyF]
              refine J_done (by kernel_rfl) (OnlyOn.normal ?_)
              clear hS I0
              go_wp2_with fail
              go_roundw
              case rel => exact ⟨q + 1, _, _, _, _, _, _, by omega, by go_num, rfl, rfl, by rw [hk1.out, hk2.out]; have h9 := hTd.out; rw [show (M.map Te.key ++ [x.key]).length = M.length + 1 by simp, show (M.map Te.no ++ [x.no]).length = M.length + 1 by simp] at h9; exact h9⟩
              case measure => simp [intOf]; omega
            · go_simp
              have hTb := hid (hTa.out.ext ((Ext.refl wa).alloc_right (.cells #[.int .i64 x.no] 3)))
              have rr := hid (rd_new1 wa (.int .i64 x.no) 3)
              have rr0 := hid ((hTa.out.ob0 (Nat.le_refl wa.heap.size)))
              have rrl : Hid (wa.heap.size < (wa.alloc (.cells #[.int .i64 x.no] 3)).heap.size) := by unfold Hid; rw [World.size_alloc]; omega
              replace rk := hid (rk.out.ext ((Ext.refl wa).alloc_right (.cells #[.int .i64 x.no] 3)))
              replace rkl := hid (Nat.lt_of_lt_of_le rkl.out ((Ext.refl wa).alloc_right (.cells #[.int .i64 x.no] 3)).size)
              refine hK _ _ ⟨fun _ => hS.out _ hTb.out.up, ?_⟩
              clear hK K
              try simp only [Act.put, lyA, lyB, lyC, lyD, lyE, lyF]
              generalize wa.heap.size = qr at *
              generalize (wa.alloc (.cells #[.int .i64 x.no] 3)) = wb at *
              refine J_one 7 rfl (by kernel_rfl) (fun K hK => ?_)
              obtain ⟨K1', d1', wc, hap1, hTc, hkp⟩ := hTb.out.appK (es := [x.key]) rk.out (by rw [List.length_map]; omega) 28
              replace hTc := hid hTc
              replace rr := hid (hkp.rd rrl.out rr0.out.1 rr.out)
              replace rrl := hid (Nat.lt_of_lt_of_le rrl.out hkp.1)
              replace hap1 := hid hap1
              refine step_run rfl _ (ex_append _ _ _ _ rfl _ _ (by simp [Act.eval, Act.put]) (by simp [Act.eval, Act.put]) _ hap1.out) ?_
              refine hK _ _ ⟨fun _ => hS.out _ hTc.out.up, ?_⟩
              clear hK K
              try simp only [Act.put, lyA, lyB, lyC, lyD, lyE, lyF]
              clear hap1 hkp
              refine J_one 15 rfl (by kernel_rfl) (fun K hK => ?_)
              obtain ⟨K2', d2', wd, hap1, hTd, hkp⟩ := hTc.out.appR (es := [x.no]) rr.out (by rw [List.length_map]; omega) 29
              replace hTd := hid hTd
              replace hap1 := hid hap1
              refine step_run rfl _ (ex_append _ _ _ _ rfl _ _ (by simp [Act.eval, Act.put]) (by simp [Act.eval, Act.put]) _ hap1.out) ?_
              refine hK _ _ ⟨fun _ => hS.out _ hTd.out.up, ?_⟩
              clear hK K
              try simp only [Act.put, lyA, lyB, lyC, lyD, lyE, lyF]
              clear hap1 hkp
              refine J_one 16 rfl (by kernel_rfl) (fun K hK => ?_)
              go_simp
              refine hK _ _ ⟨fun _ => hS.out _ hTd.out.up, ?_⟩
              clear hK K
              try simp only [Act.put, lyA, lyB, lyC, lyD, lyE, lyF]
              refine J_one 17 rfl (by kernel_rfl) (fun K hK => ?_)
              go_simp
              refine hK _ _ ⟨fun _ => hS.out _ hTd.out.up, ?_⟩
              clear hK K
              try simp only [Act.put, lyA, lyB, lyC, lyD, lyE, lyF]
              refine J_done (by kernel_rfl) (OnlyOn.normal ?_)
              clear hS I0
              go_wp2_with fail
              go_roundw
              case rel => exact ⟨q + 1, _, _, _, _, _, _, by omega, by go_num, rfl, rfl, by rw [hk1.out, hk2.out]; have h9 := hTd.out; rw [show (M.map Te.key ++ [x.key]).length = M.length + 1 by simp, show (M.map Te.no ++ [x.no]).length = M.length + 1 by simp] at h9; exact h9⟩
              case measure => simp [intOf]; omega
          · go_simp
            have hTa := hid (hT.out.ext ((Ext.refl w12).alloc_right (.cells #[.int .i64 x.no] 3)))
            have rr := hid (rd_new1 w12 (.int .i64 x.no) 3)
            have rr0 := hid ((hT.out.ob0 (Nat.le_refl w12.heap.size)))
            have rrl : Hid (w12.heap.size < (w12.alloc (.cells #[.int .i64 x.no] 3)).heap.size) := by unfold Hid; rw [World.size_alloc]; omega
            refine hK _ _ ⟨fun _ => hS.out _ hTa.out.up, ?_⟩
            clear hK K
            try simp only [Act.put, lyA, lyB, lyC, lyD, lyE, lyF]
            generalize w12.heap.size = qr at *
            generalize (w12.alloc (.cells #[.int .i64 x.no] 3)) = wa at *
            refine J_one 6 rfl (by kernel_rfl) (fun K hK => ?_)
            go_simp
            have hTb := hid (hTa.out.ext ((Ext.refl wa).alloc_right (.cells #[.string x.key] 9)))
            have rk := hid (rd_new1 wa (.string x.key) 9)
            have rk0 := hid ((hTa.out.ob0 (Nat.le_refl wa.heap.size)))
            have rkl : Hid (wa.heap.size < (wa.alloc (.cells #[.string x.key] 9)).heap.size) := by unfold Hid; rw [World.size_alloc]; omega
            replace rr := hid (rr.out.ext ((Ext.refl wa).alloc_right (.cells #[.string x.key] 9)))
            replace rrl := hid (Nat.lt_of_lt_of_le rrl.out ((Ext.refl wa).alloc_right (.cells #[.string x.key] 9)).size)
            refine hK _ _ ⟨fun _ => hS.out _ hTb.out.up, ?_⟩
            clear hK K
            try simp only [Act.put, lyA, lyB, lyC, lyD, lyE, lyF]
            generalize wa.heap.size = qk at *
            generalize (wa.alloc (.cells #[.string x.key] 9)) = wb at *
            refine J_one 7 rfl (by kernel_rfl) (fun K hK => ?_)
            obtain ⟨K1', d1', wc, hap1, hTc, hkp⟩ := hTb.out.appK (es := [x.key]) rk.out (by rw [List.length_map]; omega) 28
            replace hTc := hid hTc
            replace rr := hid (hkp.rd rrl.out rr0.out.1 rr.out)
            replace rrl := hid (Nat.lt_of_lt_of_le rrl.out hkp.1)
            replace hap1 := hid hap1
            refine step_run rfl _ (ex_append _ _ _ _ rfl _ _ (by simp [Act.eval, Act.put]) (by simp [Act.eval, Act.put]) _ hap1.out) ?_
            refine hK _ _ ⟨fun _ => hS.out _ hTc.out.up, ?_⟩
            clear hK K
            try simp only [Act.put, lyA, lyB, lyC, lyD, lyE, lyF]
            clear hap1 hkp
            refine J_one 15 rfl (by kernel_rfl) (fun K hK => ?_)
            obtain ⟨K2', d2', wd, hap1, hTd, hkp⟩ := hTc.out.appR (es := [x.no]) rr.out (by rw [List.length_map]; omega) 29
            replace hTd := hid hTd
            replace hap1 := hid hap1
            refine step_run rfl _ (ex_append _ _ _ _ rfl _ _ (by simp [Act.eval, Act.put]) (by simp [Act.eval, Act.put]) _ hap1.out) ?_
            refine hK _ _ ⟨fun _ => hS.out _ hTd.out.up, ?_⟩
            clear hK K
            try simp only [Act.put, lyA, lyB, lyC, lyD, lyE, lyF]
            clear hap1 hkp
            refine J_one 16 rfl (by kernel_rfl) (fun K hK => ?_)
            go_simp
            refine hK _ _ ⟨fun _ => hS.out _ hTd.out.up, ?_⟩
            clear hK K
            try simp only [Act.put, lyA, lyB, lyC, lyD, lyE, lyF]
            refine J_one 17 rfl (by kernel_rfl) (fun K hK => ?_)
            go_simp
            refine hK _ _ ⟨fun _ => hS.out _ hTd.out.up, ?_⟩
            clear hK K
            try simp only [Act.put, lyA, lyB, lyC, lyD, lyE, lyF]
            refine J_done (by kernel_rfl) (OnlyOn.normal ?_)
            clear hS I0
            go_wp2_with fail
            go_roundw
            case rel => exact ⟨q + 1, _, _, _, _, _, _, by omega, by go_num, rfl, rfl, by rw [hk1.out, hk2.out]; have h9 := hTd.out; rw [show (M.map Te.key ++ [x.key]).length = M.length + 1 by simp, show (M.map Te.no ++ [x.no]).length = M.length + 1 by simp] at h9; exact h9⟩
            case measure => simp [intOf]; omega
        · have hMe := hM.out
          rw [if_neg hlt, List.append_nil] at hMe
          have hTe : Hid (KR w1 w12 (.slice K1' M.length d1') (.slice K2' M.length d2') ((gE l KF (q + 1)).map Te.key) ((gE l KF (q + 1)).map Te.no)) := by unfold Hid; rw [hMe]; exact hT.out
          have hqi : ¬ (q : Int) < (a : Int) := by omega
          clear hM hMe hT
          go_wp2_with (at_builtin; first | refine wpList_app rfl _ _ 28 28 rfl _ _ rfl rfl _ hap1.out ?_ | refine wpList_app rfl _ _ 29 29 rfl _ _ rfl rfl _ hap2.out ?_)
          go_roundw
          case rel => exact ⟨q + 1, _, _, _, _, _, _, by omega, by go_num, rfl, rfl, hTe⟩
          case measure => simp [intOf]; omega
    · obtain rfl : q = a + 1 := by omega
      go_wp2
      go_ret2
      exact hT.out.give hx1.out
end Go.Proofs.YtpijfiaecicpfaaGreat
