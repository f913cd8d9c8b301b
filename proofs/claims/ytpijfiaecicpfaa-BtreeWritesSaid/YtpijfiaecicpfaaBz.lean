/-
  The program's isTree.
-/
import Derived.Test.YtpijfiaecicpfaaBy
namespace Go.Proofs.Ytpijfiaecicpfaa
open Go.RowKit Go.Shelf
set_option linter.unusedVariables false
set_option linter.unusedSimpArgs false
/-- While kids are looked at. -/
structure PT (w wr : World) (g n : Nat) (f : Nat → Bool) : Prop where
  ext : Ext w wr
  row : wr.heap[g]? = some (.cells (rowF n f).toArray 4 (0, 0))
  le : w.heap.size ≤ g
theorem PT.up {w wr w' : World} {g n : Nat} {f : Nat → Bool} (h : PT w wr g n f) (hx : Ext wr w') : PT w w' g n f := ⟨h.ext.trans hx, (hx.block (Array.getElem?_eq_some_iff.1 h.row).1).trans h.row, h.le⟩
theorem PT.set {w wr : World} {g n m : Nat} {f f' : Nat → Bool} (h : PT w wr g n f) (hf : ∀ k, f' k = (f k || decide (k = m))) : PT w (wr.setCell ⟨g, m, none⟩ (.bool true)) g n f' :=
  ⟨h.ext.set (p := ⟨g, m, none⟩) h.le _, rowF_set h.row (fun j _ => hf j), h.le⟩
/-- While nodes are visited. -/
structure PV (w wr : World) (B n : Nat) (v : Value) (l : List Int) : Prop where
  ext : Ext w wr
  que : Que wr (fun k => B ≤ k) v l
  le : w.heap.size ≤ B
  hB : B ≤ wr.heap.size
theorem PV.app {w wr w' : World} {B n : Nat} {v v' : Value} {l l' : List Int} (h : PV w wr B n v l) (hq : Que w' (fun k => B ≤ k) v' l') (h1 : w'.os = wr.os) (h2 : w'.tape = wr.tape) (h3 : w'.output = wr.output) (h4 : wr.heap.size ≤ w'.heap.size) (h5 : ∀ k, k < wr.heap.size → ¬ B ≤ k → w'.heap[k]? = wr.heap[k]?) : PV w w' B n v' l' := by
  have hle := h.le
  have hBl := h.hB
  exact ⟨⟨h1.trans h.ext.os, h2.trans h.ext.tape, h3.trans h.ext.output, Nat.le_trans h.ext.size h4, fun k hk => (h5 k (Nat.lt_of_lt_of_le hk h.ext.size) (by omega)).trans (h.ext.block hk)⟩, hq, hle, by omega⟩
theorem PV.drew {w wr : World} {B n : Nat} {v : Value} {l : List Int} (h : PV w wr B n v l) : PV w wr.drew B n v l := ⟨h.ext.drew_right, h.que.keep (fun _ _ _ => rfl) (Nat.le_refl _), h.le, h.hB⟩
set_option maxRecDepth 100000 in
set_option maxHeartbeats 4000000 in
theorem pTree_any (A : Option Addr) (n c : Nat) (xs : List Nx) (w : World) (hr : RX w A n c xs) (hn1 : 1 ≤ n) (hn : n ≤ 2400) (h5 : Hid (∀ k, k < n → (xth xs k).kids.length ≤ 5)) : Calls Try.prog 82 #[.slice A n c] w (Give (.bool (treeB xs)) w) := by
  have hl := hid hr.len
  have hm := RX.max hr
  have mk := mkF n (by omega)
  replace hr := hid hr
  have hR0 : Hid (PT w (newF w n) w.heap.size n (flg xs 0 0)) := by
    rw [flg_zero]
    exact ⟨newF_ext w n, newF_row w n, Nat.le_refl _⟩
  go_enter Try.func82, Try.ntmps82
  go_upto_region 3 with fail
  obtain ⟨g, hg⟩ : ∃ g, g = w.heap.size := ⟨_, rfl⟩
  rw [← hg] at hR0
  simp only [← hg]
  replace hg := hid hg
  generalize newF w n = w2 at *
  clear mk
  go_loopw [16] (fun i wr => ∃ k : Nat, k ≤ n ∧ i = .int .i64 k ∧ Hid (okP n (preK xs k 0)) ∧ Hid (PT w wr g n (flg xs k 0))) (fun i _ => n - (intOf i).toNat)
  case atStart => exact ⟨0, by omega, rfl, by unfold Hid; rw [preK_zero]; exact ⟨fun k hk => (by cases hk), List.Pairwise.nil⟩, hR0⟩
  case round =>
    clear hR0
    obtain ⟨k, hk, rfl, hok, hR⟩ := hrel
    rename World => w0
    by_cases hlt : k < n
    · obtain ⟨ad0, A1, c1, A2, c2, A3, c3, rfl, y0, y1, y2, -, -, r3⟩ := hr.out.at_ hlt
      have h5k := h5.out k hlt
      have hkl : Hid (k < xs.length) := by have := hl.out; unfold Hid; omega
      have hki : (k : Int) < (n : Int) := by omega
      replace r3 := hid r3
      have hx0 := hR.out.ext
      replace y0 := hx0.cell y0
      replace y1 := hx0.cell y1
      replace y2 := hx0.cell y2
      have hxa := (Ext.refl w0).alloc_right (.cells #[.slice A1 (xth xs k).keys.length c1, .slice A2 (xth xs k).recs.length c2, .slice A3 (xth xs k).kids.length c3] 69)
      replace hR := hid (hR.out.up hxa)
      go_upto_region 6 with fail
      clear y0 y1 y2 hx0 hxa
      generalize w0.alloc (.cells #[.slice A1 (xth xs k).keys.length c1, .slice A2 (xth xs k).recs.length c2, .slice A3 (xth xs k).kids.length c3] 69) = w0' at *
      go_loopw [23] (fun j wr => ∃ q : Nat, q ≤ (xth xs k).kids.length ∧ j = .int .i64 q ∧ Hid (okP n (preK xs k q)) ∧ Hid (PT w wr g n (flg xs k q))) (fun j _ => (xth xs k).kids.length - (intOf j).toNat)
      case atStart => exact ⟨0, by omega, rfl, hok, hR⟩
      case round =>
        clear hok hR
        obtain ⟨q, hq, rfl, hok, hR⟩ := hrel
        by_cases hqt : q < (xth xs k).kids.length
        · obtain ⟨kad, rfl, z2⟩ := rdi_at (r3.out.ext hR.out.ext) hqt
          obtain ⟨rs, hrs⟩ := preK_pre (j := q + 1) hkl.out hqt
          have hps := preK_step hqt
          have hno0 := hid (fun (hc : ¬ (1 ≤ ith (xth xs k).kids q ∧ ith (xth xs k).kids q < (n : Int) ∧ ith (xth xs k).kids q ∉ preK xs k q)) => treeB_false (xs := xs) (fun ht => hc (by
            have h1 := ht.1
            rw [hl.out, hrs, hps] at h1
            exact (okP_snoc hok.out).1 (okP_app h1))))
          have hok1 := hid (fun h => (okP_snoc (n := n) (k := ith (xth xs k).kids q) hok.out).2 h)
          have hfl := hid (fun (m : Nat) (hm : ith (xth xs k).kids q = (m : Int)) => flg_step hqt hm)
          rw [← hps] at hok1
          have hqk : (q : Int) < ((xth xs k).kids.length : Int) := by omega
          have hki2 := IntWalk.i64_in ((q : Int) + 1) (by omega)
          clear hrs hps
          generalize ith (xth xs k).kids q = u at *
          by_cases h1 : u < 1
          · have hno := hid (hno0.out (fun h => by omega))
            clear hno0 hok1 hfl hok
            go_wp2
            go_ret
            exact ⟨ret_bool hno.out.symm, hR.out.ext⟩
          · by_cases h2 : (n : Int) ≤ u
            · have hno := hid (hno0.out (fun h => by omega))
              clear hno0 hok1 hfl hok
              go_wp2
              go_ret
              exact ⟨ret_bool hno.out.symm, hR.out.ext⟩
            · obtain ⟨m, rfl⟩ : ∃ m : Nat, u = (m : Int) := ⟨u.toNat, by omega⟩
              have hmn : m < n := by omega
              have zf := rowF_cell hR.out.row hmn
              have zg := Lib.frozen_of_heap hR.out.row m
              have lg := World.block_lt_of_cell? _ _ zf
              dsimp only at lg
              have hRs := hid (hR.out.set (hfl.out m rfl))
              cases hfm : flg xs k q m with
              | true =>
                have hno := hid (hno0.out (fun h => h.2.2 (flg_mem.1 hfm)))
                rw [hfm] at zf
                clear hno0 hok1 hfl hok hRs hfm
                go_wp2
                go_ret
                exact ⟨ret_bool hno.out.symm, hR.out.ext⟩
              | false =>
                have hok2 := hid (hok1.out ⟨by omega, by omega, fun hc => by rw [flg_mem.2 hc] at hfm; cases hfm⟩)
                rw [hfm] at zf
                clear hno0 hok1 hfl hok hfm
                go_wp2
                go_roundw
                case rel => exact ⟨q + 1, by omega, by go_num, hok2, hRs⟩
                case measure => simp [intOf]; omega
        · obtain rfl : q = (xth xs k).kids.length := by omega
          have hok2 : Hid (okP n (preK xs (k + 1) 0)) := by unfold Hid; rw [← preK_next hkl.out]; exact hok.out
          have hR2 : Hid (PT w wr g n (flg xs (k + 1) 0)) := by unfold Hid; rw [← flg_next hkl.out]; exact hR.out
          clear hok hR
          go_wp2
          go_roundw
          case rel => exact ⟨k + 1, by omega, by go_num, hok2, hR2⟩
          case measure => simp [intOf]; omega
    · obtain rfl : n = k := by omega
      clear hlt
      have okA : Hid (okP xs.length (allK xs)) := by unfold Hid; rw [← preK_all xs, hl.out]; exact hok.out
      obtain ⟨ad0, -, -, -, -, -, -, rfl, -⟩ := hr.out.at_ (k := 0) (by omega)
      have hRV : Hid (PV w (w0.alloc (.cells #[.int .i64 0] 3)) w0.heap.size n (.slice (some ⟨w0.heap.size, 0, none⟩) 1 1) [0]) := by
        have hxn := (Ext.refl w0).alloc_right (.cells #[.int .i64 0] 3)
        have hq0 := heap_alloc_new w0 (.cells #[.int .i64 0] 3)
        refine ⟨hR.out.ext.trans hxn, ⟨_, _, 0, 1, rfl, ⟨Nat.le_refl _, by decide, fun _ => rfl, fun _ => (Array.getElem?_eq_some_iff.1 hq0).1, fun _ => Nat.le_refl _, fun j u hu => ?_, fun j hj => ?_⟩⟩, hR.out.ext.size, by simp⟩
        · rw [Nat.zero_add, Lib.cell_of_heap hq0]
          have hu2 : ([Value.int .i64 0] : List Value)[j]? = some u := hu
          simpa using hu2
        · obtain rfl : j = 0 := by omega
          rw [Nat.zero_add]
          exact ⟨by rw [Lib.cell_of_heap hq0]; rfl, Lib.frozen_of_heap hq0 0⟩
      clear hR hok
      go_upto_region 15 with fail
      obtain ⟨g2, hg2⟩ : ∃ g2, g2 = w0.heap.size := ⟨_, rfl⟩
      rw [← hg2] at hRV
      simp only [← hg2]
      replace hg2 := hid hg2
      generalize w0.alloc (.cells #[.int .i64 0] 3) = w3 at *
      go_loopw [8, 9] (fun m q wr => ∃ (V todo : List Nat) (Aq : Option Addr) (cq : Nat), m = .int .i64 V.length ∧ q = .slice Aq todo.length cq ∧ Hid (Vis xs V todo) ∧ Hid (PV w wr g2 n (.slice Aq todo.length cq) (toI todo))) (fun m _ _ => n - (intOf m).toNat)
      case atStart => exact ⟨[], [0], _, _, rfl, rfl, Vis.start, hRV⟩
      case round =>
        clear hRV
        obtain ⟨V, todo, Aq, cq, rfl, rfl, hV, hR⟩ := hrel
        have hle2 := hV.out.le2 okA.out (by rw [hl.out]; omega)
        rw [hl.out] at hle2
        rcases List.eq_nil_or_concat todo with rfl | ⟨rest, k, rfl⟩
        · have htr := hV.out.tree okA.out (by rw [hl.out]; omega)
          rw [hl.out] at htr
          replace htr := hid htr
          clear hV
          go_wp2
          go_ret
          refine ⟨ret_bool ?_, hR.out.ext⟩
          rw [← htr.out]
          rw [Bool.eq_iff_iff, decide_eq_true_iff]
          simp [Int.ofNat_inj]
        · rw [List.concat_eq_append] at hV hR hle2 ⊢
          have hst := hV.out.step okA.out (k := k) (rest := rest) List.perm_append_comm
          have hV2 := hid hst.1
          have hkn : k < n := by have := hV.out.lt okA.out (by rw [hl.out]; omega) k (by simp); rw [hl.out] at this; exact this
          have hki : (k : Int) < (n : Int) := by omega
          have hlen1 : (rest ++ [k]).length = rest.length + 1 := by simp
          have htoI : toI (rest ++ [k]) = toI rest ++ [(k : Int)] := by simp [toI]
          rw [hlen1] at hle2 hR ⊢
          rw [htoI] at hR
          have hrl : Hid ((toI rest).length = rest.length) := by simp [Hid, toI]
          obtain ⟨qa, rfl, zq, hqn, hc1, hcm, hq2⟩ := Que.last (x := (k : Int)) (l := toI rest) hR.out.que
          rw [hrl.out] at zq hq2
          obtain ⟨ad0', A1, c1, A2, c2, A3, c3, hA, y0, y1, y2, -, -, r3⟩ := hr.out.at_ hkn
          injection hA with hA
          subst hA
          have hkl3 := h5.out k hkn
          have hln : Hid ((V ++ [k]).length = V.length + 1) := by simp [Hid]
          replace y2 := hR.out.ext.cell y2
          have htk := hid (toI_kd okA.out k)
          have hwi := IntWalk.i64_in ((V.length : Int) + 1) (by omega)
          have hwr : IntKind.i64.wrap ((rest.length : Int) + 1 - 1) = (rest.length : Int) := by rw [show (rest.length : Int) + 1 - 1 = rest.length by omega]; exact IntWalk.i64_in _ (by omega)
          have hwr2 : IntKind.i64.wrap (rest.length : Int) = (rest.length : Int) := IntWalk.i64_in _ (by omega)
          have hri : (rest.length : Int) ≤ (cq : Int) := by omega
          have hri2 : (rest.length : Int) + 1 ≤ (cq : Int) := by omega
          have lqa := World.block_lt_of_cell? _ _ zq
          have hPV : Hid (PV w wr g2 n (.slice (some qa) rest.length cq) (toI rest)) := ⟨hR.out.ext, hq2, hR.out.le, hR.out.hB⟩
          clear hV hst hqn hq2 y0 y1 hlen1 htoI hR
          go_upto_region 17 with fail
          have I0 : (fun w' : World => w'.cell? ⟨(ad0.add (k * 3)).block, (ad0.add (k * 3)).off + 2, none⟩ = some (.slice A3 (xth xs k).kids.length c3)) wr.drew := y2
          refine region_J (fun w' : World => w'.cell? ⟨(ad0.add (k * 3)).block, (ad0.add (k * 3)).off + 2, none⟩ = some (.slice A3 (xth xs k).kids.length c3)) 12 (by kernel_rfl) ?_
          replace hPV := hid hPV.out.drew
          have r4 : Hid (RdI wr.drew A3 (xth xs k).kids.length c3 (xth xs k).kids) := r3.ext hPV.out.ext
          obtain ⟨v', w', happ, hq4, h4a, h4b, h4c, h4d, h4e⟩ := hPV.out.que.append (fun g hg => by have := hPV.out.hB; omega) r4.out (by rw [hrl.out]; omega) 23
          have hRV1 := hid (hPV.out.app hq4 h4a h4b h4c h4d h4e)
          obtain ⟨Ax, cx, rfl, -⟩ := hq4.form
          have I1 : (fun w' : World => w'.cell? ⟨(ad0.add (k * 3)).block, (ad0.add (k * 3)).off + 2, none⟩ = some (.slice A3 (xth xs k).kids.length c3)) w' := by
            obtain ⟨ad9, -, -, -, -, B3, d3, hA, -, -, y9, -, -, -⟩ := hr.out.at_ hkn
            injection hA with hA
            subst hA
            have h9 := hPV.out.ext.cell y9
            have h8 : wr.drew.cell? ⟨(ad0.add (k * 3)).block, (ad0.add (k * 3)).off + 2, none⟩ = some (.slice A3 (xth xs k).kids.length c3) := I0
            rw [h8] at h9
            injection h9 with h9
            have := hRV1.out.ext.cell y9
            rw [← h9] at this
            exact this
          replace happ := hid happ
          clear hPV hq4 h4a h4b h4c h4d h4e r3 r4 zq y2
          generalize wr.drew = w9 at *
          refine J_takeO 0 (v := ?vt0) rfl (by kernel_rfl) (by kernel_rfl) (by kernel_rfl) (by kernel_rfl) (fun _ _ _ h => h) (Or.inl ⟨by rfl, ?yt0⟩) I0 ?rt0
          case yt0 => (intro w hSw; have := hSw; (go_simp; with_reducible rfl))
          simp only [Act.put, List.getElem_toArray, List.getElem_cons_zero, List.getElem_cons_succ, List.setIfInBounds_toArray, List.set_cons_zero, List.set_cons_succ]
          refine J_takeO 1 (v := ?vt1) rfl (by kernel_rfl) (by kernel_rfl) (by kernel_rfl) (by kernel_rfl) (fun _ _ _ h => h) (Or.inl ⟨by rfl, ?yt1⟩) I0 ?rt1
          case yt1 => (intro w hSw; have := hSw; (go_simp; with_reducible rfl))
          simp only [Act.put, List.getElem_toArray, List.getElem_cons_zero, List.getElem_cons_succ, List.setIfInBounds_toArray, List.set_cons_zero, List.set_cons_succ]
          refine J_takeO 2 (v := ?vt2) rfl (by kernel_rfl) (by kernel_rfl) (by kernel_rfl) (by kernel_rfl) (fun _ _ _ h => h) (Or.inl ⟨by rfl, ?yt2⟩) I0 ?rt2
          case yt2 => (intro w hSw; have := hSw; (go_simp; with_reducible rfl))
          simp only [Act.put, List.getElem_toArray, List.getElem_cons_zero, List.getElem_cons_succ, List.setIfInBounds_toArray, List.set_cons_zero, List.set_cons_succ]
          refine J_takeO 3 (v := ?vt3) rfl (by kernel_rfl) (by kernel_rfl) (by kernel_rfl) (by kernel_rfl) (fun _ _ _ h => h) (Or.inl ⟨by rfl, ?yt3⟩) I0 ?rt3
          case yt3 => (intro w hSw; have := hSw; (go_simp; with_reducible rfl))
          simp only [Act.put, List.getElem_toArray, List.getElem_cons_zero, List.getElem_cons_succ, List.setIfInBounds_toArray, List.set_cons_zero, List.set_cons_succ]
          refine J_takeO 4 (v := ?vt4) rfl (by kernel_rfl) (by kernel_rfl) (by kernel_rfl) (by kernel_rfl) (fun _ _ _ h => h) (Or.inl ⟨by rfl, ?yt4⟩) I0 ?rt4
          case yt4 => (intro w hSw; have := hSw; (go_simp; with_reducible rfl))
          simp only [Act.put, List.getElem_toArray, List.getElem_cons_zero, List.getElem_cons_succ, List.setIfInBounds_toArray, List.set_cons_zero, List.set_cons_succ]
          refine J_takeO 5 (v := ?vt5) rfl (by kernel_rfl) (by kernel_rfl) (by kernel_rfl) (by kernel_rfl) (fun _ _ _ h => h) (Or.inl ⟨by rfl, ?yt5⟩) I0 ?rt5
          case yt5 => (intro w hSw; have := hSw; (go_simp; with_reducible rfl))
          simp only [Act.put, List.getElem_toArray, List.getElem_cons_zero, List.getElem_cons_succ, List.setIfInBounds_toArray, List.set_cons_zero, List.set_cons_succ]
          refine J_takeO 6 (v := ?vt6) rfl (by kernel_rfl) (by kernel_rfl) (by kernel_rfl) (by kernel_rfl) (fun _ _ _ h => h) (Or.inl ⟨by rfl, ?yt6⟩) I0 ?rt6
          case yt6 => (intro w hSw; have := hSw; (go_simp; with_reducible rfl))
          simp only [Act.put, List.getElem_toArray, List.getElem_cons_zero, List.getElem_cons_succ, List.setIfInBounds_toArray, List.set_cons_zero, List.set_cons_succ]
          refine J_takeO 7 (v := ?vt7) rfl (by kernel_rfl) (by kernel_rfl) (by kernel_rfl) (by kernel_rfl) (fun _ _ _ h => h) (Or.inl ⟨by rfl, ?yt7⟩) I0 ?rt7
          case yt7 => (intro w hSw; have := hSw; (go_simp; with_reducible rfl))
          simp only [Act.put, List.getElem_toArray, List.getElem_cons_zero, List.getElem_cons_succ, List.setIfInBounds_toArray, List.set_cons_zero, List.set_cons_succ]
          refine J_takeO 8 (v := ?vt8) rfl (by kernel_rfl) (by kernel_rfl) (by kernel_rfl) (by kernel_rfl) (fun _ _ _ h => h) (Or.inl ⟨by rfl, ?yt8⟩) I0 ?rt8
          case yt8 => (intro w hSw; have := hSw; (go_simp; with_reducible rfl))
          simp only [Act.put, List.getElem_toArray, List.getElem_cons_zero, List.getElem_cons_succ, List.setIfInBounds_toArray, List.set_cons_zero, List.set_cons_succ]
          refine J_takeO 9 (v := ?vt9) rfl (by kernel_rfl) (by kernel_rfl) (by kernel_rfl) (by kernel_rfl) (fun _ _ _ h => h) (Or.inl ⟨by rfl, ?yt9⟩) I0 ?rt9
          case yt9 => (intro w hSw; have := hSw; (go_simp; with_reducible rfl))
          simp only [Act.put, List.getElem_toArray, List.getElem_cons_zero, List.getElem_cons_succ, List.setIfInBounds_toArray, List.set_cons_zero, List.set_cons_succ]
          refine J_one 10 rfl (by kernel_rfl) (fun K hK => ?_)
          refine step_run rfl _ (ex_append _ _ _ _ rfl _ _ (by simp [Act.eval, Act.put]) (by simp [Act.eval, Act.put]) _ happ.out) ?_
          refine hK _ _ ⟨fun _ => I1, ?_⟩
          clear hK K happ
          try simp only [Act.put, List.getElem_toArray, List.getElem_cons_zero, List.getElem_cons_succ, List.setIfInBounds_toArray, List.set_cons_zero, List.set_cons_succ]
          refine J_one 11 rfl (by kernel_rfl) (fun K hK => ?_)
          go_simp
          refine hK _ _ ⟨fun _ => I1, ?_⟩
          clear hK K
          refine J_done (by kernel_rfl) (OnlyOn.normal ?_)
          clear I0 I1
          go_wp2_with fail
          go_roundw
          case rel =>
            refine ⟨V ++ [k], rest ++ kd xs k, Ax, cx, by rw [hln.out]; go_num, ?_, hV2, ?_⟩
            · congr 1
              simp [toI, kd_len]
            · have h9 := hRV1.out
              rw [← htk.out] at h9
              have e9 : toI rest ++ toI (kd xs k) = toI (rest ++ kd xs k) := by simp [toI]
              rw [e9] at h9
              have e8 : (toI (rest ++ kd xs k)).length = (rest ++ kd xs k).length := by simp [toI]
              rw [e8] at h9
              exact h9
          case measure => simp [intOf]; omega
end Go.Proofs.Ytpijfiaecicpfaa
