/-
  The reference's depths; The reference's isTree; Two rows that grow side by side, of texts and of numbers.
-/
import Derived.Test.YtpijfiaecicpfaaGreatQ6
import Derived.Maps.AppendAt
set_option maxRecDepth 100000
set_option maxHeartbeats 40000000
set_option linter.unusedVariables false
set_option linter.unusedSimpArgs false
namespace Go.Proofs.YtpijfiaecicpfaaGreat
open Go.RowKit Go.Shelf
def newF (w : World) (k : Nat) : World := w.alloc (.cells (madeCells #[.bool false] (k * 1)) 4)
theorem newF_ext (w : World) (k : Nat) : Ext w (newF w k) := (Ext.refl w).alloc_right _
theorem newF_size (w : World) (k : Nat) : (newF w k).heap.size = w.heap.size + 1 := by simp [newF]
theorem newF_row (w : World) (k : Nat) : (newF w k).heap[w.heap.size]? = some (.cells (rowF k (fun _ => false)).toArray 4 (0, 0)) := by
  have h := heap_alloc_new w (.cells (madeCells #[.bool false] (k * 1)) 4)
  unfold newF
  rw [h]
  have e : madeCells #[.bool false] (k * 1) = (rowF k (fun _ => false)).toArray := by
    apply Array.ext
    · simp [madeCells, rowF]
    · intro i h1 h2
      simp [madeCells, rowF, Nat.mod_one]
  rw [e]
theorem infoBo : (Tryz.prog.info? 4).map (fun i => (i.zero, i.size, i.bytes)) = some (some (.bool false), 1, 1) := by kernel_rfl
theorem mkF (n : Nat) (hn : n ≤ 1000000) (wx : World) : (Instr.makeSlice 123 (.int .i64 (n : Int)) (.int .i64 (n : Int))).run Tryz.prog wx = .ok (.slice (some ⟨wx.heap.size, 0, none⟩) n n) (newF wx n) := by
  obtain ⟨i0, hi, hz0, hz1, hz2⟩ := info_parts infoBo
  have h := run_makeSlice (P := Tryz.prog) wx 123 4 i0 (.bool false) Tryz.underlying123 hi hz0 .i64 .i64 (n : Int) (n : Int) (by omega) (by omega) (by rw [hz1]; omega) (by rw [hz2]; omega) (by omega)
  rw [hz1] at h
  simp only [Int.toNat_natCast] at h
  exact h
def flg (xs : List Nx) (i j : Nat) : Nat → Bool := fun u => (preK xs i j).contains (u : Int)
theorem flg_zero (xs : List Nx) : flg xs 0 0 = fun _ => false := by funext u; unfold flg; rw [preK_zero]; rfl
theorem flg_next {xs : List Nx} {i : Nat} (hi : i < xs.length) : flg xs i (xth xs i).kids.length = flg xs (i + 1) 0 := by funext u; unfold flg; rw [preK_next hi]
theorem flg_step {xs : List Nx} {i j m : Nat} (hj : j < (xth xs i).kids.length) (hm : ith (xth xs i).kids j = (m : Int)) (k : Nat) : flg xs i (j + 1) k = (flg xs i j k || decide (k = m)) := by
  unfold flg
  rw [preK_step hj, hm]
  simp [List.contains_eq_any_beq, List.any_append]
  by_cases h : k = m
  · subst h; simp
  · simp [h, show ¬ (k : Int) = (m : Int) by omega]
theorem flg_mem {xs : List Nx} {i j m : Nat} : flg xs i j m = true ↔ (m : Int) ∈ preK xs i j := by unfold flg; simp
structure RT (w wr : World) (b g : Nat) (A : Option Addr) (n c : Nat) (f : Nat → Bool) : Prop where
  ext : Ext w wr
  box : wr.cell? ⟨b, 0, none⟩ = some (.slice A n c)
  row : wr.heap[g]? = some (.cells (rowF n f).toArray 4 (0, 0))
  le : w.heap.size ≤ g
  ne : b ≠ g
theorem RT.set {w wr : World} {b g n c m : Nat} {A : Option Addr} {f f' : Nat → Bool} (h : RT w wr b g A n c f) (hf : ∀ k, f' k = (f k || decide (k = m))) : RT w (wr.setCell ⟨g, m, none⟩ (.bool true)) b g A n c f' :=
  ⟨h.ext.set (p := ⟨g, m, none⟩) h.le _, cell_far h.box (fun e => h.ne e.symm), rowF_set h.row (fun j _ => hf j), h.le, h.ne⟩
theorem RT.drew {w wr : World} {b g n c : Nat} {A : Option Addr} {f : Nat → Bool} (h : RT w wr b g A n c f) : RT w wr.drew b g A n c f := ⟨h.ext.drew_right, h.box, h.row, h.le, h.ne⟩
structure RV (w wr : World) (b g B : Nat) (A : Option Addr) (n c : Nat) (V : List Nat) (v : Value) (l : List Int) : Prop where
  rt : RT w wr b g A n c (fun k => V.contains k)
  que : Que wr (fun k => B ≤ k) v l
  hb : b < B
  hg : g < B
  hB : B ≤ wr.heap.size
theorem wpList_app {P : Program} {w w' : World} {ops : Array Oper} {rest : List Oper} {o : Oper} {a : Act} {Q : Exit → Act → World → Prop} (hgd : o.guard = none) (s x : Operand) (t tn : TypeId) (ho : o.op = .call { callee := .builtin .append, args := #[s, x], argTypes := #[t, tn] }) (vs vx : Value) (hs : a.eval s = vs) (hx : a.eval x = vx)
    (v' : Value) (hr : (Builtin.append_ #[t, tn] o.type #[vs, vx]).run P w = .ok v' w') (h : wpList P ops Q rest (a.put o.dst v') w') : wpList P ops Q (o :: rest) a w :=
  wpList_plain hgd fun _ hK => by
    unfold Oper.wp
    rw [ex_append s x t tn ho vs vx hs hx v' hr]
    exact hK _ _ h
theorem RV.app {w wr w' : World} {b g B n c : Nat} {A : Option Addr} {V : List Nat} {v v' : Value} {l l' : List Int} (h : RV w wr b g B A n c V v l) (hq : Que w' (fun k => B ≤ k) v' l') (h1 : w'.os = wr.os) (h2 : w'.tape = wr.tape) (h3 : w'.output = wr.output) (h4 : wr.heap.size ≤ w'.heap.size) (h5 : ∀ k, k < wr.heap.size → ¬ B ≤ k → w'.heap[k]? = wr.heap[k]?) : RV w w' b g B A n c V v' l' := by
  have hbl := h.hb
  have hgl := h.hg
  have hBl := h.hB
  have hle := h.rt.le
  refine ⟨⟨⟨h1.trans h.rt.ext.os, h2.trans h.rt.ext.tape, h3.trans h.rt.ext.output, Nat.le_trans h.rt.ext.size h4, fun k hk => (h5 k (Nat.lt_of_lt_of_le hk h.rt.ext.size) (by omega)).trans (h.rt.ext.block hk)⟩, (World.cell?_of_block (a := ⟨b, 0, none⟩) (h5 b (by omega) (by omega))).trans h.rt.box, (h5 g (by omega) (by omega)).trans h.rt.row, hle, h.rt.ne⟩, hq, hbl, hgl, by omega⟩
def toI (l : List Nat) : List Int := l.map fun (k : Nat) => (k : Int)
theorem toI_kd {xs : List Nx} (ok : okP xs.length (allK xs)) (k : Nat) : toI (kd xs k) = (xth xs k).kids := by
  unfold toI kd
  rw [List.map_map]
  conv => rhs; rw [← List.map_id (xth xs k).kids]
  apply List.map_congr_left
  intro x hx
  have hk : k < xs.length := by
    rcases Nat.lt_or_ge k xs.length with h1 | h1
    · exact h1
    · rw [xth_out h1] at hx; cases hx
  have := ok.1 x (List.mem_flatMap.2 ⟨xs[k], List.getElem_mem hk, by rw [← xth_get hk]; exact hx⟩)
  show ((x.toNat : Nat) : Int) = x
  omega
theorem rTree_any (A : Option Addr) (n c : Nat) (xs : List Nx) (w : World) (hr : RX w A n c xs) (hn1 : 1 ≤ n) (hn : n ≤ 2400) (h5 : Hid (∀ k, k < n → (xth xs k).kids.length ≤ 5)) : Calls Tryz.prog 78 #[.agg #[.slice A n c]] w (Give (.bool (treeB xs)) w) := by
  have hl := hid hr.len
  have hm := RX.max hr
  have mk := mkF n (by omega)
  have hx1 := hid ((Ext.refl w).alloc_right (.cells #[.slice A n c] 40))
  have hb0 := heap_alloc_new w (.cells #[.slice A n c] 40)
  have zb : (w.alloc (.cells #[.slice A n c] 40)).cell? ⟨w.heap.size, 0, none⟩ = some (.slice A n c) := by rw [Lib.cell_of_heap hb0]; rfl
  have lb := World.block_lt_of_cell? _ _ zb
  dsimp only at lb
  replace hr := hid hr
  go_enter Tryz.func78, Tryz.ntmps78
  go_upto_region 1 with fail
  obtain ⟨b, hb⟩ : ∃ b, b = w.heap.size := ⟨_, rfl⟩
  rw [← hb] at zb lb
  simp only [← hb]
  replace hb := hid hb
  clear hb0
  generalize w.alloc (.cells #[.slice A n c] 40) = w1 at *
  have hR0 : Hid (RT w (newF w1 n) b w1.heap.size A n c (flg xs 0 0)) := by
    rw [flg_zero]
    exact ⟨hx1.out.trans (newF_ext w1 n), (newF_ext w1 n).cell zb, newF_row w1 n, hx1.out.size, by omega⟩
  obtain ⟨g, hg⟩ : ∃ g, g = w1.heap.size := ⟨_, rfl⟩
  rw [← hg] at hR0
  have hgn : Hid ((newF w1 n).heap.size = g + 1) := by unfold Hid; rw [newF_size, hg]
  go_upto_region 3 with fail
  simp only [← hg]
  clear lb zb hx1
  replace hg := hid hg
  generalize newF w1 n = w2 at *
  clear mk
  go_loopw [4] (fun i wr => ∃ k : Nat, k ≤ n ∧ i = .int .i64 k ∧ Hid (okP n (preK xs k 0)) ∧ Hid (RT w wr b g A n c (flg xs k 0))) (fun i _ => n - (intOf i).toNat)
  case atStart => exact ⟨0, by omega, rfl, by unfold Hid; rw [preK_zero]; exact ⟨fun k hk => (by cases hk), List.Pairwise.nil⟩, hR0⟩
  case round =>
    clear hR0 hgn
    obtain ⟨k, hk, rfl, hok, hR⟩ := hrel
    rename World => w0
    have zb := hR.out.box
    have lb := World.block_lt_of_cell? _ _ zb
    dsimp only at lb
    by_cases hlt : k < n
    · obtain ⟨ad0, A1, c1, A2, c2, A3, c3, rfl, y0, y1, y2, -, -, r3⟩ := hr.out.at_ hlt
      have h5k := h5.out k hlt
      have hkl : Hid (k < xs.length) := by have := hl.out; unfold Hid; omega
      replace r3 := hid r3
      have hx0 := hR.out.ext
      replace y2 := hx0.cell y2
      clear y0 y1
      go_upto_region 7 with fail
      clear y2 hx0
      go_loopw [6] (fun j wr => ∃ q : Nat, q ≤ (xth xs k).kids.length ∧ j = .int .i64 q ∧ Hid (okP n (preK xs k q)) ∧ Hid (RT w wr b g (some ad0) n c (flg xs k q))) (fun j _ => (xth xs k).kids.length - (intOf j).toNat)
      case atStart => exact ⟨0, by omega, rfl, hok, hR⟩
      case round =>
        clear hok hR zb lb
        obtain ⟨q, hq, rfl, hok, hR⟩ := hrel
        have zb := hR.out.box
        have lb := World.block_lt_of_cell? _ _ zb
        dsimp only at lb
        by_cases hqt : q < (xth xs k).kids.length
        · obtain ⟨kad, rfl, z2⟩ := rdi_at (r3.out.ext hR.out.ext) hqt
          obtain ⟨rs, hrs⟩ := preK_pre (j := q + 1) hkl.out hqt
          have hps := preK_step hqt
          have hno0 := hid (fun (hc : ¬ (1 ≤ ith (xth xs k).kids q ∧ ith (xth xs k).kids q < (n : Int) ∧ ith (xth xs k).kids q ∉ preK xs k q)) => treeB_false (xs := xs) (fun ht => hc (by
            have h1 := ht.1
            rw [hl.out, hrs, hps] at h1
            exact (okP_snoc hok.out).1 (okP_app h1))))
          have hok1 := hid (fun h => (okP_snoc (n := n) (k := ith (xth xs k).kids q) hok.out).2 h)
          have hfl := hid (fun (m : Nat) (hm : ith (xth xs k).kids q = (m : Int)) => flg_step hqt hm)
          rw [← hps] at hok1
          have hqk : (q : Int) < ((xth xs k).kids.length : Int) := by omega
          have hki := IntWalk.i64_in ((q : Int) + 1) (by omega)
          have hR9 := hid hR.out.drew
          clear hrs hps
          generalize ith (xth xs k).kids q = u at *
          by_cases h1 : u < 1
          · have hno := hid (hno0.out (fun h => by omega))
            clear hno0 hok1 hfl hok hR
            go_upto_region 9 with fail
            have I0 : (fun w' : World => w'.cell? ⟨b, 0, none⟩ = some (.slice (some ad0) n c) ∧ w'.cell? (kad.add q) = some (.int .i64 u)) wr.drew := ⟨zb, z2⟩
            refine region_J (fun w' : World => w'.cell? ⟨b, 0, none⟩ = some (.slice (some ad0) n c) ∧ w'.cell? (kad.add q) = some (.int .i64 u)) 24 (by kernel_rfl) ?_
            clear zb z2
            generalize wr.drew = w9 at *
            refine JO 0 (v := ?va0) I0 ?ya0 ?ra0
            case ya0 => (intro w h; obtain ⟨_, _⟩ := h; go_simp; with_reducible rfl)
            simp only [Act.put, lyA, lyB, lyC, lyD, lyE, lyF]
            refine JO 1 (v := ?va1) I0 ?ya1 ?ra1
            case ya1 => (intro w h; obtain ⟨_, _⟩ := h; go_simp; with_reducible rfl)
            simp only [Act.put, lyA, lyB, lyC, lyD, lyE, lyF]
            refine JO 2 (v := ?va2) I0 ?ya2 ?ra2
            case ya2 => (intro w h; obtain ⟨_, _⟩ := h; go_simp; with_reducible rfl)
            simp only [Act.put, lyA, lyB, lyC, lyD, lyE, lyF]
            refine JO 3 (v := ?va3) I0 ?ya3 ?ra3
            case ya3 => (intro w h; obtain ⟨_, _⟩ := h; go_simp; with_reducible rfl)
            simp only [Act.put, lyA, lyB, lyC, lyD, lyE, lyF]
            refine JO 4 (v := ?va4) I0 ?ya4 ?ra4
            case ya4 => (intro w h; obtain ⟨_, _⟩ := h; go_simp; with_reducible rfl)
            simp only [Act.put, lyA, lyB, lyC, lyD, lyE, lyF]
            refine JO 5 (v := ?va5) I0 ?ya5 ?ra5
            case ya5 => (intro w h; obtain ⟨_, _⟩ := h; go_simp; with_reducible rfl)
            simp only [Act.put, lyA, lyB, lyC, lyD, lyE, lyF]
            refine J_takeO 6 rfl (by kernel_rfl) (by kernel_rfl) (by kernel_rfl) (by kernel_rfl) (fun _ _ _ h => h) (Or.inr ⟨by rfl, rfl⟩) I0 ?_
            simp only [Act.put, lyA, lyB, lyC, lyD, lyE, lyF]
            refine J_takeO 7 rfl (by kernel_rfl) (by kernel_rfl) (by kernel_rfl) (by kernel_rfl) (fun _ _ _ h => h) (Or.inr ⟨by rfl, rfl⟩) I0 ?_
            simp only [Act.put, lyA, lyB, lyC, lyD, lyE, lyF]
            refine J_takeO 8 rfl (by kernel_rfl) (by kernel_rfl) (by kernel_rfl) (by kernel_rfl) (fun _ _ _ h => h) (Or.inr ⟨by rfl, rfl⟩) I0 ?_
            simp only [Act.put, lyA, lyB, lyC, lyD, lyE, lyF]
            refine J_takeO 9 rfl (by kernel_rfl) (by kernel_rfl) (by kernel_rfl) (by kernel_rfl) (fun _ _ _ h => h) (Or.inr ⟨by rfl, rfl⟩) I0 ?_
            simp only [Act.put, lyA, lyB, lyC, lyD, lyE, lyF]
            refine J_takeO 10 rfl (by kernel_rfl) (by kernel_rfl) (by kernel_rfl) (by kernel_rfl) (fun _ _ _ h => h) (Or.inr ⟨by rfl, rfl⟩) I0 ?_
            simp only [Act.put, lyA, lyB, lyC, lyD, lyE, lyF]
            refine J_takeO 11 rfl (by kernel_rfl) (by kernel_rfl) (by kernel_rfl) (by kernel_rfl) (fun _ _ _ h => h) (Or.inr ⟨by rfl, rfl⟩) I0 ?_
            simp only [Act.put, lyA, lyB, lyC, lyD, lyE, lyF]
            refine J_takeO 12 rfl (by kernel_rfl) (by kernel_rfl) (by kernel_rfl) (by kernel_rfl) (fun _ _ _ h => h) (Or.inr ⟨by rfl, rfl⟩) I0 ?_
            simp only [Act.put, lyA, lyB, lyC, lyD, lyE, lyF]
            refine J_takeO 13 rfl (by kernel_rfl) (by kernel_rfl) (by kernel_rfl) (by kernel_rfl) (fun _ _ _ h => h) (Or.inr ⟨by rfl, rfl⟩) I0 ?_
            simp only [Act.put, lyA, lyB, lyC, lyD, lyE, lyF]
            refine JO 14 (v := ?va14) I0 ?ya14 ?ra14
            case ya14 => (intro w h; obtain ⟨_, _⟩ := h; go_simp; with_reducible rfl)
            simp only [Act.put, lyA, lyB, lyC, lyD, lyE, lyF]
            refine JO 15 (v := ?va15) I0 ?ya15 ?ra15
            case ya15 => (intro w h; obtain ⟨_, _⟩ := h; go_simp; with_reducible rfl)
            simp only [Act.put, lyA, lyB, lyC, lyD, lyE, lyF]
            refine J_takeO 16 rfl (by kernel_rfl) (by kernel_rfl) (by kernel_rfl) (by kernel_rfl) (fun _ _ _ h => h) (Or.inr ⟨by rfl, rfl⟩) I0 ?_
            simp only [Act.put, lyA, lyB, lyC, lyD, lyE, lyF]
            refine J_takeO 17 rfl (by kernel_rfl) (by kernel_rfl) (by kernel_rfl) (by kernel_rfl) (fun _ _ _ h => h) (Or.inr ⟨by rfl, rfl⟩) I0 ?_
            simp only [Act.put, lyA, lyB, lyC, lyD, lyE, lyF]
            refine J_takeO 18 rfl (by kernel_rfl) (by kernel_rfl) (by kernel_rfl) (by kernel_rfl) (fun _ _ _ h => h) (Or.inr ⟨by rfl, rfl⟩) I0 ?_
            simp only [Act.put, lyA, lyB, lyC, lyD, lyE, lyF]
            refine J_takeO 19 rfl (by kernel_rfl) (by kernel_rfl) (by kernel_rfl) (by kernel_rfl) (fun _ _ _ h => h) (Or.inr ⟨by rfl, rfl⟩) I0 ?_
            simp only [Act.put, lyA, lyB, lyC, lyD, lyE, lyF]
            refine J_takeO 20 rfl (by kernel_rfl) (by kernel_rfl) (by kernel_rfl) (by kernel_rfl) (fun _ _ _ h => h) (Or.inr ⟨by rfl, rfl⟩) I0 ?_
            simp only [Act.put, lyA, lyB, lyC, lyD, lyE, lyF]
            refine J_takeO 21 rfl (by kernel_rfl) (by kernel_rfl) (by kernel_rfl) (by kernel_rfl) (fun _ _ _ h => h) (Or.inr ⟨by rfl, rfl⟩) I0 ?_
            simp only [Act.put, lyA, lyB, lyC, lyD, lyE, lyF]
            refine J_takeO 22 rfl (by kernel_rfl) (by kernel_rfl) (by kernel_rfl) (by kernel_rfl) (fun _ _ _ h => h) (Or.inr ⟨by rfl, rfl⟩) I0 ?_
            simp only [Act.put, lyA, lyB, lyC, lyD, lyE, lyF]
            refine JO 23 (v := ?va23) I0 ?ya23 ?ra23
            case ya23 => (intro w h; obtain ⟨_, _⟩ := h; go_simp; with_reducible rfl)
            simp only [Act.put, lyA, lyB, lyC, lyD, lyE, lyF]
            refine J_done (by kernel_rfl) (OnlyOn.normal ?_)
            go_wp2
            go_ret
            exact ⟨ret_bool hno.out.symm, hR9.out.ext⟩
          · by_cases h2 : (n : Int) ≤ u
            · have hno := hid (hno0.out (fun h => by omega))
              clear hno0 hok1 hfl hok hR
              go_upto_region 9 with fail
              have I0 : (fun w' : World => w'.cell? ⟨b, 0, none⟩ = some (.slice (some ad0) n c) ∧ w'.cell? (kad.add q) = some (.int .i64 u)) wr.drew := ⟨zb, z2⟩
              refine region_J (fun w' : World => w'.cell? ⟨b, 0, none⟩ = some (.slice (some ad0) n c) ∧ w'.cell? (kad.add q) = some (.int .i64 u)) 24 (by kernel_rfl) ?_
              clear zb z2
              generalize wr.drew = w9 at *
              refine JO 0 (v := ?vb0) I0 ?yb0 ?rb0
              case yb0 => (intro w h; obtain ⟨_, _⟩ := h; go_simp; with_reducible rfl)
              simp only [Act.put, lyA, lyB, lyC, lyD, lyE, lyF]
              refine JO 1 (v := ?vb1) I0 ?yb1 ?rb1
              case yb1 => (intro w h; obtain ⟨_, _⟩ := h; go_simp; with_reducible rfl)
              simp only [Act.put, lyA, lyB, lyC, lyD, lyE, lyF]
              refine JO 2 (v := ?vb2) I0 ?yb2 ?rb2
              case yb2 => (intro w h; obtain ⟨_, _⟩ := h; go_simp; with_reducible rfl)
              simp only [Act.put, lyA, lyB, lyC, lyD, lyE, lyF]
              refine JO 3 (v := ?vb3) I0 ?yb3 ?rb3
              case yb3 => (intro w h; obtain ⟨_, _⟩ := h; go_simp; with_reducible rfl)
              simp only [Act.put, lyA, lyB, lyC, lyD, lyE, lyF]
              refine JO 4 (v := ?vb4) I0 ?yb4 ?rb4
              case yb4 => (intro w h; obtain ⟨_, _⟩ := h; go_simp; with_reducible rfl)
              simp only [Act.put, lyA, lyB, lyC, lyD, lyE, lyF]
              refine JO 5 (v := ?vb5) I0 ?yb5 ?rb5
              case yb5 => (intro w h; obtain ⟨_, _⟩ := h; go_simp; with_reducible rfl)
              simp only [Act.put, lyA, lyB, lyC, lyD, lyE, lyF]
              refine JO 6 (v := ?vb6) I0 ?yb6 ?rb6
              case yb6 => (intro w h; obtain ⟨_, _⟩ := h; go_simp; with_reducible rfl)
              simp only [Act.put, lyA, lyB, lyC, lyD, lyE, lyF]
              refine JO 7 (v := ?vb7) I0 ?yb7 ?rb7
              case yb7 => (intro w h; obtain ⟨_, _⟩ := h; go_simp; with_reducible rfl)
              simp only [Act.put, lyA, lyB, lyC, lyD, lyE, lyF]
              refine JO 8 (v := ?vb8) I0 ?yb8 ?rb8
              case yb8 => (intro w h; obtain ⟨_, _⟩ := h; go_simp; with_reducible rfl)
              simp only [Act.put, lyA, lyB, lyC, lyD, lyE, lyF]
              refine JO 9 (v := ?vb9) I0 ?yb9 ?rb9
              case yb9 => (intro w h; obtain ⟨_, _⟩ := h; go_simp; with_reducible rfl)
              simp only [Act.put, lyA, lyB, lyC, lyD, lyE, lyF]
              refine JO 10 (v := ?vb10) I0 ?yb10 ?rb10
              case yb10 => (intro w h; obtain ⟨_, _⟩ := h; go_simp; with_reducible rfl)
              simp only [Act.put, lyA, lyB, lyC, lyD, lyE, lyF]
              refine JO 11 (v := ?vb11) I0 ?yb11 ?rb11
              case yb11 => (intro w h; obtain ⟨_, _⟩ := h; go_simp; with_reducible rfl)
              simp only [Act.put, lyA, lyB, lyC, lyD, lyE, lyF]
              refine JO 12 (v := ?vb12) I0 ?yb12 ?rb12
              case yb12 => (intro w h; obtain ⟨_, _⟩ := h; go_simp; with_reducible rfl)
              simp only [Act.put, lyA, lyB, lyC, lyD, lyE, lyF]
              refine JO 13 (v := ?vb13) I0 ?yb13 ?rb13
              case yb13 => (intro w h; obtain ⟨_, _⟩ := h; go_simp; with_reducible rfl)
              simp only [Act.put, lyA, lyB, lyC, lyD, lyE, lyF]
              refine JO 14 (v := ?vb14) I0 ?yb14 ?rb14
              case yb14 => (intro w h; obtain ⟨_, _⟩ := h; go_simp; with_reducible rfl)
              simp only [Act.put, lyA, lyB, lyC, lyD, lyE, lyF]
              refine JO 15 (v := ?vb15) I0 ?yb15 ?rb15
              case yb15 => (intro w h; obtain ⟨_, _⟩ := h; go_simp; with_reducible rfl)
              simp only [Act.put, lyA, lyB, lyC, lyD, lyE, lyF]
              refine J_takeO 16 rfl (by kernel_rfl) (by kernel_rfl) (by kernel_rfl) (by kernel_rfl) (fun _ _ _ h => h) (Or.inr ⟨by rfl, rfl⟩) I0 ?_
              simp only [Act.put, lyA, lyB, lyC, lyD, lyE, lyF]
              refine J_takeO 17 rfl (by kernel_rfl) (by kernel_rfl) (by kernel_rfl) (by kernel_rfl) (fun _ _ _ h => h) (Or.inr ⟨by rfl, rfl⟩) I0 ?_
              simp only [Act.put, lyA, lyB, lyC, lyD, lyE, lyF]
              refine J_takeO 18 rfl (by kernel_rfl) (by kernel_rfl) (by kernel_rfl) (by kernel_rfl) (fun _ _ _ h => h) (Or.inr ⟨by rfl, rfl⟩) I0 ?_
              simp only [Act.put, lyA, lyB, lyC, lyD, lyE, lyF]
              refine J_takeO 19 rfl (by kernel_rfl) (by kernel_rfl) (by kernel_rfl) (by kernel_rfl) (fun _ _ _ h => h) (Or.inr ⟨by rfl, rfl⟩) I0 ?_
              simp only [Act.put, lyA, lyB, lyC, lyD, lyE, lyF]
              refine J_takeO 20 rfl (by kernel_rfl) (by kernel_rfl) (by kernel_rfl) (by kernel_rfl) (fun _ _ _ h => h) (Or.inr ⟨by rfl, rfl⟩) I0 ?_
              simp only [Act.put, lyA, lyB, lyC, lyD, lyE, lyF]
              refine J_takeO 21 rfl (by kernel_rfl) (by kernel_rfl) (by kernel_rfl) (by kernel_rfl) (fun _ _ _ h => h) (Or.inr ⟨by rfl, rfl⟩) I0 ?_
              simp only [Act.put, lyA, lyB, lyC, lyD, lyE, lyF]
              refine J_takeO 22 rfl (by kernel_rfl) (by kernel_rfl) (by kernel_rfl) (by kernel_rfl) (fun _ _ _ h => h) (Or.inr ⟨by rfl, rfl⟩) I0 ?_
              simp only [Act.put, lyA, lyB, lyC, lyD, lyE, lyF]
              refine JO 23 (v := ?vb23) I0 ?yb23 ?rb23
              case yb23 => (intro w h; obtain ⟨_, _⟩ := h; go_simp; with_reducible rfl)
              simp only [Act.put, lyA, lyB, lyC, lyD, lyE, lyF]
              refine J_done (by kernel_rfl) (OnlyOn.normal ?_)
              go_wp2
              go_ret
              exact ⟨ret_bool hno.out.symm, hR9.out.ext⟩
            · obtain ⟨m, rfl⟩ : ∃ m : Nat, u = (m : Int) := ⟨u.toNat, by omega⟩
              have hmn : m < n := by omega
              have zf := rowF_cell hR.out.row hmn
              have lg := World.block_lt_of_cell? _ _ zf
              dsimp only at lg
              have hRs := hid (hR9.out.set (hfl.out m rfl))
              cases hfm : flg xs k q m with
              | true =>
                have hno := hid (hno0.out (fun h => h.2.2 (flg_mem.1 hfm)))
                rw [hfm] at zf
                clear hno0 hok1 hfl hok hR hRs hfm
                go_upto_region 9 with fail
                have I0 : (fun w' : World => w'.cell? ⟨b, 0, none⟩ = some (.slice (some ad0) n c) ∧ w'.cell? (kad.add q) = some (.int .i64 (m : Int)) ∧ w'.cell? ⟨g, m, none⟩ = some (.bool true)) wr.drew := ⟨zb, z2, zf⟩
                refine region_J (fun w' : World => w'.cell? ⟨b, 0, none⟩ = some (.slice (some ad0) n c) ∧ w'.cell? (kad.add q) = some (.int .i64 (m : Int)) ∧ w'.cell? ⟨g, m, none⟩ = some (.bool true)) 24 (by kernel_rfl) ?_
                clear zb z2 zf
                generalize wr.drew = w9 at *
                refine JO 0 (v := ?vc0) I0 ?yc0 ?rc0
                case yc0 => (intro w h; obtain ⟨_, _, _⟩ := h; go_simp; with_reducible rfl)
                simp only [Act.put, lyA, lyB, lyC, lyD, lyE, lyF]
                refine JO 1 (v := ?vc1) I0 ?yc1 ?rc1
                case yc1 => (intro w h; obtain ⟨_, _, _⟩ := h; go_simp; with_reducible rfl)
                simp only [Act.put, lyA, lyB, lyC, lyD, lyE, lyF]
                refine JO 2 (v := ?vc2) I0 ?yc2 ?rc2
                case yc2 => (intro w h; obtain ⟨_, _, _⟩ := h; go_simp; with_reducible rfl)
                simp only [Act.put, lyA, lyB, lyC, lyD, lyE, lyF]
                refine JO 3 (v := ?vc3) I0 ?yc3 ?rc3
                case yc3 => (intro w h; obtain ⟨_, _, _⟩ := h; go_simp; with_reducible rfl)
                simp only [Act.put, lyA, lyB, lyC, lyD, lyE, lyF]
                refine JO 4 (v := ?vc4) I0 ?yc4 ?rc4
                case yc4 => (intro w h; obtain ⟨_, _, _⟩ := h; go_simp; with_reducible rfl)
                simp only [Act.put, lyA, lyB, lyC, lyD, lyE, lyF]
                refine JO 5 (v := ?vc5) I0 ?yc5 ?rc5
                case yc5 => (intro w h; obtain ⟨_, _, _⟩ := h; go_simp; with_reducible rfl)
                simp only [Act.put, lyA, lyB, lyC, lyD, lyE, lyF]
                refine JO 6 (v := ?vc6) I0 ?yc6 ?rc6
                case yc6 => (intro w h; obtain ⟨_, _, _⟩ := h; go_simp; with_reducible rfl)
                simp only [Act.put, lyA, lyB, lyC, lyD, lyE, lyF]
                refine JO 7 (v := ?vc7) I0 ?yc7 ?rc7
                case yc7 => (intro w h; obtain ⟨_, _, _⟩ := h; go_simp; with_reducible rfl)
                simp only [Act.put, lyA, lyB, lyC, lyD, lyE, lyF]
                refine JO 8 (v := ?vc8) I0 ?yc8 ?rc8
                case yc8 => (intro w h; obtain ⟨_, _, _⟩ := h; go_simp; with_reducible rfl)
                simp only [Act.put, lyA, lyB, lyC, lyD, lyE, lyF]
                refine JO 9 (v := ?vc9) I0 ?yc9 ?rc9
                case yc9 => (intro w h; obtain ⟨_, _, _⟩ := h; go_simp; with_reducible rfl)
                simp only [Act.put, lyA, lyB, lyC, lyD, lyE, lyF]
                refine JO 10 (v := ?vc10) I0 ?yc10 ?rc10
                case yc10 => (intro w h; obtain ⟨_, _, _⟩ := h; go_simp; with_reducible rfl)
                simp only [Act.put, lyA, lyB, lyC, lyD, lyE, lyF]
                refine JO 11 (v := ?vc11) I0 ?yc11 ?rc11
                case yc11 => (intro w h; obtain ⟨_, _, _⟩ := h; go_simp; with_reducible rfl)
                simp only [Act.put, lyA, lyB, lyC, lyD, lyE, lyF]
                refine JO 12 (v := ?vc12) I0 ?yc12 ?rc12
                case yc12 => (intro w h; obtain ⟨_, _, _⟩ := h; go_simp; with_reducible rfl)
                simp only [Act.put, lyA, lyB, lyC, lyD, lyE, lyF]
                refine JO 13 (v := ?vc13) I0 ?yc13 ?rc13
                case yc13 => (intro w h; obtain ⟨_, _, _⟩ := h; go_simp; with_reducible rfl)
                simp only [Act.put, lyA, lyB, lyC, lyD, lyE, lyF]
                refine JO 14 (v := ?vc14) I0 ?yc14 ?rc14
                case yc14 => (intro w h; obtain ⟨_, _, _⟩ := h; go_simp; with_reducible rfl)
                simp only [Act.put, lyA, lyB, lyC, lyD, lyE, lyF]
                refine JO 15 (v := ?vc15) I0 ?yc15 ?rc15
                case yc15 => (intro w h; obtain ⟨_, _, _⟩ := h; go_simp; with_reducible rfl)
                simp only [Act.put, lyA, lyB, lyC, lyD, lyE, lyF]
                refine JO 16 (v := ?vc16) I0 ?yc16 ?rc16
                case yc16 => (intro w h; obtain ⟨_, _, _⟩ := h; go_simp; with_reducible rfl)
                simp only [Act.put, lyA, lyB, lyC, lyD, lyE, lyF]
                refine JO 17 (v := ?vc17) I0 ?yc17 ?rc17
                case yc17 => (intro w h; obtain ⟨_, _, _⟩ := h; go_simp; with_reducible rfl)
                simp only [Act.put, lyA, lyB, lyC, lyD, lyE, lyF]
                refine JO 18 (v := ?vc18) I0 ?yc18 ?rc18
                case yc18 => (intro w h; obtain ⟨_, _, _⟩ := h; go_simp; with_reducible rfl)
                simp only [Act.put, lyA, lyB, lyC, lyD, lyE, lyF]
                refine JO 19 (v := ?vc19) I0 ?yc19 ?rc19
                case yc19 => (intro w h; obtain ⟨_, _, _⟩ := h; go_simp; with_reducible rfl)
                simp only [Act.put, lyA, lyB, lyC, lyD, lyE, lyF]
                refine JO 20 (v := ?vc20) I0 ?yc20 ?rc20
                case yc20 => (intro w h; obtain ⟨_, _, _⟩ := h; go_simp; with_reducible rfl)
                simp only [Act.put, lyA, lyB, lyC, lyD, lyE, lyF]
                refine JO 21 (v := ?vc21) I0 ?yc21 ?rc21
                case yc21 => (intro w h; obtain ⟨_, _, _⟩ := h; go_simp; with_reducible rfl)
                simp only [Act.put, lyA, lyB, lyC, lyD, lyE, lyF]
                refine JO 22 (v := ?vc22) I0 ?yc22 ?rc22
                case yc22 => (intro w h; obtain ⟨_, _, _⟩ := h; go_simp; with_reducible rfl)
                simp only [Act.put, lyA, lyB, lyC, lyD, lyE, lyF]
                refine JO 23 (v := ?vc23) I0 ?yc23 ?rc23
                case yc23 => (intro w h; obtain ⟨_, _, _⟩ := h; go_simp; with_reducible rfl)
                simp only [Act.put, lyA, lyB, lyC, lyD, lyE, lyF]
                refine J_done (by kernel_rfl) (OnlyOn.normal ?_)
                go_wp2
                go_ret
                exact ⟨ret_bool hno.out.symm, hR9.out.ext⟩
              | false =>
                have hok2 := hid (hok1.out ⟨by omega, by omega, fun hc => by rw [flg_mem.2 hc] at hfm; cases hfm⟩)
                rw [hfm] at zf
                clear hno0 hok1 hfl hok hR hfm
                go_upto_region 9 with fail
                have I0 : (fun w' : World => w'.cell? ⟨b, 0, none⟩ = some (.slice (some ad0) n c) ∧ w'.cell? (kad.add q) = some (.int .i64 (m : Int)) ∧ w'.cell? ⟨g, m, none⟩ = some (.bool false)) wr.drew := ⟨zb, z2, zf⟩
                refine region_J (fun w' : World => w'.cell? ⟨b, 0, none⟩ = some (.slice (some ad0) n c) ∧ w'.cell? (kad.add q) = some (.int .i64 (m : Int)) ∧ w'.cell? ⟨g, m, none⟩ = some (.bool false)) 24 (by kernel_rfl) ?_
                clear zb z2 zf
                generalize wr.drew = w9 at *
                refine JO 0 (v := ?vd0) I0 ?yd0 ?rd0
                case yd0 => (intro w h; obtain ⟨_, _, _⟩ := h; go_simp; with_reducible rfl)
                simp only [Act.put, lyA, lyB, lyC, lyD, lyE, lyF]
                refine JO 1 (v := ?vd1) I0 ?yd1 ?rd1
                case yd1 => (intro w h; obtain ⟨_, _, _⟩ := h; go_simp; with_reducible rfl)
                simp only [Act.put, lyA, lyB, lyC, lyD, lyE, lyF]
                refine JO 2 (v := ?vd2) I0 ?yd2 ?rd2
                case yd2 => (intro w h; obtain ⟨_, _, _⟩ := h; go_simp; with_reducible rfl)
                simp only [Act.put, lyA, lyB, lyC, lyD, lyE, lyF]
                refine JO 3 (v := ?vd3) I0 ?yd3 ?rd3
                case yd3 => (intro w h; obtain ⟨_, _, _⟩ := h; go_simp; with_reducible rfl)
                simp only [Act.put, lyA, lyB, lyC, lyD, lyE, lyF]
                refine JO 4 (v := ?vd4) I0 ?yd4 ?rd4
                case yd4 => (intro w h; obtain ⟨_, _, _⟩ := h; go_simp; with_reducible rfl)
                simp only [Act.put, lyA, lyB, lyC, lyD, lyE, lyF]
                refine JO 5 (v := ?vd5) I0 ?yd5 ?rd5
                case yd5 => (intro w h; obtain ⟨_, _, _⟩ := h; go_simp; with_reducible rfl)
                simp only [Act.put, lyA, lyB, lyC, lyD, lyE, lyF]
                refine JO 6 (v := ?vd6) I0 ?yd6 ?rd6
                case yd6 => (intro w h; obtain ⟨_, _, _⟩ := h; go_simp; with_reducible rfl)
                simp only [Act.put, lyA, lyB, lyC, lyD, lyE, lyF]
                refine JO 7 (v := ?vd7) I0 ?yd7 ?rd7
                case yd7 => (intro w h; obtain ⟨_, _, _⟩ := h; go_simp; with_reducible rfl)
                simp only [Act.put, lyA, lyB, lyC, lyD, lyE, lyF]
                refine JO 8 (v := ?vd8) I0 ?yd8 ?rd8
                case yd8 => (intro w h; obtain ⟨_, _, _⟩ := h; go_simp; with_reducible rfl)
                simp only [Act.put, lyA, lyB, lyC, lyD, lyE, lyF]
                refine JO 9 (v := ?vd9) I0 ?yd9 ?rd9
                case yd9 => (intro w h; obtain ⟨_, _, _⟩ := h; go_simp; with_reducible rfl)
                simp only [Act.put, lyA, lyB, lyC, lyD, lyE, lyF]
                refine JO 10 (v := ?vd10) I0 ?yd10 ?rd10
                case yd10 => (intro w h; obtain ⟨_, _, _⟩ := h; go_simp; with_reducible rfl)
                simp only [Act.put, lyA, lyB, lyC, lyD, lyE, lyF]
                refine JO 11 (v := ?vd11) I0 ?yd11 ?rd11
                case yd11 => (intro w h; obtain ⟨_, _, _⟩ := h; go_simp; with_reducible rfl)
                simp only [Act.put, lyA, lyB, lyC, lyD, lyE, lyF]
                refine JO 12 (v := ?vd12) I0 ?yd12 ?rd12
                case yd12 => (intro w h; obtain ⟨_, _, _⟩ := h; go_simp; with_reducible rfl)
                simp only [Act.put, lyA, lyB, lyC, lyD, lyE, lyF]
                refine JO 13 (v := ?vd13) I0 ?yd13 ?rd13
                case yd13 => (intro w h; obtain ⟨_, _, _⟩ := h; go_simp; with_reducible rfl)
                simp only [Act.put, lyA, lyB, lyC, lyD, lyE, lyF]
                refine JO 14 (v := ?vd14) I0 ?yd14 ?rd14
                case yd14 => (intro w h; obtain ⟨_, _, _⟩ := h; go_simp; with_reducible rfl)
                simp only [Act.put, lyA, lyB, lyC, lyD, lyE, lyF]
                refine JO 15 (v := ?vd15) I0 ?yd15 ?rd15
                case yd15 => (intro w h; obtain ⟨_, _, _⟩ := h; go_simp; with_reducible rfl)
                simp only [Act.put, lyA, lyB, lyC, lyD, lyE, lyF]
                refine JO 16 (v := ?vd16) I0 ?yd16 ?rd16
                case yd16 => (intro w h; obtain ⟨_, _, _⟩ := h; go_simp; with_reducible rfl)
                simp only [Act.put, lyA, lyB, lyC, lyD, lyE, lyF]
                refine JO 17 (v := ?vd17) I0 ?yd17 ?rd17
                case yd17 => (intro w h; obtain ⟨_, _, _⟩ := h; go_simp; with_reducible rfl)
                simp only [Act.put, lyA, lyB, lyC, lyD, lyE, lyF]
                refine JO 18 (v := ?vd18) I0 ?yd18 ?rd18
                case yd18 => (intro w h; obtain ⟨_, _, _⟩ := h; go_simp; with_reducible rfl)
                simp only [Act.put, lyA, lyB, lyC, lyD, lyE, lyF]
                refine JO 19 (v := ?vd19) I0 ?yd19 ?rd19
                case yd19 => (intro w h; obtain ⟨_, _, _⟩ := h; go_simp; with_reducible rfl)
                simp only [Act.put, lyA, lyB, lyC, lyD, lyE, lyF]
                refine JO 20 (v := ?vd20) I0 ?yd20 ?rd20
                case yd20 => (intro w h; obtain ⟨_, _, _⟩ := h; go_simp; with_reducible rfl)
                simp only [Act.put, lyA, lyB, lyC, lyD, lyE, lyF]
                refine JO 21 (v := ?vd21) I0 ?yd21 ?rd21
                case yd21 => (intro w h; obtain ⟨_, _, _⟩ := h; go_simp; with_reducible rfl)
                simp only [Act.put, lyA, lyB, lyC, lyD, lyE, lyF]
                refine JO 22 (v := ?vd22) I0 ?yd22 ?rd22
                case yd22 => (intro w h; obtain ⟨_, _, _⟩ := h; go_simp; with_reducible rfl)
                simp only [Act.put, lyA, lyB, lyC, lyD, lyE, lyF]
                refine JO 23 (v := ?vd23) I0 ?yd23 ?rd23
                case yd23 => (intro w h; obtain ⟨_, _, _⟩ := h; go_simp; with_reducible rfl)
                simp only [Act.put, lyA, lyB, lyC, lyD, lyE, lyF]
                refine J_done (by kernel_rfl) (OnlyOn.normal ?_)
                have zg := Lib.frozen_of_heap hR9.out.row m
                have lg9 := (Array.getElem?_eq_some_iff.1 hR9.out.row).1
                have zb9 := hR9.out.box
                have zk9 := I0.2.1
                have zf9 := I0.2.2
                clear I0
                go_wp2
                go_roundw
                case rel => exact ⟨q + 1, by omega, by go_num, hok2, hRs⟩
                case measure => simp [intOf]; omega
        · obtain rfl : q = (xth xs k).kids.length := by omega
          have hok2 : Hid (okP n (preK xs (k + 1) 0)) := by unfold Hid; rw [← preK_next hkl.out]; exact hok.out
          have hR2 : Hid (RT w wr b g (some ad0) n c (flg xs (k + 1) 0)) := by unfold Hid; rw [← flg_next hkl.out]; exact hR.out
          clear hok hR
          go_wp2
          go_roundw
          case rel => exact ⟨k + 1, by omega, by go_num, hok2, hR2⟩
          case measure => simp [intOf]; omega
    · obtain rfl : n = k := by omega
      clear hlt
      have okA : Hid (okP xs.length (allK xs)) := by unfold Hid; rw [← preK_all xs, hl.out]; exact hok.out
      obtain ⟨ad0, -, -, -, -, -, -, rfl, -⟩ := hr.out.at_ (k := 0) (by omega)
      have hbs : b < w0.heap.size := lb
      have hRV : Hid (RV w ((newF w0 n).alloc (.cells #[.int .i64 0] 3)) b w0.heap.size (w0.heap.size + 1) (some ad0) n c [] (.slice (some ⟨w0.heap.size + 1, 0, none⟩) 1 1) [0]) := by
        have hxn := (newF_ext w0 n).trans ((Ext.refl (newF w0 n)).alloc_right (.cells #[.int .i64 0] 3))
        have hrow := (((Ext.refl (newF w0 n)).alloc_right (.cells #[.int .i64 0] 3)).block (Array.getElem?_eq_some_iff.1 (newF_row w0 n)).1).trans (newF_row w0 n)
        have hq0 := heap_alloc_new (newF w0 n) (.cells #[.int .i64 0] 3)
        rw [newF_size] at hq0
        refine ⟨⟨hR.out.ext.trans hxn, hxn.cell zb, hrow, hR.out.ext.size, by omega⟩, ⟨_, _, 0, 1, rfl, ⟨Nat.le_refl _, by decide, fun _ => rfl, fun _ => (Array.getElem?_eq_some_iff.1 hq0).1, fun _ => Nat.le_refl _, fun j u hu => ?_, fun j hj => ?_⟩⟩, by omega, by omega, by simp [newF_size]⟩
        · rw [Nat.zero_add, Lib.cell_of_heap hq0]
          have hu2 : ([Value.int .i64 0] : List Value)[j]? = some u := hu
          simpa using hu2
        · obtain rfl : j = 0 := by omega
          rw [Nat.zero_add]
          exact ⟨by rw [Lib.cell_of_heap hq0]; rfl, Lib.frozen_of_heap hq0 0⟩
      clear lb hR hok
      have mk := mkF n (by omega)
      go_upto_region 15 with fail
      obtain ⟨g2, hg2⟩ : ∃ g2, g2 = w0.heap.size := ⟨_, rfl⟩
      rw [← hg2] at hRV
      try simp only [newF_size]
      try simp only [← hg2]
      replace hg2 := hid hg2
      generalize (newF w0 n).alloc (.cells #[.int .i64 0] 3) = w3 at *
      clear hbs zb mk
      go_loopw [8, 9] (fun q m wr => ∃ (V todo : List Nat) (Aq : Option Addr) (cq : Nat), m = .int .i64 V.length ∧ q = .slice Aq todo.length cq ∧ Hid (Vis xs V todo) ∧ Hid (RV w wr b g2 (g2 + 1) (some ad0) n c V (.slice Aq todo.length cq) (toI todo))) (fun _ m _ => n - (intOf m).toNat)
      case atStart => exact ⟨[], [0], _, _, rfl, rfl, Vis.start, hRV⟩
      case round =>
        clear hRV
        obtain ⟨V, todo, Aq, cq, rfl, rfl, hV, hR⟩ := hrel
        have hle2 := hV.out.le2 okA.out (by rw [hl.out]; omega)
        rw [hl.out] at hle2
        have zb := hR.out.rt.box
        have lb := World.block_lt_of_cell? _ _ zb
        dsimp only at lb
        cases todo with
        | nil =>
          have htr := hV.out.tree okA.out (by rw [hl.out]; omega)
          rw [hl.out] at htr
          replace htr := hid htr
          clear hV
          go_wp2
          go_ret
          refine ⟨ret_bool ?_, hR.out.rt.ext⟩
          rw [← htr.out]
          rw [Bool.eq_iff_iff, decide_eq_true_iff]
          simp [Int.ofNat_inj]
        | cons k rest =>
          have hst := hV.out.step okA.out (List.Perm.refl _)
          have hkV := hst.2
          have hV2 := hid hst.1
          have hkn : k < n := by have := hV.out.lt okA.out (by rw [hl.out]; omega) k (by simp); rw [hl.out] at this; exact this
          rw [List.length_cons] at hle2
          have zf := rowF_cell hR.out.rt.row hkn
          rw [show V.contains k = false from by simpa using hkV] at zf
          have zg := Lib.frozen_of_heap hR.out.rt.row k
          have lg := World.block_lt_of_cell? _ _ zf
          dsimp only at lg
          obtain ⟨qa, rfl, zq, hqn, hc1, hcm, hq2⟩ := Que.head (x := (k : Int)) (l := toI rest) hR.out.que
          have zq0 : wr.cell? qa = some (.int .i64 (k : Int)) := by rwa [show qa.add 0 = qa by unfold Addr.add; simp] at zq
          have lqa := World.block_lt_of_cell? _ _ zq0
          obtain ⟨ad0', A1, c1, A2, c2, A3, c3, hA, y0, y1, y2, -, -, r3⟩ := hr.out.at_ hkn
          injection hA with hA
          subst hA
          have h5k := h5.out k hkn
          have hRs : Hid (RT w (wr.setCell ⟨g2, k, none⟩ (.bool true)) b g2 (some ad0) n c (fun u => (V ++ [k]).contains u)) := hR.out.rt.set (fun u => by simp)
          have hqs : Hid (Que (wr.setCell ⟨g2, k, none⟩ (.bool true)) (fun k => g2 + 1 ≤ k) _ (toI rest)) := hq2.set (by omega)
          have hbg := hR.out.hb
          have hBs : Hid (g2 + 1 ≤ (wr.setCell ⟨g2, k, none⟩ (.bool true)).heap.size) := by unfold Hid; rw [World.size_setCell]; exact hR.out.hB
          have hms : n - (V.length + 1) < n - V.length := by omega
          have hln : Hid ((V ++ [k]).length = V.length + 1) := by simp [Hid]
          replace y2 := hRs.out.ext.cell y2
          replace r3 := hid (r3.ext hRs.out.ext)
          have zb2 := hRs.out.box
          have hrl : Hid ((toI rest).length = rest.length) := by simp [Hid, toI]
          have htk := hid (toI_kd okA.out k)
          have hkl3 : (xth xs k).kids.length ≤ 5 := h5k
          clear hV hst hkV hqn hq2 y0 y1 h5k
          replace hR := hid hR.out.hb
          have hwi := IntWalk.i64_in ((V.length : Int) + 1) (by omega)
          have hrl0 := hrl.out
          have hqc := (Que.form hqs.out)
          by_cases hcq : cq = 1
          · subst hcq
            have hr0 : rest = [] := by
              obtain ⟨A9, c9, e9, h9, -⟩ := hqc
              injection e9 with _ _ e9
              exact List.eq_nil_of_length_eq_zero (by omega)
            subst hr0
            have hq3 : Hid (Que (wr.setCell ⟨g2, k, none⟩ (.bool true)) (fun k => g2 + 1 ≤ k) (.slice (some qa) 0 0) (toI [])) := by
              have h9 := hqs.out
              rw [hrl0, if_pos rfl] at h9
              exact h9
            clear hqs hrl0 hqc
            go_upto_region 21 with fail
            generalize wr.setCell ⟨g2, k, none⟩ (.bool true) = wy at *
            obtain ⟨v', w', happ, hq4, h4a, h4b, h4c, h4d, h4e⟩ := hq3.out.append (fun g hg => by have := hBs.out; omega) r3.out (by rw [show (toI []).length = 0 from rfl]; omega) 29
            have hRV1 := hid ((RV.mk hRs.out hq3.out hbg (by omega) hBs.out).app hq4 h4a h4b h4c h4d h4e)
            obtain ⟨Ax, cx, rfl, -⟩ := hq4.form
            replace happ := hid happ
            clear hq3 hRs hq4 h4a h4b h4c h4d h4e hBs zf zg zq zq0
            go_wp2_with (at_builtin; refine wpList_app rfl _ _ 29 29 rfl _ _ rfl rfl _ happ.out ?_)
            go_wp2_with fail
            go_roundw
            case rel =>
              refine ⟨V ++ [k], ([] : List Nat) ++ kd xs k, Ax, cx, by rw [hln.out]; go_num, ?_, hV2, ?_⟩
              · congr 1
                simp [toI, kd_len]
              · have h9 := hRV1.out
                rw [← htk.out] at h9
                have e9 : toI ([] : List Nat) ++ toI (kd xs k) = toI (([] : List Nat) ++ kd xs k) := by simp [toI]
                rw [e9] at h9
                have e8 : (toI (([] : List Nat) ++ kd xs k)).length = (([] : List Nat) ++ kd xs k).length := by simp [toI]
                rw [e8] at h9
                exact h9
            case measure => simp [intOf]; omega
          · have hq3 : Hid (Que (wr.setCell ⟨g2, k, none⟩ (.bool true)) (fun k => g2 + 1 ≤ k) (.slice (some ⟨qa.block, qa.off + 1, none⟩) rest.length (cq - 1)) (toI rest)) := by
              have h9 := hqs.out
              rw [hrl0, if_neg hcq, Option.map_some, show qa.add 1 = ⟨qa.block, qa.off + 1, none⟩ from rfl] at h9
              exact h9
            clear hqs hrl0 hqc
            go_upto_region 21 with fail
            generalize wr.setCell ⟨g2, k, none⟩ (.bool true) = wy at *
            obtain ⟨v', w', happ, hq4, h4a, h4b, h4c, h4d, h4e⟩ := hq3.out.append (fun g hg => by have := hBs.out; omega) r3.out (by rw [hrl.out]; omega) 29
            have hRV1 := hid ((RV.mk hRs.out hq3.out hbg (by omega) hBs.out).app hq4 h4a h4b h4c h4d h4e)
            obtain ⟨Ax, cx, rfl, -⟩ := hq4.form
            replace happ := hid happ
            clear hq3 hRs hq4 h4a h4b h4c h4d h4e hBs zf zg zq zq0
            go_wp2_with (at_builtin; refine wpList_app rfl _ _ 29 29 rfl _ _ rfl rfl _ happ.out ?_)
            go_wp2_with fail
            go_roundw
            case rel =>
              refine ⟨V ++ [k], rest ++ kd xs k, Ax, cx, by rw [hln.out]; go_num, ?_, hV2, ?_⟩
              · congr 1
                simp [toI, kd_len]
              · have h9 := hRV1.out
                rw [← htk.out] at h9
                have e9 : toI rest ++ toI (kd xs k) = toI (rest ++ kd xs k) := by simp [toI]
                rw [e9] at h9
                have e8 : (toI (rest ++ kd xs k)).length = (rest ++ kd xs k).length := by simp [toI]
                rw [e8] at h9
                exact h9
            case measure => simp [intOf]; omega
open Go.RowKit Go.Shelf
theorem app_at {P : Program} (w : World) (base : Nat) (t ty e : TypeId) (i : TypeInfo) (z : Value) (size bytes : Nat) (ht : P.underlying t = some (.slice e)) (hi : P.info? e = some i) (hz : i.zero = some z)
    (hsize : i.size = size) (hby : i.bytes = bytes) (hzs : z.cells.size = size) (hsz : 0 < size) (v : Value) (n : Nat) (xs : List Value) (hown : w.ownsRow base e size v n xs)
    (A : Option Addr) (m c : Nat) (es : List Value) (hr : Rd w size A m c es) (h1 : ∀ u ∈ es, u.oneCell' = true) (h63 : n + m ≤ maxLen) (hbytes : (n + m) * bytes ≤ 140737488355328) (hbase : base ≤ w.heap.size) :
    ∃ v' w', (Builtin.append_ #[t, t] ty #[v, .slice A m c]).run P w = .ok v' w' ∧ w'.ownsRow base e size v' (n + m) (xs ++ es) ∧ w.grownBy w' v.ownBlock ∧ (v'.ownBlock = v.ownBlock ∨ ∀ k, v'.ownBlock = some k → w.heap.size ≤ k) := by
  rcases A with _ | ad
  · have hm : m = 0 := by
      rcases Nat.eq_zero_or_pos m with h0 | h0
      · exact h0
      · obtain ⟨ad, h, _⟩ := hr.2.2.2 h0
        cases h
    subst hm
    have hn : es = [] := List.eq_nil_of_length_eq_zero (by simpa using hr.1)
    subst hn
    exact ⟨v, w, run_append_nilsrc (P := P) w base t ty e i size ht hi v n xs hown c, by simpa using hown, World.grownBy.refl w _, .inl rfl⟩
  · obtain ⟨v', w', hrun, h2, h3, _, h5⟩ := run_append_own_at (P := P) w base t ty e i z size bytes ht hi hz hsize hby hzs hsz v n xs hown ad m c es hr.1 (by
      intro j u hu
      rcases Nat.eq_zero_or_pos m with h0 | h0
      · subst h0
        have hn : es = [] := List.eq_nil_of_length_eq_zero (by simpa using hr.1)
        subst hn
        simp at hu
      · obtain ⟨ad', e', hc⟩ := hr.2.2.2 h0
        injection e' with e'
        subst e'
        exact hc j u hu) h1 h63 hbytes hbase
    refine ⟨v', w', hrun, h2, h3, ?_⟩
    rcases h5 with h5 | h5
    · exact .inl h5
    · refine .inr fun k hk => ?_
      rw [h5] at hk
      injection hk with hk
      omega
def KR (w1 w : World) (kv rv : Value) (ks : List ByteArray) (rs : List Int) : Prop := Two (fun _ => 0) w1 w w1.heap.size 9 3 1 1 kv rv ks.length rs.length (strv ks) (ints rs)
theorem KR.up {w1 w : World} {kv rv : Value} {ks : List ByteArray} {rs : List Int} (h : KR w1 w kv rv ks rs) : Ext w1 w := (Ext.refl w1).trans' h.fr (fun _ _ => rfl)
theorem KR.ext {w1 w w' : World} {kv rv : Value} {ks : List ByteArray} {rs : List Int} (h : KR w1 w kv rv ks rs) (hx : Ext w w') : KR w1 w' kv rv ks rs := Two.ext h hx
theorem KR.start (w1 : World) : KR w1 w1 (.slice none 0 0) (.slice none 0 0) [] [] := ⟨World.ownsRow_nil _ _ _ _, World.ownsRow_nil _ _ _ _, fun a => by show (if _ then 1 else 0) + (if _ then 1 else 0) ≤ 1; simp [Value.ownBlock], fun a _ => by show (if _ then 1 else 0) + (if _ then 1 else 0) ≤ 0; simp [Value.ownBlock], FR.of_ext (Ext.refl _)⟩
theorem strv_one (l : List ByteArray) : ∀ u ∈ strv l, u.oneCell' = true := fun u hu => by
  obtain ⟨x, _, rfl⟩ := List.mem_map.1 hu
  rfl
def Kp (w w' : World) (v : Value) : Prop := w.heap.size ≤ w'.heap.size ∧ ∀ q, q < w.heap.size → ob v q = 0 → w'.heap[q]? = w.heap[q]?
theorem Kp.of {w w' : World} {v : Value} (hg : w.grownBy w' v.ownBlock) : Kp w w' v := ⟨hg.size, fun q hq h0 => hg.block q hq (fun e => ob_zero h0 e.symm)⟩
theorem Kp.rd {w w' : World} {v : Value} {k q n c : Nat} {es : List Value} (h : Kp w w' v) (hq : q < w.heap.size) (h0 : ob v q = 0) (hr : Rd w k (some ⟨q, 0, none⟩) n c es) : Rd w' k (some ⟨q, 0, none⟩) n c es :=
  ⟨hr.1, hr.2.1, hr.2.2.1, fun hn => by
    obtain ⟨ad, e, hc⟩ := hr.2.2.2 hn
    injection e with e
    subst e
    exact ⟨_, rfl, fun j u hu => (World.cell?_of_block (by rw [block_add]; exact h.2 q hq h0)).trans (hc j u hu)⟩⟩
theorem KR.appK {w1 w : World} {kv rv : Value} {ks : List ByteArray} {rs : List Int} (h : KR w1 w kv rv ks rs) {A : Option Addr} {m c : Nat} {es : List ByteArray} (hr : Rd w 1 A m c (strv es)) (hb : ks.length + m ≤ 1000000) (ty : TypeId) :
    ∃ A' c' w', (Builtin.append_ #[28, 28] ty #[kv, .slice A m c]).run Tryz.prog w = .ok (.slice A' (ks ++ es).length c') w' ∧ KR w1 w' (.slice A' (ks ++ es).length c') rv (ks ++ es) rs ∧ Kp w w' kv := by
  obtain ⟨i0, hi0, hz0, hz1, hz2⟩ := info_parts infoS
  have hm : es.length = m := by have := hr.1; rw [strv_len] at this; omega
  obtain ⟨v', w', h1, h2, h3, h4⟩ := app_at w w1.heap.size 28 ty 9 i0 _ 1 16 Tryz.underlying28 hi0 hz0 hz1 hz2 rfl (by decide) _ _ _ h.hk A m c _ hr (strv_one es) (by unfold maxLen; omega) (by omega) h.fr.2.2.2.1
  rw [← strv_app] at h2
  have hl : (ks ++ es).length = ks.length + m := by rw [List.length_append, hm]
  rw [← hl] at h2
  obtain ⟨A', c', rfl, -⟩ := own_form h2
  exact ⟨A', c', w', h1, Two.push h h3 h2 h4, Kp.of h3⟩
theorem KR.appR {w1 w : World} {kv rv : Value} {ks : List ByteArray} {rs : List Int} (h : KR w1 w kv rv ks rs) {A : Option Addr} {m c : Nat} {es : List Int} (hr : RdI w A m c es) (hb : rs.length + m ≤ 1000000) (ty : TypeId) :
    ∃ A' c' w', (Builtin.append_ #[29, 29] ty #[rv, .slice A m c]).run Tryz.prog w = .ok (.slice A' (rs ++ es).length c') w' ∧ KR w1 w' kv (.slice A' (rs ++ es).length c') ks (rs ++ es) ∧ Kp w w' rv := by
  obtain ⟨i0, hi0, hz0, hz1, hz2⟩ := info_parts infoI
  have hm : es.length = m := hr.len
  obtain ⟨v', w', h1, h2, h3, h4⟩ := app_at w w1.heap.size 29 ty 3 i0 _ 1 8 Tryz.underlying29 hi0 hz0 hz1 hz2 rfl (by decide) _ _ _ h.hr A m c _ hr (ints_one es) (by unfold maxLen; omega) (by omega) h.fr.2.2.2.1
  rw [← ints_append] at h2
  have hl : (rs ++ es).length = rs.length + m := by rw [List.length_append, hm]
  rw [← hl] at h2
  obtain ⟨A', c', rfl, -⟩ := own_form h2
  exact ⟨A', c', w', h1, (Two.push (Two.swap h) h3 h2 h4).swap, Kp.of h3⟩
theorem KR.keep {w1 w9 w w' : World} {kv rv : Value} {ks : List ByteArray} {rs : List Int} (h : KR w1 w9 kv rv ks rs) (hk : Kp w w' kv) {A : Option Addr} {k n c : Nat} {es : List Value} (hf : Fr w9.heap.size A) (hr : Rd w k A n c es) : Rd w' k A n c es :=
  ⟨hr.1, hr.2.1, hr.2.2.1, fun hn => by
    obtain ⟨ad, e, hc⟩ := hr.2.2.2 hn
    refine ⟨ad, e, fun j u hu => ?_⟩
    have h1 := hc j u hu
    have h2 := World.block_lt_of_cell? _ _ h1
    rw [block_add] at h2
    exact (World.cell?_of_block (by rw [block_add]; exact hk.2 ad.block h2 (own_bound h.hk (hf ad e)))).trans h1⟩
theorem rd_new1 (w : World) (u : Value) (t : TypeId) : Rd (w.alloc (.cells #[u] t)) 1 (some ⟨w.heap.size, 0, none⟩) 1 1 [u] := ⟨rfl, Nat.le_refl _, by decide, fun _ => ⟨_, rfl, fun j v hv => by
  rw [lit_add, Nat.zero_add, Lib.cell_of_heap (heap_alloc_new w _)]
  simpa using hv⟩⟩
def GiveE (L : List Te) (w : World) (e : Ending) (w' : World) : Prop := ∃ A1 c1 A2 c2, e = .returned (.tuple #[.slice A1 L.length c1, .slice A2 L.length c2]) ∧ Rd w' 1 A1 L.length c1 (strv (L.map Te.key)) ∧ RdI w' A2 L.length c2 (L.map Te.no) ∧ Ext w w' ∧ Fr w.heap.size A1 ∧ Fr w.heap.size A2
theorem KR.give {w w1 w' : World} {kv rv : Value} {L : List Te} (h : KR w1 w' kv rv (L.map Te.key) (L.map Te.no)) (hx : Ext w w1) : GiveE L w (.returned (.tuple #[kv, rv])) w' := by
  obtain ⟨A1, c1, rfl, h1⟩ := own_rd h.hk
  obtain ⟨A2, c2, rfl, h2⟩ := own_rd h.hr
  have f1 := (own_fresh h.hk).mono hx.size
  have f2 := (own_fresh h.hr).mono hx.size
  have hu := h.up
  have e1 : (L.map Te.key).length = L.length := List.length_map _
  have e2 : (L.map Te.no).length = L.length := List.length_map _
  rw [e1] at h1 ⊢
  rw [e2] at h2 ⊢
  exact ⟨A1, c1, A2, c2, rfl, h1, h2, hx.trans hu, f1, f2⟩
open Go.RowKit Go.Shelf
def GiveOI (l : List Int) (w : World) (e : Ending) (w' : World) : Prop := ∃ v, e = .returned v ∧ w'.ownsRow w.heap.size 3 1 v l.length (ints l) ∧ Ext w w'
theorem GiveOI.from {l : List Int} {w w1 w' : World} {v : Value} (hx : Ext w w1) (ho : w'.ownsRow w1.heap.size 3 1 v l.length (ints l)) (h1 : Ext w1 w') : GiveOI l w (.returned v) w' := ⟨v, rfl, own_baseK ho hx.size, hx.trans h1⟩
def kdn (xs : List Nx) (k q : Nat) : Nat := (kd xs k).getD q 0
theorem kdn_is {xs : List Nx} (ok : okP xs.length (allK xs)) {k q : Nat} (hq : q < (xth xs k).kids.length) : ith (xth xs k).kids q = (kdn xs k q : Int) ∧ kdn xs k q ∈ kd xs k ∧ (kd xs k)[q]? = some (kdn xs k q) := by
  have hl : q < (kd xs k).length := by rw [kd_len]; exact hq
  have e : kdn xs k q = (kd xs k)[q] := by simp [kdn, List.getD, hl]
  have h2 : ith (xth xs k).kids q = ith (toI (kd xs k)) q := by rw [toI_kd ok]
  refine ⟨?_, by rw [e]; exact List.getElem_mem hl, by rw [e]; exact List.getElem?_eq_getElem hl⟩
  rw [h2, ith_get (by simpa [toI] using hl), e]
  simp [toI]
def dpk (xs : List Nx) (f k : Nat) (d : Int) (q : Nat) : List Int := ((kd xs k).take q).flatMap (fun u => dps xs f u (d + 1))
theorem dpk_step {xs : List Nx} {f k q u : Nat} {d : Int} (h : (kd xs k)[q]? = some u) : dpk xs f k d (q + 1) = dpk xs f k d q ++ dps xs f u (d + 1) := by
  obtain ⟨hq, e⟩ := List.getElem?_eq_some_iff.1 h
  unfold dpk
  rw [List.take_succ_eq_append_getElem hq, List.flatMap_append, e]
  simp
theorem dpk_le {xs : List Nx} {f k q : Nat} {d : Int} : (dpk xs f k d q).length ≤ ((kd xs k).flatMap (fun u => dps xs f u (d + 1))).length := by
  unfold dpk
  conv => rhs; rw [← List.take_append_drop q (kd xs k), List.flatMap_append, List.length_append]
  omega
theorem rDepths_any (A : Option Addr) (n c : Nat) (xs : List Nx) (hok : okP n (allK xs)) : ∀ (f k : Nat) (d : Int) (w : World), RX w A n c xs → UT xs f k → 0 ≤ d → d + f ≤ 100000 → (sub xs f k).length ≤ 2400 → Calls Tryz.prog 79 #[.agg #[.slice A n c], .int .i64 k, .int .i64 d] w (GiveOI (dps xs f k d) w) := by
  intro f
  induction f with
  | zero => intro k d w _ h; exact h.elim
  | succ f ih =>
  intro k d w hr hU hd0 hdf hsz
  have hl := hr.len
  have hkn : k < n := by have := hU.1; omega
  have hm := RX.max hr
  obtain ⟨ad0, A1, c1, A2, c2, A3, c3, rfl, y0, y1, y2, -, -, r3⟩ := hr.at_ hkn
  have hx1 := (Ext.refl w).alloc_right (.cells #[.slice (some ad0) n c] 40)
  have hb0 := heap_alloc_new w (.cells #[.slice (some ad0) n c] 40)
  have zb : (w.alloc (.cells #[.slice (some ad0) n c] 40)).cell? ⟨w.heap.size, 0, none⟩ = some (.slice (some ad0) n c) := by rw [Lib.cell_of_heap hb0]; rfl
  have lb := World.block_lt_of_cell? _ _ zb
  dsimp only at lb
  replace y2 := hx1.cell y2
  have hkl5 : (xth xs k).kids.length ≤ 9223372036854775807 := (RdI.max r3).1
  by_cases h0 : (xth xs k).kids.length = 0
  · have hdp : Hid (dps xs (f + 1) k d = [d]) := by
      unfold Hid dps
      rw [if_pos (List.eq_nil_of_length_eq_zero (by rw [kd_len]; exact h0))]
    rw [h0] at y2
    have hgo := hid (GiveOI.from (l := dps xs (f + 1) k d) hx1 (w' := (w.alloc (.cells #[.slice (some ad0) n c] 40)).alloc (.cells #[.int .i64 d] 3)) (v := .slice (some ⟨w.heap.size + 1, 0, none⟩) 1 1) (by
      rw [hdp.out]
      have hq := heap_alloc_new (w.alloc (.cells #[.slice (some ad0) n c] 40)) (.cells #[.int .i64 d] 3)
      rw [World.size_alloc] at hq
      exact ⟨rfl, .inr ⟨w.heap.size + 1, 1, _, rfl, by simp, hq, Nat.le_refl _, by decide, rfl, rfl⟩⟩) ((Ext.refl _).alloc_right _))
    clear hdp hb0 y0 y1 r3 hU ih hsz hok hr hl h0
    go_enter Tryz.func79, Tryz.ntmps79
    go_wp2
    go_ret
    exact hgo.out
  · obtain ⟨i0, hi0, hz0, hz1, hz2⟩ := info_parts infoI
    have okA : Hid (okP xs.length (allK xs)) := by unfold Hid; rw [hl]; exact hok
    have hkdn : ¬ kd xs k = [] := fun e => h0 (by rw [← kd_len, e]; rfl)
    have hdp : Hid (dps xs (f + 1) k d = dpk xs f k d (xth xs k).kids.length) := by
      unfold Hid dpk
      rw [← kd_len, List.take_length]
      show (if kd xs k = [] then [d] else _) = _
      rw [if_neg hkdn]
    have hdl : Hid (∀ q, (dpk xs f k d q).length ≤ 2400) := fun q => by
      have h1 := dpk_le (xs := xs) (f := f) (k := k) (q := q) (d := d)
      have h2 := dps_len (xs := xs) (f := f + 1) (k := k) (d := d)
      rw [show dps xs (f + 1) k d = (kd xs k).flatMap (fun u => dps xs f u (d + 1)) from if_neg hkdn] at h2
      omega
    have hkid : Hid (∀ q, q < (xth xs k).kids.length → ∀ w', Ext w w' → ith (xth xs k).kids q = (kdn xs k q : Int) ∧ dpk xs f k d (q + 1) = dpk xs f k d q ++ dps xs f (kdn xs k q) (d + 1) ∧ Calls Tryz.prog 79 #[.agg #[.slice (some ad0) n c], .int .i64 (kdn xs k q : Int), .int .i64 (d + 1)] w' (GiveOI (dps xs f (kdn xs k q) (d + 1)) w')) := fun q hq w' hx' => by
      obtain ⟨e1, e2, e3⟩ := kdn_is okA.out hq
      refine ⟨e1, dpk_step e3, ih _ _ w' (hr.ext hx') (hU.2 _ e2) (by omega) (by omega) ?_⟩
      have := sub_kid (xs := xs) (f := f) e2
      omega
    have hwd : IntKind.i64.wrap (d + 1) = d + 1 := IntWalk.i64_in _ (by omega)
    have hwd0 := hid hwd
    have hdp0 : Hid (dpk xs f k d 0 = []) := rfl
    have hge := hid (fun (w' : World) (v : Value) => GiveOI.from (w' := w') (v := v) (l := dps xs (f + 1) k d) hx1)
    rw [hdp.out] at hge
    have hkp : 0 < (xth xs k).kids.length := by omega
    have hkn2 : (((xth xs k).kids.length : Int) == 0) = false := by rw [beq_eq_false_iff_ne]; omega
    have hkn1 : ¬ ((xth xs k).kids.length : Int) = 0 := by omega
    rw [hdp.out]
    have r3' := hid r3
    have hxw := hid hx1
    clear hdp hb0 y0 y1 hU ih hsz hok hr hl h0 r3 hkdn okA hx1 hdf hd0
    go_enter Tryz.func79, Tryz.ntmps79
    go_upto_region 1 with fail
    obtain ⟨b, hb⟩ : ∃ b, b = w.heap.size := ⟨_, rfl⟩
    rw [← hb] at zb lb
    simp only [← hb]
    replace hb := hid hb
    generalize w.alloc (.cells #[.slice (some ad0) n c] 40) = w1 at *
    go_upto_region 6 with fail
    generalize dpk xs f k d = G at *
    generalize hKn : (xth xs k).kids.length = kn at *
    replace hKn := hid hKn
    clear hwd
    go_loopw [8, 9] (fun o i wr => ∃ q : Nat, q ≤ kn ∧ i = .int .i64 q ∧ (∃ Ao co, o = .slice Ao (G q).length co) ∧ Hid (wr.ownsRow w1.heap.size 3 1 o (G q).length (ints (G q))) ∧ Hid (Ext w1 wr)) (fun _ i _ => kn - (intOf i).toNat)
    case atStart => exact ⟨0, by omega, rfl, ⟨none, 0, by rw [hdp0.out]; rfl⟩, by rw [hdp0.out]; exact World.ownsRow_nil _ _ _ _, Ext.refl _⟩
    case round =>
      obtain ⟨q, hq, rfl, ⟨Ao, co, rfl⟩, hown, hx⟩ := hrel
      by_cases hlt : q < kn
      · have hk1 := hkid.out q hlt w (Ext.refl w)
        have hC := hid (fun w' (hx' : Ext w1 w') => (hkid.out q hlt w' (hxw.out.trans hx')).2.2)
        have hst := hid hk1.2.1
        obtain ⟨kad, rfl, zk0⟩ := rdi_at r3'.out hlt
        rw [hk1.1] at zk0
        have zb1 := zb
        have zk1 := hxw.out.cell zk0
        have zkr := hx.out.cell zk1
        have zbr := hx.out.cell zb
        have hLD := hdl.out (q + 1)
        rw [hst.out, List.length_append] at hLD
        generalize dps xs f (kdn xs k q) (d + 1) = D at *
        have hLq0 := hdl.out q
        generalize G q = L at *
        generalize kdn xs k q = u at *
        have hwd : IntKind.i64.wrap (d + 1) = d + 1 := hwd0.out
        have hwq : IntKind.i64.wrap ((q : Int) + 1) = (q : Int) + 1 := IntWalk.i64_in _ (by omega)
        have hqk : (q : Int) < (kn : Int) := by omega
        have lbr := World.block_lt_of_cell? _ _ zbr
        dsimp only at lbr
        have zb := zbr
        have zk := zkr
        clear hk1 zk0
        go_upto_region 8 with fail
        have I0 : (fun w' : World => w'.cell? ⟨b, 0, none⟩ = some (.slice (some ad0) n c) ∧ w'.cell? (kad.add q) = some (.int .i64 (u : Int))) wr.drew := ⟨zb, zk⟩
        refine region_J (fun w' : World => w'.cell? ⟨b, 0, none⟩ = some (.slice (some ad0) n c) ∧ w'.cell? (kad.add q) = some (.int .i64 (u : Int))) 11 (by kernel_rfl) ?_
        have hx9 := hid hx.out.drew_right
        replace hown : Hid (wr.drew.ownsRow w1.heap.size 3 1 (.slice Ao L.length co) L.length (ints L)) := own_drewN hown.out 1
        clear zb zk
        generalize wr.drew = w9 at *
        refine JO 0 (v := ?va0) I0 ?ya0 ?ra0
        case ya0 => (intro w h; obtain ⟨_, _⟩ := h; go_simp; with_reducible rfl)
        simp only [Act.put, lyA, lyB, lyC, lyD, lyE, lyF]
        refine JO 1 (v := ?va1) I0 ?ya1 ?ra1
        case ya1 => (intro w h; obtain ⟨_, _⟩ := h; go_simp; with_reducible rfl)
        simp only [Act.put, lyA, lyB, lyC, lyD, lyE, lyF]
        refine JO 2 (v := ?va2) I0 ?ya2 ?ra2
        case ya2 => (intro w h; obtain ⟨_, _⟩ := h; go_simp; with_reducible rfl)
        simp only [Act.put, lyA, lyB, lyC, lyD, lyE, lyF]
        refine JO 3 (v := ?va3) I0 ?ya3 ?ra3
        case ya3 => (intro w h; obtain ⟨_, _⟩ := h; go_simp; with_reducible rfl)
        simp only [Act.put, lyA, lyB, lyC, lyD, lyE, lyF]
        refine JO 4 (v := ?va4) I0 ?ya4 ?ra4
        case ya4 => (intro w h; obtain ⟨_, _⟩ := h; go_simp; with_reducible rfl)
        simp only [Act.put, lyA, lyB, lyC, lyD, lyE, lyF]
        refine JO 5 (v := ?va5) I0 ?ya5 ?ra5
        case ya5 => (intro w h; obtain ⟨_, _⟩ := h; go_simp; with_reducible rfl)
        simp only [Act.put, lyA, lyB, lyC, lyD, lyE, lyF]
        refine JO 6 (v := ?va6) I0 ?ya6 ?ra6
        case ya6 => (intro w h; obtain ⟨_, _⟩ := h; go_simp; with_reducible rfl)
        simp only [Act.put, lyA, lyB, lyC, lyD, lyE, lyF]
        refine JO 7 (v := ?va7) I0 ?ya7 ?ra7
        case ya7 => (intro w h; obtain ⟨_, _⟩ := h; go_simp; with_reducible rfl)
        simp only [Act.put, lyA, lyB, lyC, lyD, lyE, lyF]
        refine J_one 8 rfl (by kernel_rfl) (fun K hK => ?_)
        go_simp
        refine (hC.out w9 hx9.out).mono ?_
        rintro e w10 ⟨v2, rfl, own2, hx10⟩
        have I1 : (fun w' : World => w'.cell? ⟨b, 0, none⟩ = some (.slice (some ad0) n c) ∧ w'.cell? (kad.add q) = some (.int .i64 (u : Int))) w10 := ⟨hx10.cell I0.1, hx10.cell I0.2⟩
        have hx11 := hid (hx9.out.trans hx10)
        have hown2 := hid (hx10.own hown.out)
        obtain ⟨Ad, cd, rfl, hrd⟩ := own_rd own2
        have hLq : L.length + D.length ≤ 2400 := hLD
        obtain ⟨v3, w12, happ, own3, hgr, -⟩ := app_at w10 w1.heap.size 29 29 3 i0 _ 1 8 Tryz.underlying29 hi0 hz0 hz1 hz2 rfl (by decide) _ _ _ hown2.out Ad D.length cd _ hrd (ints_one D) (by unfold maxLen; omega) (by omega) hx11.out.size
        have hx12 := hid (below_push hx11.out hown2.out hgr hx11.out.size)
        rw [← ints_append] at own3
        have hown3 : Hid (w12.ownsRow w1.heap.size 3 1 v3 (L ++ D).length (ints (L ++ D))) := by unfold Hid; rw [List.length_append]; exact own3
        obtain ⟨A3x, c3x, rfl, -⟩ := own_form own3
        have I2 : (fun w' : World => w'.cell? ⟨b, 0, none⟩ = some (.slice (some ad0) n c) ∧ w'.cell? (kad.add q) = some (.int .i64 (u : Int))) w12 := ⟨Ext.cell hx12.out zb1, Ext.cell hx12.out zk1⟩
        replace happ := hid happ
        clear hown own3 hgr own2 hrd hx10 hx9 I0
        refine hK _ _ ⟨fun _ => I1, ?_⟩
        clear hK K
        try simp only [Act.put, lyA, lyB, lyC, lyD, lyE, lyF]
        refine J_one 9 rfl (by kernel_rfl) (fun K hK => ?_)
        refine step_run rfl _ (ex_append _ _ _ _ rfl _ _ (by simp [Act.eval, Act.put]) (by simp [Act.eval, Act.put]) _ happ.out) ?_
        refine hK _ _ ⟨fun _ => I2, ?_⟩
        clear hK K
        try simp only [Act.put, lyA, lyB, lyC, lyD, lyE, lyF]
        refine J_one 10 rfl (by kernel_rfl) (fun K hK => ?_)
        go_simp
        refine hK _ _ ⟨fun _ => I2, ?_⟩
        clear hK K
        refine J_done (by kernel_rfl) (OnlyOn.normal ?_)
        clear I1 I2 happ hown2 hx11
        go_wp2_with fail
        go_roundw
        case rel => exact ⟨q + 1, by omega, by go_num, by rw [hst.out]; simp, by rw [hst.out]; rw [List.length_append] at hown3 ⊢; exact hown3, hx12⟩
        case measure => simp [intOf]; omega
      · obtain rfl : q = kn := by omega
        go_wp2
        go_ret
        exact hge.out _ _ hown.out hx.out
end Go.Proofs.YtpijfiaecicpfaaGreat
