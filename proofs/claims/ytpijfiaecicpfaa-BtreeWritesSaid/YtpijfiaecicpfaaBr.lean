/-
  The reference's isTree.
-/
import Derived.Test.YtpijfiaecicpfaaBq
import Derived.Test.YtpijfiaecicpfaaBn
namespace Go.Proofs.Ytpijfiaecicpfaa
open Go.RowKit Go.Shelf
set_option linter.unusedVariables false
set_option linter.unusedSimpArgs false
/-- A new row of bools. -/
def newF (w : World) (k : Nat) : World := w.alloc (.cells (madeCells #[.bool false] (k * 1)) 4)
theorem newF_ext (w : World) (k : Nat) : Ext w (newF w k) := (Ext.refl w).alloc_right _
theorem newF_size (w : World) (k : Nat) : (newF w k).heap.size = w.heap.size + 1 := by simp [newF]
theorem newF_row (w : World) (k : Nat) : (newF w k).heap[w.heap.size]? = some (.cells (rowF k (fun _ => false)).toArray 4 (0, 0)) := by
  have h := heap_alloc_new w (.cells (madeCells #[.bool false] (k * 1)) 4)
  unfold newF
  rw [h]
  have e : madeCells #[.bool false] (k * 1) = (rowF k (fun _ => false)).toArray := by
    apply Array.ext
    · simp [madeCells, rowF]
    · intro i h1 h2
      simp [madeCells, rowF, Nat.mod_one]
  rw [e]
theorem infoBo : (Try.prog.info? 4).map (fun i => (i.zero, i.size, i.bytes)) = some (some (.bool false), 1, 1) := by kernel_rfl
theorem mkF (n : Nat) (hn : n ≤ 1000000) (wx : World) : (Instr.makeSlice 142 (.int .i64 (n : Int)) (.int .i64 (n : Int))).run Try.prog wx = .ok (.slice (some ⟨wx.heap.size, 0, none⟩) n n) (newF wx n) := by
  obtain ⟨i0, hi, hz0, hz1, hz2⟩ := info_parts infoBo
  have h := run_makeSlice (P := Try.prog) wx 142 4 i0 (.bool false) Try.underlying142 hi hz0 .i64 .i64 (n : Int) (n : Int) (by omega) (by omega) (by rw [hz1]; omega) (by rw [hz2]; omega) (by omega)
  rw [hz1] at h
  simp only [Int.toNat_natCast] at h
  exact h
/-- Which numbers have been seen ahead of kid j of node i. -/
def flg (xs : List Nx) (i j : Nat) : Nat → Bool := fun u => (preK xs i j).contains (u : Int)
theorem flg_zero (xs : List Nx) : flg xs 0 0 = fun _ => false := by funext u; unfold flg; rw [preK_zero]; rfl
theorem flg_next {xs : List Nx} {i : Nat} (hi : i < xs.length) : flg xs i (xth xs i).kids.length = flg xs (i + 1) 0 := by funext u; unfold flg; rw [preK_next hi]
theorem flg_step {xs : List Nx} {i j m : Nat} (hj : j < (xth xs i).kids.length) (hm : ith (xth xs i).kids j = (m : Int)) (k : Nat) : flg xs i (j + 1) k = (flg xs i j k || decide (k = m)) := by
  unfold flg
  rw [preK_step hj, hm]
  simp [List.contains_eq_any_beq, List.any_append]
  by_cases h : k = m
  · subst h; simp
  · simp [h, show ¬ (k : Int) = (m : Int) by omega]
theorem flg_mem {xs : List Nx} {i j m : Nat} : flg xs i j m = true ↔ (m : Int) ∈ preK xs i j := by unfold flg; simp
/-- While kids are looked at. -/
structure RT (w wr : World) (b g : Nat) (A : Option Addr) (n c : Nat) (f : Nat → Bool) : Prop where
  ext : Ext w wr
  box : wr.cell? ⟨b, 0, none⟩ = some (.slice A n c)
  row : wr.heap[g]? = some (.cells (rowF n f).toArray 4 (0, 0))
  le : w.heap.size ≤ g
  ne : b ≠ g
theorem RT.set {w wr : World} {b g n c m : Nat} {A : Option Addr} {f f' : Nat → Bool} (h : RT w wr b g A n c f) (hf : ∀ k, f' k = (f k || decide (k = m))) : RT w (wr.setCell ⟨g, m, none⟩ (.bool true)) b g A n c f' :=
  ⟨h.ext.set (p := ⟨g, m, none⟩) h.le _, cell_far h.box (fun e => h.ne e.symm), rowF_set h.row (fun j _ => hf j), h.le, h.ne⟩
theorem RT.drew {w wr : World} {b g n c : Nat} {A : Option Addr} {f : Nat → Bool} (h : RT w wr b g A n c f) : RT w wr.drew b g A n c f := ⟨h.ext.drew_right, h.box, h.row, h.le, h.ne⟩
/-- While nodes are visited. -/
structure RV (w wr : World) (b g B : Nat) (A : Option Addr) (n c : Nat) (V : List Nat) (v : Value) (l : List Int) : Prop where
  rt : RT w wr b g A n c (fun k => V.contains k)
  que : Que wr (fun k => B ≤ k) v l
  hb : b < B
  hg : g < B
  hB : B ≤ wr.heap.size
theorem wpList_app {P : Program} {w w' : World} {ops : Array Oper} {rest : List Oper} {o : Oper} {a : Act} {Q : Exit → Act → World → Prop} (hgd : o.guard = none) (s x : Operand) (t tn : TypeId) (ho : o.op = .call { callee := .builtin .append, args := #[s, x], argTypes := #[t, tn] }) (vs vx : Value) (hs : a.eval s = vs) (hx : a.eval x = vx)
    (v' : Value) (hr : (Builtin.append_ #[t, tn] o.type #[vs, vx]).run P w = .ok v' w') (h : wpList P ops Q rest (a.put o.dst v') w') : wpList P ops Q (o :: rest) a w :=
  wpList_plain hgd fun _ hK => by
    unfold Oper.wp
    rw [ex_append s x t tn ho vs vx hs hx v' hr]
    exact hK _ _ h
theorem RV.app {w wr w' : World} {b g B n c : Nat} {A : Option Addr} {V : List Nat} {v v' : Value} {l l' : List Int} (h : RV w wr b g B A n c V v l) (hq : Que w' (fun k => B ≤ k) v' l') (h1 : w'.os = wr.os) (h2 : w'.tape = wr.tape) (h3 : w'.output = wr.output) (h4 : wr.heap.size ≤ w'.heap.size) (h5 : ∀ k, k < wr.heap.size → ¬ B ≤ k → w'.heap[k]? = wr.heap[k]?) : RV w w' b g B A n c V v' l' := by
  have hbl := h.hb
  have hgl := h.hg
  have hBl := h.hB
  have hle := h.rt.le
  refine ⟨⟨⟨h1.trans h.rt.ext.os, h2.trans h.rt.ext.tape, h3.trans h.rt.ext.output, Nat.le_trans h.rt.ext.size h4, fun k hk => (h5 k (Nat.lt_of_lt_of_le hk h.rt.ext.size) (by omega)).trans (h.rt.ext.block hk)⟩, (World.cell?_of_block (a := ⟨b, 0, none⟩) (h5 b (by omega) (by omega))).trans h.rt.box, (h5 g (by omega) (by omega)).trans h.rt.row, hle, h.rt.ne⟩, hq, hbl, hgl, by omega⟩
def toI (l : List Nat) : List Int := l.map fun (k : Nat) => (k : Int)
theorem toI_kd {xs : List Nx} (ok : okP xs.length (allK xs)) (k : Nat) : toI (kd xs k) = (xth xs k).kids := by
  unfold toI kd
  rw [List.map_map]
  conv => rhs; rw [← List.map_id (xth xs k).kids]
  apply List.map_congr_left
  intro x hx
  have hk : k < xs.length := by
    rcases Nat.lt_or_ge k xs.length with h1 | h1
    · exact h1
    · rw [xth_out h1] at hx; cases hx
  have := ok.1 x (List.mem_flatMap.2 ⟨xs[k], List.getElem_mem hk, by rw [← xth_get hk]; exact hx⟩)
  show ((x.toNat : Nat) : Int) = x
  omega
set_option maxRecDepth 100000 in
set_option maxHeartbeats 4000000 in
theorem rTree_any (A : Option Addr) (n c : Nat) (xs : List Nx) (w : World) (hr : RX w A n c xs) (hn1 : 1 ≤ n) (hn : n ≤ 2400) (h5 : Hid (∀ k, k < n → (xth xs k).kids.length ≤ 5)) : Calls Try.prog 89 #[.agg #[.slice A n c]] w (Give (.bool (treeB xs)) w) := by
  have hl := hid hr.len
  have hm := RX.max hr
  have mk := mkF n (by omega)
  have hx1 := hid ((Ext.refl w).alloc_right (.cells #[.slice A n c] 37))
  have hb0 := heap_alloc_new w (.cells #[.slice A n c] 37)
  have zb : (w.alloc (.cells #[.slice A n c] 37)).cell? ⟨w.heap.size, 0, none⟩ = some (.slice A n c) := by rw [Lib.cell_of_heap hb0]; rfl
  have lb := World.block_lt_of_cell? _ _ zb
  dsimp only at lb
  replace hr := hid hr
  go_enter Try.func89, Try.ntmps89
  go_upto_region 1 with fail
  obtain ⟨b, hb⟩ : ∃ b, b = w.heap.size := ⟨_, rfl⟩
  rw [← hb] at zb lb
  simp only [← hb]
  replace hb := hid hb
  clear hb0
  generalize w.alloc (.cells #[.slice A n c] 37) = w1 at *
  have hR0 : Hid (RT w (newF w1 n) b w1.heap.size A n c (flg xs 0 0)) := by
    rw [flg_zero]
    exact ⟨hx1.out.trans (newF_ext w1 n), (newF_ext w1 n).cell zb, newF_row w1 n, hx1.out.size, by omega⟩
  obtain ⟨g, hg⟩ : ∃ g, g = w1.heap.size := ⟨_, rfl⟩
  rw [← hg] at hR0
  have hgn : Hid ((newF w1 n).heap.size = g + 1) := by unfold Hid; rw [newF_size, hg]
  go_upto_region 3 with fail
  simp only [← hg]
  clear lb zb hx1
  replace hg := hid hg
  generalize newF w1 n = w2 at *
  clear mk
  go_loopw [4] (fun i wr => ∃ k : Nat, k ≤ n ∧ i = .int .i64 k ∧ Hid (okP n (preK xs k 0)) ∧ Hid (RT w wr b g A n c (flg xs k 0))) (fun i _ => n - (intOf i).toNat)
  case atStart => exact ⟨0, by omega, rfl, by unfold Hid; rw [preK_zero]; exact ⟨fun k hk => (by cases hk), List.Pairwise.nil⟩, hR0⟩
  case round =>
    clear hR0 hgn
    obtain ⟨k, hk, rfl, hok, hR⟩ := hrel
    rename World => w0
    have zb := hR.out.box
    have lb := World.block_lt_of_cell? _ _ zb
    dsimp only at lb
    by_cases hlt : k < n
    · obtain ⟨ad0, A1, c1, A2, c2, A3, c3, rfl, y0, y1, y2, -, -, r3⟩ := hr.out.at_ hlt
      have h5k := h5.out k hlt
      have hkl : Hid (k < xs.length) := by have := hl.out; unfold Hid; omega
      replace r3 := hid r3
      have hx0 := hR.out.ext
      replace y2 := hx0.cell y2
      clear y0 y1
      go_upto_region 7 with fail
      clear y2 hx0
      go_loopw [6] (fun j wr => ∃ q : Nat, q ≤ (xth xs k).kids.length ∧ j = .int .i64 q ∧ Hid (okP n (preK xs k q)) ∧ Hid (RT w wr b g (some ad0) n c (flg xs k q))) (fun j _ => (xth xs k).kids.length - (intOf j).toNat)
      case atStart => exact ⟨0, by omega, rfl, hok, hR⟩
      case round =>
        clear hok hR zb lb
        obtain ⟨q, hq, rfl, hok, hR⟩ := hrel
        have zb := hR.out.box
        have lb := World.block_lt_of_cell? _ _ zb
        dsimp only at lb
        by_cases hqt : q < (xth xs k).kids.length
        · obtain ⟨kad, rfl, z2⟩ := rdi_at (r3.out.ext hR.out.ext) hqt
          obtain ⟨rs, hrs⟩ := preK_pre (j := q + 1) hkl.out hqt
          have hps := preK_step hqt
          have hno0 := hid (fun (hc : ¬ (1 ≤ ith (xth xs k).kids q ∧ ith (xth xs k).kids q < (n : Int) ∧ ith (xth xs k).kids q ∉ preK xs k q)) => treeB_false (xs := xs) (fun ht => hc (by
            have h1 := ht.1
            rw [hl.out, hrs, hps] at h1
            exact (okP_snoc hok.out).1 (okP_app h1))))
          have hok1 := hid (fun h => (okP_snoc (n := n) (k := ith (xth xs k).kids q) hok.out).2 h)
          have hfl := hid (fun (m : Nat) (hm : ith (xth xs k).kids q = (m : Int)) => flg_step hqt hm)
          rw [← hps] at hok1
          have hqk : (q : Int) < ((xth xs k).kids.length : Int) := by omega
          have hki := IntWalk.i64_in ((q : Int) + 1) (by omega)
          have hR9 := hid hR.out.drew
          clear hrs hps
          generalize ith (xth xs k).kids q = u at *
          by_cases h1 : u < 1
          · have hno := hid (hno0.out (fun h => by omega))
            clear hno0 hok1 hfl hok hR
            go_upto_region 9 with fail
            have I0 : (fun w' : World => w'.cell? ⟨b, 0, none⟩ = some (.slice (some ad0) n c) ∧ w'.cell? (kad.add q) = some (.int .i64 u)) wr.drew := ⟨zb, z2⟩
            refine region_J (fun w' : World => w'.cell? ⟨b, 0, none⟩ = some (.slice (some ad0) n c) ∧ w'.cell? (kad.add q) = some (.int .i64 u)) 24 (by kernel_rfl) ?_
            clear zb z2
            generalize wr.drew = w9 at *
            refine J_takeO 0 (v := ?va0) rfl (by kernel_rfl) (by kernel_rfl) (by kernel_rfl) (by kernel_rfl) (fun _ _ _ h => h) (Or.inl ⟨by rfl, ?ya0⟩) I0 ?ra0
            case ya0 => (intro w hSw; obtain ⟨_, _⟩ := hSw; (go_simp; with_reducible rfl))
            simp only [Act.put, List.getElem_toArray, List.getElem_cons_zero, List.getElem_cons_succ, List.setIfInBounds_toArray, List.set_cons_zero, List.set_cons_succ]
            refine J_takeO 1 (v := ?va1) rfl (by kernel_rfl) (by kernel_rfl) (by kernel_rfl) (by kernel_rfl) (fun _ _ _ h => h) (Or.inl ⟨by rfl, ?ya1⟩) I0 ?ra1
            case ya1 => (intro w hSw; obtain ⟨_, _⟩ := hSw; (go_simp; with_reducible rfl))
            simp only [Act.put, List.getElem_toArray, List.getElem_cons_zero, List.getElem_cons_succ, List.setIfInBounds_toArray, List.set_cons_zero, List.set_cons_succ]
            refine J_takeO 2 (v := ?va2) rfl (by kernel_rfl) (by kernel_rfl) (by kernel_rfl) (by kernel_rfl) (fun _ _ _ h => h) (Or.inl ⟨by rfl, ?ya2⟩) I0 ?ra2
            case ya2 => (intro w hSw; obtain ⟨_, _⟩ := hSw; (go_simp; with_reducible rfl))
            simp only [Act.put, List.getElem_toArray, List.getElem_cons_zero, List.getElem_cons_succ, List.setIfInBounds_toArray, List.set_cons_zero, List.set_cons_succ]
            refine J_takeO 3 (v := ?va3) rfl (by kernel_rfl) (by kernel_rfl) (by kernel_rfl) (by kernel_rfl) (fun _ _ _ h => h) (Or.inl ⟨by rfl, ?ya3⟩) I0 ?ra3
            case ya3 => (intro w hSw; obtain ⟨_, _⟩ := hSw; (go_simp; with_reducible rfl))
            simp only [Act.put, List.getElem_toArray, List.getElem_cons_zero, List.getElem_cons_succ, List.setIfInBounds_toArray, List.set_cons_zero, List.set_cons_succ]
            refine J_takeO 4 (v := ?va4) rfl (by kernel_rfl) (by kernel_rfl) (by kernel_rfl) (by kernel_rfl) (fun _ _ _ h => h) (Or.inl ⟨by rfl, ?ya4⟩) I0 ?ra4
            case ya4 => (intro w hSw; obtain ⟨_, _⟩ := hSw; (go_simp; with_reducible rfl))
            simp only [Act.put, List.getElem_toArray, List.getElem_cons_zero, List.getElem_cons_succ, List.setIfInBounds_toArray, List.set_cons_zero, List.set_cons_succ]
            refine J_takeO 5 (v := ?va5) rfl (by kernel_rfl) (by kernel_rfl) (by kernel_rfl) (by kernel_rfl) (fun _ _ _ h => h) (Or.inl ⟨by rfl, ?ya5⟩) I0 ?ra5
            case ya5 => (intro w hSw; obtain ⟨_, _⟩ := hSw; (go_simp; with_reducible rfl))
            simp only [Act.put, List.getElem_toArray, List.getElem_cons_zero, List.getElem_cons_succ, List.setIfInBounds_toArray, List.set_cons_zero, List.set_cons_succ]
            refine J_takeO 6 rfl (by kernel_rfl) (by kernel_rfl) (by kernel_rfl) (by kernel_rfl) (fun _ _ _ h => h) (Or.inr ⟨by rfl, rfl⟩) I0 ?_
            simp only [Act.put, List.getElem_toArray, List.getElem_cons_zero, List.getElem_cons_succ, List.setIfInBounds_toArray, List.set_cons_zero, List.set_cons_succ]
            refine J_takeO 7 rfl (by kernel_rfl) (by kernel_rfl) (by kernel_rfl) (by kernel_rfl) (fun _ _ _ h => h) (Or.inr ⟨by rfl, rfl⟩) I0 ?_
            simp only [Act.put, List.getElem_toArray, List.getElem_cons_zero, List.getElem_cons_succ, List.setIfInBounds_toArray, List.set_cons_zero, List.set_cons_succ]
            refine J_takeO 8 rfl (by kernel_rfl) (by kernel_rfl) (by kernel_rfl) (by kernel_rfl) (fun _ _ _ h => h) (Or.inr ⟨by rfl, rfl⟩) I0 ?_
            simp only [Act.put, List.getElem_toArray, List.getElem_cons_zero, List.getElem_cons_succ, List.setIfInBounds_toArray, List.set_cons_zero, List.set_cons_succ]
            refine J_takeO 9 rfl (by kernel_rfl) (by kernel_rfl) (by kernel_rfl) (by kernel_rfl) (fun _ _ _ h => h) (Or.inr ⟨by rfl, rfl⟩) I0 ?_
            simp only [Act.put, List.getElem_toArray, List.getElem_cons_zero, List.getElem_cons_succ, List.setIfInBounds_toArray, List.set_cons_zero, List.set_cons_succ]
            refine J_takeO 10 rfl (by kernel_rfl) (by kernel_rfl) (by kernel_rfl) (by kernel_rfl) (fun _ _ _ h => h) (Or.inr ⟨by rfl, rfl⟩) I0 ?_
            simp only [Act.put, List.getElem_toArray, List.getElem_cons_zero, List.getElem_cons_succ, List.setIfInBounds_toArray, List.set_cons_zero, List.set_cons_succ]
            refine J_takeO 11 rfl (by kernel_rfl) (by kernel_rfl) (by kernel_rfl) (by kernel_rfl) (fun _ _ _ h => h) (Or.inr ⟨by rfl, rfl⟩) I0 ?_
            simp only [Act.put, List.getElem_toArray, List.getElem_cons_zero, List.getElem_cons_succ, List.setIfInBounds_toArray, List.set_cons_zero, List.set_cons_succ]
            refine J_takeO 12 rfl (by kernel_rfl) (by kernel_rfl) (by kernel_rfl) (by kernel_rfl) (fun _ _ _ h => h) (Or.inr ⟨by rfl, rfl⟩) I0 ?_
            simp only [Act.put, List.getElem_toArray, List.getElem_cons_zero, List.getElem_cons_succ, List.setIfInBounds_toArray, List.set_cons_zero, List.set_cons_succ]
            refine J_takeO 13 rfl (by kernel_rfl) (by kernel_rfl) (by kernel_rfl) (by kernel_rfl) (fun _ _ _ h => h) (Or.inr ⟨by rfl, rfl⟩) I0 ?_
            simp only [Act.put, List.getElem_toArray, List.getElem_cons_zero, List.getElem_cons_succ, List.setIfInBounds_toArray, List.set_cons_zero, List.set_cons_succ]
            refine J_takeO 14 (v := ?va14) rfl (by kernel_rfl) (by kernel_rfl) (by kernel_rfl) (by kernel_rfl) (fun _ _ _ h => h) (Or.inl ⟨by rfl, ?ya14⟩) I0 ?ra14
            case ya14 => (intro w hSw; obtain ⟨_, _⟩ := hSw; (go_simp; with_reducible rfl))
            simp only [Act.put, List.getElem_toArray, List.getElem_cons_zero, List.getElem_cons_succ, List.setIfInBounds_toArray, List.set_cons_zero, List.set_cons_succ]
            refine J_takeO 15 (v := ?va15) rfl (by kernel_rfl) (by kernel_rfl) (by kernel_rfl) (by kernel_rfl) (fun _ _ _ h => h) (Or.inl ⟨by rfl, ?ya15⟩) I0 ?ra15
            case ya15 => (intro w hSw; obtain ⟨_, _⟩ := hSw; (go_simp; with_reducible rfl))
            simp only [Act.put, List.getElem_toArray, List.getElem_cons_zero, List.getElem_cons_succ, List.setIfInBounds_toArray, List.set_cons_zero, List.set_cons_succ]
            refine J_takeO 16 rfl (by kernel_rfl) (by kernel_rfl) (by kernel_rfl) (by kernel_rfl) (fun _ _ _ h => h) (Or.inr ⟨by rfl, rfl⟩) I0 ?_
            simp only [Act.put, List.getElem_toArray, List.getElem_cons_zero, List.getElem_cons_succ, List.setIfInBounds_toArray, List.set_cons_zero, List.set_cons_succ]
            refine J_takeO 17 rfl (by kernel_rfl) (by kernel_rfl) (by kernel_rfl) (by kernel_rfl) (fun _ _ _ h => h) (Or.inr ⟨by rfl, rfl⟩) I0 ?_
            simp only [Act.put, List.getElem_toArray, List.getElem_cons_zero, List.getElem_cons_succ, List.setIfInBounds_toArray, List.set_cons_zero, List.set_cons_succ]
            refine J_takeO 18 rfl (by kernel_rfl) (by kernel_rfl) (by kernel_rfl) (by kernel_rfl) (fun _ _ _ h => h) (Or.inr ⟨by rfl, rfl⟩) I0 ?_
            simp only [Act.put, List.getElem_toArray, List.getElem_cons_zero, List.getElem_cons_succ, List.setIfInBounds_toArray, List.set_cons_zero, List.set_cons_succ]
            refine J_takeO 19 rfl (by kernel_rfl) (by kernel_rfl) (by kernel_rfl) (by kernel_rfl) (fun _ _ _ h => h) (Or.inr ⟨by rfl, rfl⟩) I0 ?_
            simp only [Act.put, List.getElem_toArray, List.getElem_cons_zero, List.getElem_cons_succ, List.setIfInBounds_toArray, List.set_cons_zero, List.set_cons_succ]
            refine J_takeO 20 rfl (by kernel_rfl) (by kernel_rfl) (by kernel_rfl) (by kernel_rfl) (fun _ _ _ h => h) (Or.inr ⟨by rfl, rfl⟩) I0 ?_
            simp only [Act.put, List.getElem_toArray, List.getElem_cons_zero, List.getElem_cons_succ, List.setIfInBounds_toArray, List.set_cons_zero, List.set_cons_succ]
            refine J_takeO 21 rfl (by kernel_rfl) (by kernel_rfl) (by kernel_rfl) (by kernel_rfl) (fun _ _ _ h => h) (Or.inr ⟨by rfl, rfl⟩) I0 ?_
            simp only [Act.put, List.getElem_toArray, List.getElem_cons_zero, List.getElem_cons_succ, List.setIfInBounds_toArray, List.set_cons_zero, List.set_cons_succ]
            refine J_takeO 22 rfl (by kernel_rfl) (by kernel_rfl) (by kernel_rfl) (by kernel_rfl) (fun _ _ _ h => h) (Or.inr ⟨by rfl, rfl⟩) I0 ?_
            simp only [Act.put, List.getElem_toArray, List.getElem_cons_zero, List.getElem_cons_succ, List.setIfInBounds_toArray, List.set_cons_zero, List.set_cons_succ]
            refine J_takeO 23 (v := ?va23) rfl (by kernel_rfl) (by kernel_rfl) (by kernel_rfl) (by kernel_rfl) (fun _ _ _ h => h) (Or.inl ⟨by rfl, ?ya23⟩) I0 ?ra23
            case ya23 => (intro w hSw; obtain ⟨_, _⟩ := hSw; (go_simp; with_reducible rfl))
            simp only [Act.put, List.getElem_toArray, List.getElem_cons_zero, List.getElem_cons_succ, List.setIfInBounds_toArray, List.set_cons_zero, List.set_cons_succ]
            refine J_done (by kernel_rfl) (OnlyOn.normal ?_)
            go_wp2
            go_ret
            exact ⟨ret_bool hno.out.symm, hR9.out.ext⟩
          · by_cases h2 : (n : Int) ≤ u
            · have hno := hid (hno0.out (fun h => by omega))
              clear hno0 hok1 hfl hok hR
              go_upto_region 9 with fail
              have I0 : (fun w' : World => w'.cell? ⟨b, 0, none⟩ = some (.slice (some ad0) n c) ∧ w'.cell? (kad.add q) = some (.int .i64 u)) wr.drew := ⟨zb, z2⟩
              refine region_J (fun w' : World => w'.cell? ⟨b, 0, none⟩ = some (.slice (some ad0) n c) ∧ w'.cell? (kad.add q) = some (.int .i64 u)) 24 (by kernel_rfl) ?_
              clear zb z2
              generalize wr.drew = w9 at *
              refine J_takeO 0 (v := ?vb0) rfl (by kernel_rfl) (by kernel_rfl) (by kernel_rfl) (by kernel_rfl) (fun _ _ _ h => h) (Or.inl ⟨by rfl, ?yb0⟩) I0 ?rb0
              case yb0 => (intro w hSw; obtain ⟨_, _⟩ := hSw; (go_simp; with_reducible rfl))
              simp only [Act.put, List.getElem_toArray, List.getElem_cons_zero, List.getElem_cons_succ, List.setIfInBounds_toArray, List.set_cons_zero, List.set_cons_succ]
              refine J_takeO 1 (v := ?vb1) rfl (by kernel_rfl) (by kernel_rfl) (by kernel_rfl) (by kernel_rfl) (fun _ _ _ h => h) (Or.inl ⟨by rfl, ?yb1⟩) I0 ?rb1
              case yb1 => (intro w hSw; obtain ⟨_, _⟩ := hSw; (go_simp; with_reducible rfl))
              simp only [Act.put, List.getElem_toArray, List.getElem_cons_zero, List.getElem_cons_succ, List.setIfInBounds_toArray, List.set_cons_zero, List.set_cons_succ]
              refine J_takeO 2 (v := ?vb2) rfl (by kernel_rfl) (by kernel_rfl) (by kernel_rfl) (by kernel_rfl) (fun _ _ _ h => h) (Or.inl ⟨by rfl, ?yb2⟩) I0 ?rb2
              case yb2 => (intro w hSw; obtain ⟨_, _⟩ := hSw; (go_simp; with_reducible rfl))
              simp only [Act.put, List.getElem_toArray, List.getElem_cons_zero, List.getElem_cons_succ, List.setIfInBounds_toArray, List.set_cons_zero, List.set_cons_succ]
              refine J_takeO 3 (v := ?vb3) rfl (by kernel_rfl) (by kernel_rfl) (by kernel_rfl) (by kernel_rfl) (fun _ _ _ h => h) (Or.inl ⟨by rfl, ?yb3⟩) I0 ?rb3
              case yb3 => (intro w hSw; obtain ⟨_, _⟩ := hSw; (go_simp; with_reducible rfl))
              simp only [Act.put, List.getElem_toArray, List.getElem_cons_zero, List.getElem_cons_succ, List.setIfInBounds_toArray, List.set_cons_zero, List.set_cons_succ]
              refine J_takeO 4 (v := ?vb4) rfl (by kernel_rfl) (by kernel_rfl) (by kernel_rfl) (by kernel_rfl) (fun _ _ _ h => h) (Or.inl ⟨by rfl, ?yb4⟩) I0 ?rb4
              case yb4 => (intro w hSw; obtain ⟨_, _⟩ := hSw; (go_simp; with_reducible rfl))
              simp only [Act.put, List.getElem_toArray, List.getElem_cons_zero, List.getElem_cons_succ, List.setIfInBounds_toArray, List.set_cons_zero, List.set_cons_succ]
              refine J_takeO 5 (v := ?vb5) rfl (by kernel_rfl) (by kernel_rfl) (by kernel_rfl) (by kernel_rfl) (fun _ _ _ h => h) (Or.inl ⟨by rfl, ?yb5⟩) I0 ?rb5
              case yb5 => (intro w hSw; obtain ⟨_, _⟩ := hSw; (go_simp; with_reducible rfl))
              simp only [Act.put, List.getElem_toArray, List.getElem_cons_zero, List.getElem_cons_succ, List.setIfInBounds_toArray, List.set_cons_zero, List.set_cons_succ]
              refine J_takeO 6 (v := ?vb6) rfl (by kernel_rfl) (by kernel_rfl) (by kernel_rfl) (by kernel_rfl) (fun _ _ _ h => h) (Or.inl ⟨by rfl, ?yb6⟩) I0 ?rb6
              case yb6 => (intro w hSw; obtain ⟨_, _⟩ := hSw; (go_simp; with_reducible rfl))
              simp only [Act.put, List.getElem_toArray, List.getElem_cons_zero, List.getElem_cons_succ, List.setIfInBounds_toArray, List.set_cons_zero, List.set_cons_succ]
              refine J_takeO 7 (v := ?vb7) rfl (by kernel_rfl) (by kernel_rfl) (by kernel_rfl) (by kernel_rfl) (fun _ _ _ h => h) (Or.inl ⟨by rfl, ?yb7⟩) I0 ?rb7
              case yb7 => (intro w hSw; obtain ⟨_, _⟩ := hSw; (go_simp; with_reducible rfl))
              simp only [Act.put, List.getElem_toArray, List.getElem_cons_zero, List.getElem_cons_succ, List.setIfInBounds_toArray, List.set_cons_zero, List.set_cons_succ]
              refine J_takeO 8 (v := ?vb8) rfl (by kernel_rfl) (by kernel_rfl) (by kernel_rfl) (by kernel_rfl) (fun _ _ _ h => h) (Or.inl ⟨by rfl, ?yb8⟩) I0 ?rb8
              case yb8 => (intro w hSw; obtain ⟨_, _⟩ := hSw; (go_simp; with_reducible rfl))
              simp only [Act.put, List.getElem_toArray, List.getElem_cons_zero, List.getElem_cons_succ, List.setIfInBounds_toArray, List.set_cons_zero, List.set_cons_succ]
              refine J_takeO 9 (v := ?vb9) rfl (by kernel_rfl) (by kernel_rfl) (by kernel_rfl) (by kernel_rfl) (fun _ _ _ h => h) (Or.inl ⟨by rfl, ?yb9⟩) I0 ?rb9
              case yb9 => (intro w hSw; obtain ⟨_, _⟩ := hSw; (go_simp; with_reducible rfl))
              simp only [Act.put, List.getElem_toArray, List.getElem_cons_zero, List.getElem_cons_succ, List.setIfInBounds_toArray, List.set_cons_zero, List.set_cons_succ]
              refine J_takeO 10 (v := ?vb10) rfl (by kernel_rfl) (by kernel_rfl) (by kernel_rfl) (by kernel_rfl) (fun _ _ _ h => h) (Or.inl ⟨by rfl, ?yb10⟩) I0 ?rb10
              case yb10 => (intro w hSw; obtain ⟨_, _⟩ := hSw; (go_simp; with_reducible rfl))
              simp only [Act.put, List.getElem_toArray, List.getElem_cons_zero, List.getElem_cons_succ, List.setIfInBounds_toArray, List.set_cons_zero, List.set_cons_succ]
              refine J_takeO 11 (v := ?vb11) rfl (by kernel_rfl) (by kernel_rfl) (by kernel_rfl) (by kernel_rfl) (fun _ _ _ h => h) (Or.inl ⟨by rfl, ?yb11⟩) I0 ?rb11
              case yb11 => (intro w hSw; obtain ⟨_, _⟩ := hSw; (go_simp; with_reducible rfl))
              simp only [Act.put, List.getElem_toArray, List.getElem_cons_zero, List.getElem_cons_succ, List.setIfInBounds_toArray, List.set_cons_zero, List.set_cons_succ]
              refine J_takeO 12 (v := ?vb12) rfl (by kernel_rfl) (by kernel_rfl) (by kernel_rfl) (by kernel_rfl) (fun _ _ _ h => h) (Or.inl ⟨by rfl, ?yb12⟩) I0 ?rb12
              case yb12 => (intro w hSw; obtain ⟨_, _⟩ := hSw; (go_simp; with_reducible rfl))
              simp only [Act.put, List.getElem_toArray, List.getElem_cons_zero, List.getElem_cons_succ, List.setIfInBounds_toArray, List.set_cons_zero, List.set_cons_succ]
              refine J_takeO 13 (v := ?vb13) rfl (by kernel_rfl) (by kernel_rfl) (by kernel_rfl) (by kernel_rfl) (fun _ _ _ h => h) (Or.inl ⟨by rfl, ?yb13⟩) I0 ?rb13
              case yb13 => (intro w hSw; obtain ⟨_, _⟩ := hSw; (go_simp; with_reducible rfl))
              simp only [Act.put, List.getElem_toArray, List.getElem_cons_zero, List.getElem_cons_succ, List.setIfInBounds_toArray, List.set_cons_zero, List.set_cons_succ]
              refine J_takeO 14 (v := ?vb14) rfl (by kernel_rfl) (by kernel_rfl) (by kernel_rfl) (by kernel_rfl) (fun _ _ _ h => h) (Or.inl ⟨by rfl, ?yb14⟩) I0 ?rb14
              case yb14 => (intro w hSw; obtain ⟨_, _⟩ := hSw; (go_simp; with_reducible rfl))
              simp only [Act.put, List.getElem_toArray, List.getElem_cons_zero, List.getElem_cons_succ, List.setIfInBounds_toArray, List.set_cons_zero, List.set_cons_succ]
              refine J_takeO 15 (v := ?vb15) rfl (by kernel_rfl) (by kernel_rfl) (by kernel_rfl) (by kernel_rfl) (fun _ _ _ h => h) (Or.inl ⟨by rfl, ?yb15⟩) I0 ?rb15
              case yb15 => (intro w hSw; obtain ⟨_, _⟩ := hSw; (go_simp; with_reducible rfl))
              simp only [Act.put, List.getElem_toArray, List.getElem_cons_zero, List.getElem_cons_succ, List.setIfInBounds_toArray, List.set_cons_zero, List.set_cons_succ]
              refine J_takeO 16 rfl (by kernel_rfl) (by kernel_rfl) (by kernel_rfl) (by kernel_rfl) (fun _ _ _ h => h) (Or.inr ⟨by rfl, rfl⟩) I0 ?_
              simp only [Act.put, List.getElem_toArray, List.getElem_cons_zero, List.getElem_cons_succ, List.setIfInBounds_toArray, List.set_cons_zero, List.set_cons_succ]
              refine J_takeO 17 rfl (by kernel_rfl) (by kernel_rfl) (by kernel_rfl) (by kernel_rfl) (fun _ _ _ h => h) (Or.inr ⟨by rfl, rfl⟩) I0 ?_
              simp only [Act.put, List.getElem_toArray, List.getElem_cons_zero, List.getElem_cons_succ, List.setIfInBounds_toArray, List.set_cons_zero, List.set_cons_succ]
              refine J_takeO 18 rfl (by kernel_rfl) (by kernel_rfl) (by kernel_rfl) (by kernel_rfl) (fun _ _ _ h => h) (Or.inr ⟨by rfl, rfl⟩) I0 ?_
              simp only [Act.put, List.getElem_toArray, List.getElem_cons_zero, List.getElem_cons_succ, List.setIfInBounds_toArray, List.set_cons_zero, List.set_cons_succ]
              refine J_takeO 19 rfl (by kernel_rfl) (by kernel_rfl) (by kernel_rfl) (by kernel_rfl) (fun _ _ _ h => h) (Or.inr ⟨by rfl, rfl⟩) I0 ?_
              simp only [Act.put, List.getElem_toArray, List.getElem_cons_zero, List.getElem_cons_succ, List.setIfInBounds_toArray, List.set_cons_zero, List.set_cons_succ]
              refine J_takeO 20 rfl (by kernel_rfl) (by kernel_rfl) (by kernel_rfl) (by kernel_rfl) (fun _ _ _ h => h) (Or.inr ⟨by rfl, rfl⟩) I0 ?_
              simp only [Act.put, List.getElem_toArray, List.getElem_cons_zero, List.getElem_cons_succ, List.setIfInBounds_toArray, List.set_cons_zero, List.set_cons_succ]
              refine J_takeO 21 rfl (by kernel_rfl) (by kernel_rfl) (by kernel_rfl) (by kernel_rfl) (fun _ _ _ h => h) (Or.inr ⟨by rfl, rfl⟩) I0 ?_
              simp only [Act.put, List.getElem_toArray, List.getElem_cons_zero, List.getElem_cons_succ, List.setIfInBounds_toArray, List.set_cons_zero, List.set_cons_succ]
              refine J_takeO 22 rfl (by kernel_rfl) (by kernel_rfl) (by kernel_rfl) (by kernel_rfl) (fun _ _ _ h => h) (Or.inr ⟨by rfl, rfl⟩) I0 ?_
              simp only [Act.put, List.getElem_toArray, List.getElem_cons_zero, List.getElem_cons_succ, List.setIfInBounds_toArray, List.set_cons_zero, List.set_cons_succ]
              refine J_takeO 23 (v := ?vb23) rfl (by kernel_rfl) (by kernel_rfl) (by kernel_rfl) (by kernel_rfl) (fun _ _ _ h => h) (Or.inl ⟨by rfl, ?yb23⟩) I0 ?rb23
              case yb23 => (intro w hSw; obtain ⟨_, _⟩ := hSw; (go_simp; with_reducible rfl))
              simp only [Act.put, List.getElem_toArray, List.getElem_cons_zero, List.getElem_cons_succ, List.setIfInBounds_toArray, List.set_cons_zero, List.set_cons_succ]
              refine J_done (by kernel_rfl) (OnlyOn.normal ?_)
              go_wp2
              go_ret
              exact ⟨ret_bool hno.out.symm, hR9.out.ext⟩
            · obtain ⟨m, rfl⟩ : ∃ m : Nat, u = (m : Int) := ⟨u.toNat, by omega⟩
              have hmn : m < n := by omega
              have zf := rowF_cell hR.out.row hmn
              have lg := World.block_lt_of_cell? _ _ zf
              dsimp only at lg
              have hRs := hid (hR9.out.set (hfl.out m rfl))
              cases hfm : flg xs k q m with
              | true =>
                have hno := hid (hno0.out (fun h => h.2.2 (flg_mem.1 hfm)))
                rw [hfm] at zf
                clear hno0 hok1 hfl hok hR hRs hfm
                go_upto_region 9 with fail
                have I0 : (fun w' : World => w'.cell? ⟨b, 0, none⟩ = some (.slice (some ad0) n c) ∧ w'.cell? (kad.add q) = some (.int .i64 (m : Int)) ∧ w'.cell? ⟨g, m, none⟩ = some (.bool true)) wr.drew := ⟨zb, z2, zf⟩
                refine region_J (fun w' : World => w'.cell? ⟨b, 0, none⟩ = some (.slice (some ad0) n c) ∧ w'.cell? (kad.add q) = some (.int .i64 (m : Int)) ∧ w'.cell? ⟨g, m, none⟩ = some (.bool true)) 24 (by kernel_rfl) ?_
                clear zb z2 zf
                generalize wr.drew = w9 at *
                refine J_takeO 0 (v := ?vc0) rfl (by kernel_rfl) (by kernel_rfl) (by kernel_rfl) (by kernel_rfl) (fun _ _ _ h => h) (Or.inl ⟨by rfl, ?yc0⟩) I0 ?rc0
                case yc0 => (intro w hSw; obtain ⟨_, _, _⟩ := hSw; (go_simp; with_reducible rfl))
                simp only [Act.put, List.getElem_toArray, List.getElem_cons_zero, List.getElem_cons_succ, List.setIfInBounds_toArray, List.set_cons_zero, List.set_cons_succ]
                refine J_takeO 1 (v := ?vc1) rfl (by kernel_rfl) (by kernel_rfl) (by kernel_rfl) (by kernel_rfl) (fun _ _ _ h => h) (Or.inl ⟨by rfl, ?yc1⟩) I0 ?rc1
                case yc1 => (intro w hSw; obtain ⟨_, _, _⟩ := hSw; (go_simp; with_reducible rfl))
                simp only [Act.put, List.getElem_toArray, List.getElem_cons_zero, List.getElem_cons_succ, List.setIfInBounds_toArray, List.set_cons_zero, List.set_cons_succ]
                refine J_takeO 2 (v := ?vc2) rfl (by kernel_rfl) (by kernel_rfl) (by kernel_rfl) (by kernel_rfl) (fun _ _ _ h => h) (Or.inl ⟨by rfl, ?yc2⟩) I0 ?rc2
                case yc2 => (intro w hSw; obtain ⟨_, _, _⟩ := hSw; (go_simp; with_reducible rfl))
                simp only [Act.put, List.getElem_toArray, List.getElem_cons_zero, List.getElem_cons_succ, List.setIfInBounds_toArray, List.set_cons_zero, List.set_cons_succ]
                refine J_takeO 3 (v := ?vc3) rfl (by kernel_rfl) (by kernel_rfl) (by kernel_rfl) (by kernel_rfl) (fun _ _ _ h => h) (Or.inl ⟨by rfl, ?yc3⟩) I0 ?rc3
                case yc3 => (intro w hSw; obtain ⟨_, _, _⟩ := hSw; (go_simp; with_reducible rfl))
                simp only [Act.put, List.getElem_toArray, List.getElem_cons_zero, List.getElem_cons_succ, List.setIfInBounds_toArray, List.set_cons_zero, List.set_cons_succ]
                refine J_takeO 4 (v := ?vc4) rfl (by kernel_rfl) (by kernel_rfl) (by kernel_rfl) (by kernel_rfl) (fun _ _ _ h => h) (Or.inl ⟨by rfl, ?yc4⟩) I0 ?rc4
                case yc4 => (intro w hSw; obtain ⟨_, _, _⟩ := hSw; (go_simp; with_reducible rfl))
                simp only [Act.put, List.getElem_toArray, List.getElem_cons_zero, List.getElem_cons_succ, List.setIfInBounds_toArray, List.set_cons_zero, List.set_cons_succ]
                refine J_takeO 5 (v := ?vc5) rfl (by kernel_rfl) (by kernel_rfl) (by kernel_rfl) (by kernel_rfl) (fun _ _ _ h => h) (Or.inl ⟨by rfl, ?yc5⟩) I0 ?rc5
                case yc5 => (intro w hSw; obtain ⟨_, _, _⟩ := hSw; (go_simp; with_reducible rfl))
                simp only [Act.put, List.getElem_toArray, List.getElem_cons_zero, List.getElem_cons_succ, List.setIfInBounds_toArray, List.set_cons_zero, List.set_cons_succ]
                refine J_takeO 6 (v := ?vc6) rfl (by kernel_rfl) (by kernel_rfl) (by kernel_rfl) (by kernel_rfl) (fun _ _ _ h => h) (Or.inl ⟨by rfl, ?yc6⟩) I0 ?rc6
                case yc6 => (intro w hSw; obtain ⟨_, _, _⟩ := hSw; (go_simp; with_reducible rfl))
                simp only [Act.put, List.getElem_toArray, List.getElem_cons_zero, List.getElem_cons_succ, List.setIfInBounds_toArray, List.set_cons_zero, List.set_cons_succ]
                refine J_takeO 7 (v := ?vc7) rfl (by kernel_rfl) (by kernel_rfl) (by kernel_rfl) (by kernel_rfl) (fun _ _ _ h => h) (Or.inl ⟨by rfl, ?yc7⟩) I0 ?rc7
                case yc7 => (intro w hSw; obtain ⟨_, _, _⟩ := hSw; (go_simp; with_reducible rfl))
                simp only [Act.put, List.getElem_toArray, List.getElem_cons_zero, List.getElem_cons_succ, List.setIfInBounds_toArray, List.set_cons_zero, List.set_cons_succ]
                refine J_takeO 8 (v := ?vc8) rfl (by kernel_rfl) (by kernel_rfl) (by kernel_rfl) (by kernel_rfl) (fun _ _ _ h => h) (Or.inl ⟨by rfl, ?yc8⟩) I0 ?rc8
                case yc8 => (intro w hSw; obtain ⟨_, _, _⟩ := hSw; (go_simp; with_reducible rfl))
                simp only [Act.put, List.getElem_toArray, List.getElem_cons_zero, List.getElem_cons_succ, List.setIfInBounds_toArray, List.set_cons_zero, List.set_cons_succ]
                refine J_takeO 9 (v := ?vc9) rfl (by kernel_rfl) (by kernel_rfl) (by kernel_rfl) (by kernel_rfl) (fun _ _ _ h => h) (Or.inl ⟨by rfl, ?yc9⟩) I0 ?rc9
                case yc9 => (intro w hSw; obtain ⟨_, _, _⟩ := hSw; (go_simp; with_reducible rfl))
                simp only [Act.put, List.getElem_toArray, List.getElem_cons_zero, List.getElem_cons_succ, List.setIfInBounds_toArray, List.set_cons_zero, List.set_cons_succ]
                refine J_takeO 10 (v := ?vc10) rfl (by kernel_rfl) (by kernel_rfl) (by kernel_rfl) (by kernel_rfl) (fun _ _ _ h => h) (Or.inl ⟨by rfl, ?yc10⟩) I0 ?rc10
                case yc10 => (intro w hSw; obtain ⟨_, _, _⟩ := hSw; (go_simp; with_reducible rfl))
                simp only [Act.put, List.getElem_toArray, List.getElem_cons_zero, List.getElem_cons_succ, List.setIfInBounds_toArray, List.set_cons_zero, List.set_cons_succ]
                refine J_takeO 11 (v := ?vc11) rfl (by kernel_rfl) (by kernel_rfl) (by kernel_rfl) (by kernel_rfl) (fun _ _ _ h => h) (Or.inl ⟨by rfl, ?yc11⟩) I0 ?rc11
                case yc11 => (intro w hSw; obtain ⟨_, _, _⟩ := hSw; (go_simp; with_reducible rfl))
                simp only [Act.put, List.getElem_toArray, List.getElem_cons_zero, List.getElem_cons_succ, List.setIfInBounds_toArray, List.set_cons_zero, List.set_cons_succ]
                refine J_takeO 12 (v := ?vc12) rfl (by kernel_rfl) (by kernel_rfl) (by kernel_rfl) (by kernel_rfl) (fun _ _ _ h => h) (Or.inl ⟨by rfl, ?yc12⟩) I0 ?rc12
                case yc12 => (intro w hSw; obtain ⟨_, _, _⟩ := hSw; (go_simp; with_reducible rfl))
                simp only [Act.put, List.getElem_toArray, List.getElem_cons_zero, List.getElem_cons_succ, List.setIfInBounds_toArray, List.set_cons_zero, List.set_cons_succ]
                refine J_takeO 13 (v := ?vc13) rfl (by kernel_rfl) (by kernel_rfl) (by kernel_rfl) (by kernel_rfl) (fun _ _ _ h => h) (Or.inl ⟨by rfl, ?yc13⟩) I0 ?rc13
                case yc13 => (intro w hSw; obtain ⟨_, _, _⟩ := hSw; (go_simp; with_reducible rfl))
                simp only [Act.put, List.getElem_toArray, List.getElem_cons_zero, List.getElem_cons_succ, List.setIfInBounds_toArray, List.set_cons_zero, List.set_cons_succ]
                refine J_takeO 14 (v := ?vc14) rfl (by kernel_rfl) (by kernel_rfl) (by kernel_rfl) (by kernel_rfl) (fun _ _ _ h => h) (Or.inl ⟨by rfl, ?yc14⟩) I0 ?rc14
                case yc14 => (intro w hSw; obtain ⟨_, _, _⟩ := hSw; (go_simp; with_reducible rfl))
                simp only [Act.put, List.getElem_toArray, List.getElem_cons_zero, List.getElem_cons_succ, List.setIfInBounds_toArray, List.set_cons_zero, List.set_cons_succ]
                refine J_takeO 15 (v := ?vc15) rfl (by kernel_rfl) (by kernel_rfl) (by kernel_rfl) (by kernel_rfl) (fun _ _ _ h => h) (Or.inl ⟨by rfl, ?yc15⟩) I0 ?rc15
                case yc15 => (intro w hSw; obtain ⟨_, _, _⟩ := hSw; (go_simp; with_reducible rfl))
                simp only [Act.put, List.getElem_toArray, List.getElem_cons_zero, List.getElem_cons_succ, List.setIfInBounds_toArray, List.set_cons_zero, List.set_cons_succ]
                refine J_takeO 16 (v := ?vc16) rfl (by kernel_rfl) (by kernel_rfl) (by kernel_rfl) (by kernel_rfl) (fun _ _ _ h => h) (Or.inl ⟨by rfl, ?yc16⟩) I0 ?rc16
                case yc16 => (intro w hSw; obtain ⟨_, _, _⟩ := hSw; (go_simp; with_reducible rfl))
                simp only [Act.put, List.getElem_toArray, List.getElem_cons_zero, List.getElem_cons_succ, List.setIfInBounds_toArray, List.set_cons_zero, List.set_cons_succ]
                refine J_takeO 17 (v := ?vc17) rfl (by kernel_rfl) (by kernel_rfl) (by kernel_rfl) (by kernel_rfl) (fun _ _ _ h => h) (Or.inl ⟨by rfl, ?yc17⟩) I0 ?rc17
                case yc17 => (intro w hSw; obtain ⟨_, _, _⟩ := hSw; (go_simp; with_reducible rfl))
                simp only [Act.put, List.getElem_toArray, List.getElem_cons_zero, List.getElem_cons_succ, List.setIfInBounds_toArray, List.set_cons_zero, List.set_cons_succ]
                refine J_takeO 18 (v := ?vc18) rfl (by kernel_rfl) (by kernel_rfl) (by kernel_rfl) (by kernel_rfl) (fun _ _ _ h => h) (Or.inl ⟨by rfl, ?yc18⟩) I0 ?rc18
                case yc18 => (intro w hSw; obtain ⟨_, _, _⟩ := hSw; (go_simp; with_reducible rfl))
                simp only [Act.put, List.getElem_toArray, List.getElem_cons_zero, List.getElem_cons_succ, List.setIfInBounds_toArray, List.set_cons_zero, List.set_cons_succ]
                refine J_takeO 19 (v := ?vc19) rfl (by kernel_rfl) (by kernel_rfl) (by kernel_rfl) (by kernel_rfl) (fun _ _ _ h => h) (Or.inl ⟨by rfl, ?yc19⟩) I0 ?rc19
                case yc19 => (intro w hSw; obtain ⟨_, _, _⟩ := hSw; (go_simp; with_reducible rfl))
                simp only [Act.put, List.getElem_toArray, List.getElem_cons_zero, List.getElem_cons_succ, List.setIfInBounds_toArray, List.set_cons_zero, List.set_cons_succ]
                refine J_takeO 20 (v := ?vc20) rfl (by kernel_rfl) (by kernel_rfl) (by kernel_rfl) (by kernel_rfl) (fun _ _ _ h => h) (Or.inl ⟨by rfl, ?yc20⟩) I0 ?rc20
                case yc20 => (intro w hSw; obtain ⟨_, _, _⟩ := hSw; (go_simp; with_reducible rfl))
                simp only [Act.put, List.getElem_toArray, List.getElem_cons_zero, List.getElem_cons_succ, List.setIfInBounds_toArray, List.set_cons_zero, List.set_cons_succ]
                refine J_takeO 21 (v := ?vc21) rfl (by kernel_rfl) (by kernel_rfl) (by kernel_rfl) (by kernel_rfl) (fun _ _ _ h => h) (Or.inl ⟨by rfl, ?yc21⟩) I0 ?rc21
                case yc21 => (intro w hSw; obtain ⟨_, _, _⟩ := hSw; (go_simp; with_reducible rfl))
                simp only [Act.put, List.getElem_toArray, List.getElem_cons_zero, List.getElem_cons_succ, List.setIfInBounds_toArray, List.set_cons_zero, List.set_cons_succ]
                refine J_takeO 22 (v := ?vc22) rfl (by kernel_rfl) (by kernel_rfl) (by kernel_rfl) (by kernel_rfl) (fun _ _ _ h => h) (Or.inl ⟨by rfl, ?yc22⟩) I0 ?rc22
                case yc22 => (intro w hSw; obtain ⟨_, _, _⟩ := hSw; (go_simp; with_reducible rfl))
                simp only [Act.put, List.getElem_toArray, List.getElem_cons_zero, List.getElem_cons_succ, List.setIfInBounds_toArray, List.set_cons_zero, List.set_cons_succ]
                refine J_takeO 23 (v := ?vc23) rfl (by kernel_rfl) (by kernel_rfl) (by kernel_rfl) (by kernel_rfl) (fun _ _ _ h => h) (Or.inl ⟨by rfl, ?yc23⟩) I0 ?rc23
                case yc23 => (intro w hSw; obtain ⟨_, _, _⟩ := hSw; (go_simp; with_reducible rfl))
                simp only [Act.put, List.getElem_toArray, List.getElem_cons_zero, List.getElem_cons_succ, List.setIfInBounds_toArray, List.set_cons_zero, List.set_cons_succ]
                refine J_done (by kernel_rfl) (OnlyOn.normal ?_)
                go_wp2
                go_ret
                exact ⟨ret_bool hno.out.symm, hR9.out.ext⟩
              | false =>
                have hok2 := hid (hok1.out ⟨by omega, by omega, fun hc => by rw [flg_mem.2 hc] at hfm; cases hfm⟩)
                rw [hfm] at zf
                clear hno0 hok1 hfl hok hR hfm
                go_upto_region 9 with fail
                have I0 : (fun w' : World => w'.cell? ⟨b, 0, none⟩ = some (.slice (some ad0) n c) ∧ w'.cell? (kad.add q) = some (.int .i64 (m : Int)) ∧ w'.cell? ⟨g, m, none⟩ = some (.bool false)) wr.drew := ⟨zb, z2, zf⟩
                refine region_J (fun w' : World => w'.cell? ⟨b, 0, none⟩ = some (.slice (some ad0) n c) ∧ w'.cell? (kad.add q) = some (.int .i64 (m : Int)) ∧ w'.cell? ⟨g, m, none⟩ = some (.bool false)) 24 (by kernel_rfl) ?_
                clear zb z2 zf
                generalize wr.drew = w9 at *
                refine J_takeO 0 (v := ?vd0) rfl (by kernel_rfl) (by kernel_rfl) (by kernel_rfl) (by kernel_rfl) (fun _ _ _ h => h) (Or.inl ⟨by rfl, ?yd0⟩) I0 ?rd0
                case yd0 => (intro w hSw; obtain ⟨_, _, _⟩ := hSw; (go_simp; with_reducible rfl))
                simp only [Act.put, List.getElem_toArray, List.getElem_cons_zero, List.getElem_cons_succ, List.setIfInBounds_toArray, List.set_cons_zero, List.set_cons_succ]
                refine J_takeO 1 (v := ?vd1) rfl (by kernel_rfl) (by kernel_rfl) (by kernel_rfl) (by kernel_rfl) (fun _ _ _ h => h) (Or.inl ⟨by rfl, ?yd1⟩) I0 ?rd1
                case yd1 => (intro w hSw; obtain ⟨_, _, _⟩ := hSw; (go_simp; with_reducible rfl))
                simp only [Act.put, List.getElem_toArray, List.getElem_cons_zero, List.getElem_cons_succ, List.setIfInBounds_toArray, List.set_cons_zero, List.set_cons_succ]
                refine J_takeO 2 (v := ?vd2) rfl (by kernel_rfl) (by kernel_rfl) (by kernel_rfl) (by kernel_rfl) (fun _ _ _ h => h) (Or.inl ⟨by rfl, ?yd2⟩) I0 ?rd2
                case yd2 => (intro w hSw; obtain ⟨_, _, _⟩ := hSw; (go_simp; with_reducible rfl))
                simp only [Act.put, List.getElem_toArray, List.getElem_cons_zero, List.getElem_cons_succ, List.setIfInBounds_toArray, List.set_cons_zero, List.set_cons_succ]
                refine J_takeO 3 (v := ?vd3) rfl (by kernel_rfl) (by kernel_rfl) (by kernel_rfl) (by kernel_rfl) (fun _ _ _ h => h) (Or.inl ⟨by rfl, ?yd3⟩) I0 ?rd3
                case yd3 => (intro w hSw; obtain ⟨_, _, _⟩ := hSw; (go_simp; with_reducible rfl))
                simp only [Act.put, List.getElem_toArray, List.getElem_cons_zero, List.getElem_cons_succ, List.setIfInBounds_toArray, List.set_cons_zero, List.set_cons_succ]
                refine J_takeO 4 (v := ?vd4) rfl (by kernel_rfl) (by kernel_rfl) (by kernel_rfl) (by kernel_rfl) (fun _ _ _ h => h) (Or.inl ⟨by rfl, ?yd4⟩) I0 ?rd4
                case yd4 => (intro w hSw; obtain ⟨_, _, _⟩ := hSw; (go_simp; with_reducible rfl))
                simp only [Act.put, List.getElem_toArray, List.getElem_cons_zero, List.getElem_cons_succ, List.setIfInBounds_toArray, List.set_cons_zero, List.set_cons_succ]
                refine J_takeO 5 (v := ?vd5) rfl (by kernel_rfl) (by kernel_rfl) (by kernel_rfl) (by kernel_rfl) (fun _ _ _ h => h) (Or.inl ⟨by rfl, ?yd5⟩) I0 ?rd5
                case yd5 => (intro w hSw; obtain ⟨_, _, _⟩ := hSw; (go_simp; with_reducible rfl))
                simp only [Act.put, List.getElem_toArray, List.getElem_cons_zero, List.getElem_cons_succ, List.setIfInBounds_toArray, List.set_cons_zero, List.set_cons_succ]
                refine J_takeO 6 (v := ?vd6) rfl (by kernel_rfl) (by kernel_rfl) (by kernel_rfl) (by kernel_rfl) (fun _ _ _ h => h) (Or.inl ⟨by rfl, ?yd6⟩) I0 ?rd6
                case yd6 => (intro w hSw; obtain ⟨_, _, _⟩ := hSw; (go_simp; with_reducible rfl))
                simp only [Act.put, List.getElem_toArray, List.getElem_cons_zero, List.getElem_cons_succ, List.setIfInBounds_toArray, List.set_cons_zero, List.set_cons_succ]
                refine J_takeO 7 (v := ?vd7) rfl (by kernel_rfl) (by kernel_rfl) (by kernel_rfl) (by kernel_rfl) (fun _ _ _ h => h) (Or.inl ⟨by rfl, ?yd7⟩) I0 ?rd7
                case yd7 => (intro w hSw; obtain ⟨_, _, _⟩ := hSw; (go_simp; with_reducible rfl))
                simp only [Act.put, List.getElem_toArray, List.getElem_cons_zero, List.getElem_cons_succ, List.setIfInBounds_toArray, List.set_cons_zero, List.set_cons_succ]
                refine J_takeO 8 (v := ?vd8) rfl (by kernel_rfl) (by kernel_rfl) (by kernel_rfl) (by kernel_rfl) (fun _ _ _ h => h) (Or.inl ⟨by rfl, ?yd8⟩) I0 ?rd8
                case yd8 => (intro w hSw; obtain ⟨_, _, _⟩ := hSw; (go_simp; with_reducible rfl))
                simp only [Act.put, List.getElem_toArray, List.getElem_cons_zero, List.getElem_cons_succ, List.setIfInBounds_toArray, List.set_cons_zero, List.set_cons_succ]
                refine J_takeO 9 (v := ?vd9) rfl (by kernel_rfl) (by kernel_rfl) (by kernel_rfl) (by kernel_rfl) (fun _ _ _ h => h) (Or.inl ⟨by rfl, ?yd9⟩) I0 ?rd9
                case yd9 => (intro w hSw; obtain ⟨_, _, _⟩ := hSw; (go_simp; with_reducible rfl))
                simp only [Act.put, List.getElem_toArray, List.getElem_cons_zero, List.getElem_cons_succ, List.setIfInBounds_toArray, List.set_cons_zero, List.set_cons_succ]
                refine J_takeO 10 (v := ?vd10) rfl (by kernel_rfl) (by kernel_rfl) (by kernel_rfl) (by kernel_rfl) (fun _ _ _ h => h) (Or.inl ⟨by rfl, ?yd10⟩) I0 ?rd10
                case yd10 => (intro w hSw; obtain ⟨_, _, _⟩ := hSw; (go_simp; with_reducible rfl))
                simp only [Act.put, List.getElem_toArray, List.getElem_cons_zero, List.getElem_cons_succ, List.setIfInBounds_toArray, List.set_cons_zero, List.set_cons_succ]
                refine J_takeO 11 (v := ?vd11) rfl (by kernel_rfl) (by kernel_rfl) (by kernel_rfl) (by kernel_rfl) (fun _ _ _ h => h) (Or.inl ⟨by rfl, ?yd11⟩) I0 ?rd11
                case yd11 => (intro w hSw; obtain ⟨_, _, _⟩ := hSw; (go_simp; with_reducible rfl))
                simp only [Act.put, List.getElem_toArray, List.getElem_cons_zero, List.getElem_cons_succ, List.setIfInBounds_toArray, List.set_cons_zero, List.set_cons_succ]
                refine J_takeO 12 (v := ?vd12) rfl (by kernel_rfl) (by kernel_rfl) (by kernel_rfl) (by kernel_rfl) (fun _ _ _ h => h) (Or.inl ⟨by rfl, ?yd12⟩) I0 ?rd12
                case yd12 => (intro w hSw; obtain ⟨_, _, _⟩ := hSw; (go_simp; with_reducible rfl))
                simp only [Act.put, List.getElem_toArray, List.getElem_cons_zero, List.getElem_cons_succ, List.setIfInBounds_toArray, List.set_cons_zero, List.set_cons_succ]
                refine J_takeO 13 (v := ?vd13) rfl (by kernel_rfl) (by kernel_rfl) (by kernel_rfl) (by kernel_rfl) (fun _ _ _ h => h) (Or.inl ⟨by rfl, ?yd13⟩) I0 ?rd13
                case yd13 => (intro w hSw; obtain ⟨_, _, _⟩ := hSw; (go_simp; with_reducible rfl))
                simp only [Act.put, List.getElem_toArray, List.getElem_cons_zero, List.getElem_cons_succ, List.setIfInBounds_toArray, List.set_cons_zero, List.set_cons_succ]
                refine J_takeO 14 (v := ?vd14) rfl (by kernel_rfl) (by kernel_rfl) (by kernel_rfl) (by kernel_rfl) (fun _ _ _ h => h) (Or.inl ⟨by rfl, ?yd14⟩) I0 ?rd14
                case yd14 => (intro w hSw; obtain ⟨_, _, _⟩ := hSw; (go_simp; with_reducible rfl))
                simp only [Act.put, List.getElem_toArray, List.getElem_cons_zero, List.getElem_cons_succ, List.setIfInBounds_toArray, List.set_cons_zero, List.set_cons_succ]
                refine J_takeO 15 (v := ?vd15) rfl (by kernel_rfl) (by kernel_rfl) (by kernel_rfl) (by kernel_rfl) (fun _ _ _ h => h) (Or.inl ⟨by rfl, ?yd15⟩) I0 ?rd15
                case yd15 => (intro w hSw; obtain ⟨_, _, _⟩ := hSw; (go_simp; with_reducible rfl))
                simp only [Act.put, List.getElem_toArray, List.getElem_cons_zero, List.getElem_cons_succ, List.setIfInBounds_toArray, List.set_cons_zero, List.set_cons_succ]
                refine J_takeO 16 (v := ?vd16) rfl (by kernel_rfl) (by kernel_rfl) (by kernel_rfl) (by kernel_rfl) (fun _ _ _ h => h) (Or.inl ⟨by rfl, ?yd16⟩) I0 ?rd16
                case yd16 => (intro w hSw; obtain ⟨_, _, _⟩ := hSw; (go_simp; with_reducible rfl))
                simp only [Act.put, List.getElem_toArray, List.getElem_cons_zero, List.getElem_cons_succ, List.setIfInBounds_toArray, List.set_cons_zero, List.set_cons_succ]
                refine J_takeO 17 (v := ?vd17) rfl (by kernel_rfl) (by kernel_rfl) (by kernel_rfl) (by kernel_rfl) (fun _ _ _ h => h) (Or.inl ⟨by rfl, ?yd17⟩) I0 ?rd17
                case yd17 => (intro w hSw; obtain ⟨_, _, _⟩ := hSw; (go_simp; with_reducible rfl))
                simp only [Act.put, List.getElem_toArray, List.getElem_cons_zero, List.getElem_cons_succ, List.setIfInBounds_toArray, List.set_cons_zero, List.set_cons_succ]
                refine J_takeO 18 (v := ?vd18) rfl (by kernel_rfl) (by kernel_rfl) (by kernel_rfl) (by kernel_rfl) (fun _ _ _ h => h) (Or.inl ⟨by rfl, ?yd18⟩) I0 ?rd18
                case yd18 => (intro w hSw; obtain ⟨_, _, _⟩ := hSw; (go_simp; with_reducible rfl))
                simp only [Act.put, List.getElem_toArray, List.getElem_cons_zero, List.getElem_cons_succ, List.setIfInBounds_toArray, List.set_cons_zero, List.set_cons_succ]
                refine J_takeO 19 (v := ?vd19) rfl (by kernel_rfl) (by kernel_rfl) (by kernel_rfl) (by kernel_rfl) (fun _ _ _ h => h) (Or.inl ⟨by rfl, ?yd19⟩) I0 ?rd19
                case yd19 => (intro w hSw; obtain ⟨_, _, _⟩ := hSw; (go_simp; with_reducible rfl))
                simp only [Act.put, List.getElem_toArray, List.getElem_cons_zero, List.getElem_cons_succ, List.setIfInBounds_toArray, List.set_cons_zero, List.set_cons_succ]
                refine J_takeO 20 (v := ?vd20) rfl (by kernel_rfl) (by kernel_rfl) (by kernel_rfl) (by kernel_rfl) (fun _ _ _ h => h) (Or.inl ⟨by rfl, ?yd20⟩) I0 ?rd20
                case yd20 => (intro w hSw; obtain ⟨_, _, _⟩ := hSw; (go_simp; with_reducible rfl))
                simp only [Act.put, List.getElem_toArray, List.getElem_cons_zero, List.getElem_cons_succ, List.setIfInBounds_toArray, List.set_cons_zero, List.set_cons_succ]
                refine J_takeO 21 (v := ?vd21) rfl (by kernel_rfl) (by kernel_rfl) (by kernel_rfl) (by kernel_rfl) (fun _ _ _ h => h) (Or.inl ⟨by rfl, ?yd21⟩) I0 ?rd21
                case yd21 => (intro w hSw; obtain ⟨_, _, _⟩ := hSw; (go_simp; with_reducible rfl))
                simp only [Act.put, List.getElem_toArray, List.getElem_cons_zero, List.getElem_cons_succ, List.setIfInBounds_toArray, List.set_cons_zero, List.set_cons_succ]
                refine J_takeO 22 (v := ?vd22) rfl (by kernel_rfl) (by kernel_rfl) (by kernel_rfl) (by kernel_rfl) (fun _ _ _ h => h) (Or.inl ⟨by rfl, ?yd22⟩) I0 ?rd22
                case yd22 => (intro w hSw; obtain ⟨_, _, _⟩ := hSw; (go_simp; with_reducible rfl))
                simp only [Act.put, List.getElem_toArray, List.getElem_cons_zero, List.getElem_cons_succ, List.setIfInBounds_toArray, List.set_cons_zero, List.set_cons_succ]
                refine J_takeO 23 (v := ?vd23) rfl (by kernel_rfl) (by kernel_rfl) (by kernel_rfl) (by kernel_rfl) (fun _ _ _ h => h) (Or.inl ⟨by rfl, ?yd23⟩) I0 ?rd23
                case yd23 => (intro w hSw; obtain ⟨_, _, _⟩ := hSw; (go_simp; with_reducible rfl))
                simp only [Act.put, List.getElem_toArray, List.getElem_cons_zero, List.getElem_cons_succ, List.setIfInBounds_toArray, List.set_cons_zero, List.set_cons_succ]
                refine J_done (by kernel_rfl) (OnlyOn.normal ?_)
                have zg := Lib.frozen_of_heap hR9.out.row m
                have lg9 := (Array.getElem?_eq_some_iff.1 hR9.out.row).1
                have zb9 := hR9.out.box
                have zk9 := I0.2.1
                have zf9 := I0.2.2
                clear I0
                go_wp2
                go_roundw
                case rel => exact ⟨q + 1, by omega, by go_num, hok2, hRs⟩
                case measure => simp [intOf]; omega
        · obtain rfl : q = (xth xs k).kids.length := by omega
          have hok2 : Hid (okP n (preK xs (k + 1) 0)) := by unfold Hid; rw [← preK_next hkl.out]; exact hok.out
          have hR2 : Hid (RT w wr b g (some ad0) n c (flg xs (k + 1) 0)) := by unfold Hid; rw [← flg_next hkl.out]; exact hR.out
          clear hok hR
          go_wp2
          go_roundw
          case rel => exact ⟨k + 1, by omega, by go_num, hok2, hR2⟩
          case measure => simp [intOf]; omega
    · obtain rfl : n = k := by omega
      clear hlt
      have okA : Hid (okP xs.length (allK xs)) := by unfold Hid; rw [← preK_all xs, hl.out]; exact hok.out
      obtain ⟨ad0, -, -, -, -, -, -, rfl, -⟩ := hr.out.at_ (k := 0) (by omega)
      have hbs : b < w0.heap.size := lb
      have hRV : Hid (RV w ((newF w0 n).alloc (.cells #[.int .i64 0] 3)) b w0.heap.size (w0.heap.size + 1) (some ad0) n c [] (.slice (some ⟨w0.heap.size + 1, 0, none⟩) 1 1) [0]) := by
        have hxn := (newF_ext w0 n).trans ((Ext.refl (newF w0 n)).alloc_right (.cells #[.int .i64 0] 3))
        have hrow := (((Ext.refl (newF w0 n)).alloc_right (.cells #[.int .i64 0] 3)).block (Array.getElem?_eq_some_iff.1 (newF_row w0 n)).1).trans (newF_row w0 n)
        have hq0 := heap_alloc_new (newF w0 n) (.cells #[.int .i64 0] 3)
        rw [newF_size] at hq0
        refine ⟨⟨hR.out.ext.trans hxn, hxn.cell zb, hrow, hR.out.ext.size, by omega⟩, ⟨_, _, 0, 1, rfl, ⟨Nat.le_refl _, by decide, fun _ => rfl, fun _ => (Array.getElem?_eq_some_iff.1 hq0).1, fun _ => Nat.le_refl _, fun j u hu => ?_, fun j hj => ?_⟩⟩, by omega, by omega, by simp [newF_size]⟩
        · rw [Nat.zero_add, Lib.cell_of_heap hq0]
          have hu2 : ([Value.int .i64 0] : List Value)[j]? = some u := hu
          simpa using hu2
        · obtain rfl : j = 0 := by omega
          rw [Nat.zero_add]
          exact ⟨by rw [Lib.cell_of_heap hq0]; rfl, Lib.frozen_of_heap hq0 0⟩
      clear lb hR hok
      have mk := mkF n (by omega)
      go_upto_region 15 with fail
      obtain ⟨g2, hg2⟩ : ∃ g2, g2 = w0.heap.size := ⟨_, rfl⟩
      rw [← hg2] at hRV
      try simp only [newF_size]
      try simp only [← hg2]
      replace hg2 := hid hg2
      generalize (newF w0 n).alloc (.cells #[.int .i64 0] 3) = w3 at *
      clear hbs zb mk
      go_loopw [8, 9] (fun q m wr => ∃ (V todo : List Nat) (Aq : Option Addr) (cq : Nat), m = .int .i64 V.length ∧ q = .slice Aq todo.length cq ∧ Hid (Vis xs V todo) ∧ Hid (RV w wr b g2 (g2 + 1) (some ad0) n c V (.slice Aq todo.length cq) (toI todo))) (fun _ m _ => n - (intOf m).toNat)
      case atStart => exact ⟨[], [0], _, _, rfl, rfl, Vis.start, hRV⟩
      case round =>
        clear hRV
        obtain ⟨V, todo, Aq, cq, rfl, rfl, hV, hR⟩ := hrel
        have hle2 := hV.out.le2 okA.out (by rw [hl.out]; omega)
        rw [hl.out] at hle2
        have zb := hR.out.rt.box
        have lb := World.block_lt_of_cell? _ _ zb
        dsimp only at lb
        cases todo with
        | nil =>
          have htr := hV.out.tree okA.out (by rw [hl.out]; omega)
          rw [hl.out] at htr
          replace htr := hid htr
          clear hV
          go_wp2
          go_ret
          refine ⟨ret_bool ?_, hR.out.rt.ext⟩
          rw [← htr.out]
          rw [Bool.eq_iff_iff, decide_eq_true_iff]
          simp [Int.ofNat_inj]
        | cons k rest =>
          have hst := hV.out.step okA.out (List.Perm.refl _)
          have hkV := hst.2
          have hV2 := hid hst.1
          have hkn : k < n := by have := hV.out.lt okA.out (by rw [hl.out]; omega) k (by simp); rw [hl.out] at this; exact this
          rw [List.length_cons] at hle2
          have zf := rowF_cell hR.out.rt.row hkn
          rw [show V.contains k = false from by simpa using hkV] at zf
          have zg := Lib.frozen_of_heap hR.out.rt.row k
          have lg := World.block_lt_of_cell? _ _ zf
          dsimp only at lg
          obtain ⟨qa, rfl, zq, hqn, hc1, hcm, hq2⟩ := Que.head (x := (k : Int)) (l := toI rest) hR.out.que
          have zq0 : wr.cell? qa = some (.int .i64 (k : Int)) := by rwa [show qa.add 0 = qa by unfold Addr.add; simp] at zq
          have lqa := World.block_lt_of_cell? _ _ zq0
          obtain ⟨ad0', A1, c1, A2, c2, A3, c3, hA, y0, y1, y2, -, -, r3⟩ := hr.out.at_ hkn
          injection hA with hA
          subst hA
          have h5k := h5.out k hkn
          have hRs : Hid (RT w (wr.setCell ⟨g2, k, none⟩ (.bool true)) b g2 (some ad0) n c (fun u => (V ++ [k]).contains u)) := hR.out.rt.set (fun u => by simp)
          have hqs : Hid (Que (wr.setCell ⟨g2, k, none⟩ (.bool true)) (fun k => g2 + 1 ≤ k) _ (toI rest)) := hq2.set (by omega)
          have hbg := hR.out.hb
          have hBs : Hid (g2 + 1 ≤ (wr.setCell ⟨g2, k, none⟩ (.bool true)).heap.size) := by unfold Hid; rw [World.size_setCell]; exact hR.out.hB
          have hms : n - (V.length + 1) < n - V.length := by omega
          have hln : Hid ((V ++ [k]).length = V.length + 1) := by simp [Hid]
          replace y2 := hRs.out.ext.cell y2
          replace r3 := hid (r3.ext hRs.out.ext)
          have zb2 := hRs.out.box
          have hrl : Hid ((toI rest).length = rest.length) := by simp [Hid, toI]
          have htk := hid (toI_kd okA.out k)
          have hkl3 : (xth xs k).kids.length ≤ 5 := h5k
          clear hV hst hkV hqn hq2 y0 y1 h5k
          replace hR := hid hR.out.hb
          have hwi := IntWalk.i64_in ((V.length : Int) + 1) (by omega)
          have hrl0 := hrl.out
          have hqc := (Que.form hqs.out)
          by_cases hcq : cq = 1
          · subst hcq
            have hr0 : rest = [] := by
              obtain ⟨A9, c9, e9, h9, -⟩ := hqc
              injection e9 with _ _ e9
              exact List.eq_nil_of_length_eq_zero (by omega)
            subst hr0
            have hq3 : Hid (Que (wr.setCell ⟨g2, k, none⟩ (.bool true)) (fun k => g2 + 1 ≤ k) (.slice (some qa) 0 0) (toI [])) := by
              have h9 := hqs.out
              rw [hrl0, if_pos rfl] at h9
              exact h9
            clear hqs hrl0 hqc
            go_upto_region 21 with fail
            generalize wr.setCell ⟨g2, k, none⟩ (.bool true) = wy at *
            obtain ⟨v', w', happ, hq4, h4a, h4b, h4c, h4d, h4e⟩ := hq3.out.append (fun g hg => by have := hBs.out; omega) r3.out (by rw [show (toI []).length = 0 from rfl]; omega) 23
            have hRV1 := hid ((RV.mk hRs.out hq3.out hbg (by omega) hBs.out).app hq4 h4a h4b h4c h4d h4e)
            obtain ⟨Ax, cx, rfl, -⟩ := hq4.form
            replace happ := hid happ
            clear hq3 hRs hq4 h4a h4b h4c h4d h4e hBs zf zg zq zq0
            go_wp2_with (at_builtin; refine wpList_app rfl _ _ 23 23 rfl _ _ rfl rfl _ happ.out ?_)
            go_wp2_with fail
            go_roundw
            case rel =>
              refine ⟨V ++ [k], ([] : List Nat) ++ kd xs k, Ax, cx, by rw [hln.out]; go_num, ?_, hV2, ?_⟩
              · congr 1
                simp [toI, kd_len]
              · have h9 := hRV1.out
                rw [← htk.out] at h9
                have e9 : toI ([] : List Nat) ++ toI (kd xs k) = toI (([] : List Nat) ++ kd xs k) := by simp [toI]
                rw [e9] at h9
                have e8 : (toI (([] : List Nat) ++ kd xs k)).length = (([] : List Nat) ++ kd xs k).length := by simp [toI]
                rw [e8] at h9
                exact h9
            case measure => simp [intOf]; omega
          · have hq3 : Hid (Que (wr.setCell ⟨g2, k, none⟩ (.bool true)) (fun k => g2 + 1 ≤ k) (.slice (some ⟨qa.block, qa.off + 1, none⟩) rest.length (cq - 1)) (toI rest)) := by
              have h9 := hqs.out
              rw [hrl0, if_neg hcq, Option.map_some, show qa.add 1 = ⟨qa.block, qa.off + 1, none⟩ from rfl] at h9
              exact h9
            clear hqs hrl0 hqc
            go_upto_region 21 with fail
            generalize wr.setCell ⟨g2, k, none⟩ (.bool true) = wy at *
            obtain ⟨v', w', happ, hq4, h4a, h4b, h4c, h4d, h4e⟩ := hq3.out.append (fun g hg => by have := hBs.out; omega) r3.out (by rw [hrl.out]; omega) 23
            have hRV1 := hid ((RV.mk hRs.out hq3.out hbg (by omega) hBs.out).app hq4 h4a h4b h4c h4d h4e)
            obtain ⟨Ax, cx, rfl, -⟩ := hq4.form
            replace happ := hid happ
            clear hq3 hRs hq4 h4a h4b h4c h4d h4e hBs zf zg zq zq0
            go_wp2_with (at_builtin; refine wpList_app rfl _ _ 23 23 rfl _ _ rfl rfl _ happ.out ?_)
            go_wp2_with fail
            go_roundw
            case rel =>
              refine ⟨V ++ [k], rest ++ kd xs k, Ax, cx, by rw [hln.out]; go_num, ?_, hV2, ?_⟩
              · congr 1
                simp [toI, kd_len]
              · have h9 := hRV1.out
                rw [← htk.out] at h9
                have e9 : toI rest ++ toI (kd xs k) = toI (rest ++ kd xs k) := by simp [toI]
                rw [e9] at h9
                have e8 : (toI (rest ++ kd xs k)).length = (rest ++ kd xs k).length := by simp [toI]
                rw [e8] at h9
                exact h9
            case measure => simp [intOf]; omega
end Go.Proofs.Ytpijfiaecicpfaa
