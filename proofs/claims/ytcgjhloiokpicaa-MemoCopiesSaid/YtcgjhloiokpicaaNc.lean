/-
  Bytes of the program.
-/
import Derived.Test.YtcgjhloiokpicaaNb
import Derived.Lib.BufferWrite
namespace Go.Proofs.Ytcgjhloiokpicaa
open Go.RowKit Go.MuLone Go.Shelf
set_option linter.unusedVariables false
set_option linter.unusedSimpArgs false
theorem splice_pad {L M : List Int} {N off : Nat} (ho : L.length = off) (h : off + M.length ≤ N) : splice (bys (pad L N)) off (bys M) = bys (pad (L ++ M) N) := by
  subst ho
  unfold splice pad
  rw [bys_append, List.take_left' (bys_len L), bys_len, List.drop_append, bys_len, List.drop_of_length_le (by rw [bys_len]; omega), List.nil_append, show L.length + M.length - L.length = M.length by omega]
  have e : (bys (List.replicate (N - L.length) 0)).drop M.length = bys (List.replicate (N - (L ++ M).length) 0) := by
    unfold bys
    rw [List.map_replicate, List.map_replicate, List.drop_replicate, List.length_append]
    congr 1
    omega
  rw [e, bys_append, bys_append, List.append_assoc]
theorem pad_pad (A L : List Int) (n N : Nat) (h : A.length + n ≤ N) : pad (A ++ pad L n) N = pad (A ++ L) N := by
  unfold pad
  rcases Nat.lt_or_ge n L.length with h1 | h1
  · rw [Nat.sub_eq_zero_of_le (Nat.le_of_lt h1)]; simp
  · rw [List.append_assoc, List.append_assoc, List.append_assoc, List.replicate_append_replicate]
    congr 3
    simp only [List.length_append, List.length_replicate]
    omega
/-- What a round reads: the entry's copy at block b5, and the file's size. -/
def SB (b5 g : Nat) (zb z zk : Int) (z3 : ByteArray) (size : Int) (W : World) : Prop := W.cell? ⟨b5, 0, none⟩ = some (.int .i64 zb) ∧ W.cell? ⟨b5, 1, none⟩ = some (.int .i64 z) ∧ W.cell? ⟨b5, 2, none⟩ = some (.int .i64 zk) ∧ W.cell? ⟨b5, 3, none⟩ = some (.string z3) ∧ W.cell? ⟨g, 2, none⟩ = some (.int .i64 size)
theorem SB.put {b5 g G : Nat} {zb z zk size : Int} {z3 : ByteArray} {W W' : World} (h : SB b5 g zb z zk z3 size W) (hg : W.grownBy W' (some G)) (h1 : b5 ≠ G) (h2 : g ≠ G) : SB b5 g zb z zk z3 size W' := by
  have f1 : some b5 ≠ some G := fun e => h1 (Option.some.inj e)
  have f2 : some g ≠ some G := fun e => h2 (Option.some.inj e)
  exact ⟨hg.cell h.1 f1, hg.cell h.2.1 f1, hg.cell h.2.2.1 f1, hg.cell h.2.2.2.1 f1, hg.cell h.2.2.2.2 f2⟩
theorem made_bys (N : Nat) : madeCells (Value.int .u8 0).cells N = (bys (pad [] N)).toArray := by
  apply Array.ext
  · simp [madeCells, bys, pad]
  · intro i h1 h2
    simp [madeCells, bys, pad, Value.cells, Nat.mod_one]
theorem ex_copy {P : Program} {o : Oper} {a : Act} {w w' : World} (s x : Operand) (t tn : TypeId) (ho : o.op = .call { callee := .builtin .copy, args := #[s, x], argTypes := #[t, tn] }) (vs vx : Value) (hs : a.eval s = vs) (hx : a.eval x = vx)
    (v' : Value) (hr : (Builtin.copy_ #[t, tn] o.type #[vs, vx]).run P w = .ok v' w') : (execOp a.eval o).run P w = .ok (.value v') w' := by
  unfold execOp
  simp only [ho, resolve, invoke, builtin, Sem.run_bind, Sem.run_pure, Result.andThen_ok, List.map_toArray, List.map_cons, List.map_nil, hs, hx, hr]
set_option maxRecDepth 100000 in
set_option maxHeartbeats 4000000 in
theorem Bytes_any (size : Int) (g : Nat) (v : Value) (l : List En) (w : World) (h : MA 0 w g size v l) (hG : Good size l) (hs1 : 16 ≤ size) (hs2 : size ≤ 256) : Calls Try.prog 14 #[.pointer (some ⟨g, 0, none⟩)] w fun e w' => ∃ v2, e = .returned v2 ∧ w'.ownsRow w.heap.size 5 1 v2 (fileB size l).length (bys (fileB size l)) ∧ MA 0 w' g size v l ∧ MT g v v w w' := by
  obtain ⟨i0, hi0, hz0, hz1, hz2⟩ := info_parts infoU8
  have gf := good_facts hG
  obtain ⟨hbk, hbe, hbb⟩ := beg_good hG
  have hE := hid (fun w (h : MA 1 w g size v l) => end_any 1 size g v l w h)
  have hal := hid (fun k (hk : k ≤ l.length) => ahead_len ⟨hs1, hs2⟩ hG hk)
  have hfl : ((fileB size l).length : Int) = endI l * size := by
    have := hal.out l.length (Nat.le_refl _)
    rw [List.take_length, hbe] at this
    exact this
  have hei := gf.2.2.2
  have hNu : endI l * size ≤ 4096 * 256 := Int.mul_le_mul hei.2 hs2 (by omega) (by omega)
  have hNl : 1 * size ≤ endI l * size := Int.mul_le_mul hei.1 (Int.le_refl _) (by omega) (by omega)
  generalize hEE : endI l = E at *
  generalize hNN : (fileB size l).length = N at *
  have hwN : IntKind.i64.wrap (E * size) = (N : Int) := by rw [IntWalk.i64_in _ (by omega), hfl]
  have hN16 : 16 ≤ N := by omega
  have hNm : N ≤ 1048576 := by omega
  replace hfl := hid hfl
  replace hNu := hid hNu
  replace hNl := hid hNl
  have c0 := h.c0
  have f0 := h.free 0
  have h1 := hid (h.lock 1)
  have m0 := hid ((MT.refl g v w).set 0 (.int .i32 1))
  obtain ⟨A, c, rfl, hr⟩ := h1.out.rd
  have hmx := Rd.max hr
  replace hr := hid (hr.ext (Ext.refl _).drew_right)
  go_enter_defers Try.func14, Try.ntmps14
  go_wp2_with (go_at_call 40; refine (lock_free muLib ⟨g, 0, none⟩ _ c0 f0).mono ?_; rintro e w' ⟨rfl, rfl⟩)
  have c2 := h1.out.c2
  have hsz : Hid ((w.setCell ⟨g, 0, none⟩ (.int .i32 1)).heap.size = w.heap.size) := by simp [Hid]
  replace h1 := hid (h1.out.ext (Ext.refl _).drew_right)
  replace m0 := hid (m0.out.right (Ext.refl _).drew_right)
  have lg := h1.out.lt
  replace hsz : Hid ((w.setCell ⟨g, 0, none⟩ (.int .i32 1)).drew.heap.size = w.heap.size) := hsz.out
  have I0 : (fun w' : World => w'.cell? ⟨g, 2, none⟩ = some (.int .i64 size)) (w.setCell ⟨g, 0, none⟩ (.int .i32 1)).drew := c2
  refine region_J (fun w' => w'.cell? ⟨g, 2, none⟩ = some (.int .i64 size)) 9 (by kernel_rfl) ?_
  generalize (w.setCell ⟨g, 0, none⟩ (.int .i32 1)).drew = w1 at *
  refine J_takeO 0 (v := ?va0) rfl (by kernel_rfl) (by kernel_rfl) (by kernel_rfl) (by kernel_rfl) (fun _ _ _ h => h) (Or.inl ⟨by rfl, ?ya0⟩) I0 ?ra0
  case ya0 => (intro w hSw; obtain _ := hSw; (go_simp; with_reducible rfl))
  simp only [Act.put, List.getElem_toArray, List.getElem_cons_zero, List.getElem_cons_succ, List.setIfInBounds_toArray, List.set_cons_zero, List.set_cons_succ]
  refine J_takeO 2 (v := ?va2) rfl (by kernel_rfl) (by kernel_rfl) (by kernel_rfl) (by kernel_rfl) (fun _ _ _ h => h) (Or.inl ⟨by rfl, ?ya2⟩) I0 ?ra2
  case ya2 => (intro w hSw; obtain _ := hSw; (go_simp; with_reducible rfl))
  simp only [Act.put, List.getElem_toArray, List.getElem_cons_zero, List.getElem_cons_succ, List.setIfInBounds_toArray, List.set_cons_zero, List.set_cons_succ]
  refine J_takeO 3 (v := ?va3) rfl (by kernel_rfl) (by kernel_rfl) (by kernel_rfl) (by kernel_rfl) (fun _ _ _ h => h) (Or.inl ⟨by rfl, ?ya3⟩) I0 ?ra3
  case ya3 => (intro w hSw; obtain _ := hSw; (go_simp; with_reducible rfl))
  simp only [Act.put, List.getElem_toArray, List.getElem_cons_zero, List.getElem_cons_succ, List.setIfInBounds_toArray, List.set_cons_zero, List.set_cons_succ]
  refine J_takeO 4 (v := ?va4) rfl (by kernel_rfl) (by kernel_rfl) (by kernel_rfl) (by kernel_rfl) (fun _ _ _ h => h) (Or.inl ⟨by rfl, ?ya4⟩) I0 ?ra4
  case ya4 => (intro w hSw; obtain _ := hSw; (go_simp; with_reducible rfl))
  simp only [Act.put, List.getElem_toArray, List.getElem_cons_zero, List.getElem_cons_succ, List.setIfInBounds_toArray, List.set_cons_zero, List.set_cons_succ]
  refine J_takeO 5 (v := ?va5) rfl (by kernel_rfl) (by kernel_rfl) (by kernel_rfl) (by kernel_rfl) (fun _ _ _ h => h) (Or.inl ⟨by rfl, ?ya5⟩) I0 ?ra5
  case ya5 => (intro w hSw; obtain _ := hSw; (go_simp; with_reducible rfl))
  simp only [Act.put, List.getElem_toArray, List.getElem_cons_zero, List.getElem_cons_succ, List.setIfInBounds_toArray, List.set_cons_zero, List.set_cons_succ]
  refine J_one 1 rfl (by kernel_rfl) (fun K hK => ?_)
  go_simp
  refine (hE.out _ h1.out).mono ?_
  rintro e w2 ⟨rfl, hx⟩
  have I2 : (fun w' : World => w'.cell? ⟨g, 2, none⟩ = some (.int .i64 size)) w2 := hx.cell I0
  replace h1 := hid (h1.out.ext hx)
  replace m0 := hid (m0.out.right hx)
  replace hr := hid (hr.out.ext hx)
  have hwz : Hid (w.heap.size ≤ w2.heap.size) := by have := hx.size; have := hsz.out; unfold Hid; omega
  have hgl2 : Hid (g < w2.heap.size) := h1.out.lt
  clear hx
  refine hK _ _ ⟨fun _ => I2, ?_⟩
  clear hK K
  try simp only [Act.put, List.getElem_toArray, List.getElem_cons_zero, List.getElem_cons_succ, List.setIfInBounds_toArray, List.set_cons_zero, List.set_cons_succ]
  refine J_one 6 rfl (by kernel_rfl) (fun K hK => ?_)
  go_simp
  refine hK _ _ ⟨fun _ => I2, ?_⟩
  clear hK K
  try simp only [Act.put, List.setIfInBounds_toArray, List.set_cons_zero, List.set_cons_succ]
  refine J_one 7 rfl (by kernel_rfl) (fun K hK => ?_)
  have hmk := run_make (P := Try.prog) w2 27 5 i0 _ Try.underlying27 hi0 hz0 .i64 .i64 (N : Int) (N : Int) (by omega) (Int.le_refl _) (by rw [hz2]; omega) (by omega)
  rw [hz1, Int.toNat_natCast, Nat.mul_one, made_bys] at hmk
  have I3 : (fun w' : World => w'.cell? ⟨g, 2, none⟩ = some (.int .i64 size)) (w2.alloc (.cells (bys (pad [] N)).toArray 5)) := ((Ext.refl w2).alloc_right _).cell I2
  refine step_run rfl (.slice (some ⟨w2.heap.size, 0, none⟩) N N) (w' := w2.alloc (.cells (bys (pad [] N)).toArray 5)) (by simp [execOp, Act.eval, Act.put, hmk, Result.andThen]) ?_
  refine hK _ _ ⟨fun _ => I3, ?_⟩
  clear hK K
  try simp only [Act.put, List.getElem_toArray, List.getElem_cons_zero, List.getElem_cons_succ, List.setIfInBounds_toArray, List.set_cons_zero, List.set_cons_succ]
  refine J_one 8 rfl (by kernel_rfl) (fun K hK => ?_)
  go_simp
  refine hK _ _ ⟨fun _ => I3, ?_⟩
  clear hK K
  try simp only [Act.put, List.setIfInBounds_toArray, List.set_cons_zero, List.set_cons_succ]
  refine J_done (by kernel_rfl) (OnlyOn.normal ?_)
  have hF : Hid ((w2.alloc (.cells (bys (pad [] N)).toArray 5)).heap[w2.heap.size]? = some (.cells (bys (pad [] N)).toArray 5 (0, 0))) := heap_alloc_new w2 _
  have hx : Hid (Ext w2 (w2.alloc (.cells (bys (pad [] N)).toArray 5))) := (Ext.refl w2).alloc_right _
  have h2 := hid h1.out
  have hc22 := hid (h1.out.c2)
  have hgG : Hid (g ≠ w2.heap.size) := by have := hgl2.out; unfold Hid; omega
  clear I0 I2 I3 hmk
  generalize hGG : w2.heap.size = G at *
  have hGz : Hid (w2.heap.size ≤ G) := Nat.le_of_eq hGG
  have hGw : Hid (w.heap.size ≤ G) := by have := hwz.out; exact this
  replace hGG := hid hGG
  generalize (w2.alloc (.cells (bys (pad [] N)).toArray 5)) = w3 at *
  have m2 := m0
  replace h1 := hid (h1.out.ext hx.out)
  have c2w := h1.out.c2
  have c22 : w2.cell? ⟨g, 2, none⟩ = some (.int .i64 size) := hc22.out
  replace h2 := h2
  have hc4 : ¬ N = 4 := by omega
  have hc4b : (4 : Int) ≤ (N : Int) := by omega
  have hc6b : (6 : Int) ≤ (N : Int) := by omega
  go_upto_region 6 with fail
  have hx4 : Hid (Ext w2 w3.drew) := hx.out.drew_right
  replace hF : Hid (w3.drew.heap[G]? = some (.cells (bys (pad [] N)).toArray 5 (0, 0))) := hF.out
  replace hx := hx4
  replace h1 : Hid (MA 1 w3.drew g size (.slice A l.length c) l) := h2.out.ext hx4.out
  clear hx4
  refine region_J (fun _ => True) 5 (by kernel_rfl) ?_
  generalize w3.drew = w4 at *
  refine J_takeO 0 (v := ?vb0) rfl (by kernel_rfl) (by kernel_rfl) (by kernel_rfl) (by kernel_rfl) (fun _ _ _ h => h) (Or.inl ⟨by rfl, ?yb0⟩) trivial ?rb0
  case yb0 => (intro w hSw; obtain _ := hSw; (go_simp; with_reducible rfl))
  simp only [Act.put, List.getElem_toArray, List.getElem_cons_zero, List.getElem_cons_succ, List.setIfInBounds_toArray, List.set_cons_zero, List.set_cons_succ]
  refine J_takeO 1 (v := ?vb1) rfl (by kernel_rfl) (by kernel_rfl) (by kernel_rfl) (by kernel_rfl) (fun _ _ _ h => h) (Or.inl ⟨by rfl, ?yb1⟩) trivial ?rb1
  case yb1 => (intro w hSw; obtain _ := hSw; (go_simp; with_reducible rfl))
  simp only [Act.put, List.getElem_toArray, List.getElem_cons_zero, List.getElem_cons_succ, List.setIfInBounds_toArray, List.set_cons_zero, List.set_cons_succ]
  refine J_takeO 2 (v := ?vb2) rfl (by kernel_rfl) (by kernel_rfl) (by kernel_rfl) (by kernel_rfl) (fun _ _ _ h => h) (Or.inl ⟨by rfl, ?yb2⟩) trivial ?rb2
  case yb2 => (intro w hSw; obtain _ := hSw; (go_simp; with_reducible rfl))
  simp only [Act.put, List.getElem_toArray, List.getElem_cons_zero, List.getElem_cons_succ, List.setIfInBounds_toArray, List.set_cons_zero, List.set_cons_succ]
  refine J_one 3 rfl (by kernel_rfl) (fun K hK => ?_)
  go_simp
  refine (hE.out _ h1.out).mono ?_
  rintro e w5 ⟨rfl, hx5⟩
  replace hF : Hid (w5.heap[G]? = some (.cells (bys (pad [] N)).toArray 5 (0, 0))) := (hx5.block (Array.getElem?_eq_some_iff.1 hF.out).1).trans hF.out
  replace hx := hid (hx.out.trans hx5)
  clear hx5
  refine hK _ _ ⟨fun _ => trivial, ?_⟩
  clear hK K
  try simp only [Act.put, List.getElem_toArray, List.getElem_cons_zero, List.getElem_cons_succ, List.setIfInBounds_toArray, List.set_cons_zero, List.set_cons_succ]
  refine J_one 4 rfl (by kernel_rfl) (fun K hK => ?_)
  go_simp
  refine (bput_any G (0) 4 _ E (bys (pad [] N)) w5 (by decide) (by omega) (by omega) (by omega) (by omega) (by rw [bys_len, pad_len _ _ (by rw [show [].length = 0 from rfl]; omega)]; omega) hF).mono ?_
  rintro e w6 ⟨rfl, hF', hgr⟩
  replace hF : Hid (w6.heap[G]? = some (.cells (bys (pad ([] ++ (le4 E)) N)).toArray 5 (0, 0))) := by
    rw [← splice_pad (off := 0) rfl (by simp [le4]; omega)]
    exact hF'.out
  replace hx := hid (hx.out.keep hgr.out (fun k e => by cases e; exact hGz.out))
  clear hF' hgr
  refine hK _ _ ⟨fun _ => trivial, ?_⟩
  clear hK K
  try simp only [Act.put, List.getElem_toArray, List.getElem_cons_zero, List.getElem_cons_succ, List.setIfInBounds_toArray, List.set_cons_zero, List.set_cons_succ]
  refine J_done (by kernel_rfl) (OnlyOn.normal ?_)
  rw [List.nil_append] at hF
  go_upto_region 7 with fail
  have hx7 : Hid (Ext w2 w6.drew) := hx.out.drew_right
  replace hF : Hid (w6.drew.heap[G]? = some (.cells (bys (pad (le4 E) N)).toArray 5 (0, 0))) := hF.out
  replace hx := hx7
  clear hx7
  have c27 := hx.out.cell c22
  refine region_J (fun w' => w'.cell? ⟨g, 2, none⟩ = some (.int .i64 size)) 7 (by kernel_rfl) ?_
  generalize w6.drew = w7 at *
  refine J_takeO 0 (v := ?vc0) rfl (by kernel_rfl) (by kernel_rfl) (by kernel_rfl) (by kernel_rfl) (fun _ _ _ h => h) (Or.inl ⟨by rfl, ?yc0⟩) c27 ?rc0
  case yc0 => (intro w hSw; obtain _ := hSw; (go_simp; with_reducible rfl))
  simp only [Act.put, List.getElem_toArray, List.getElem_cons_zero, List.getElem_cons_succ, List.setIfInBounds_toArray, List.set_cons_zero, List.set_cons_succ]
  refine J_takeO 1 (v := ?vc1) rfl (by kernel_rfl) (by kernel_rfl) (by kernel_rfl) (by kernel_rfl) (fun _ _ _ h => h) (Or.inl ⟨by rfl, ?yc1⟩) c27 ?rc1
  case yc1 => (intro w hSw; obtain _ := hSw; (go_simp; with_reducible rfl))
  simp only [Act.put, List.getElem_toArray, List.getElem_cons_zero, List.getElem_cons_succ, List.setIfInBounds_toArray, List.set_cons_zero, List.set_cons_succ]
  refine J_takeO 2 (v := ?vc2) rfl (by kernel_rfl) (by kernel_rfl) (by kernel_rfl) (by kernel_rfl) (fun _ _ _ h => h) (Or.inl ⟨by rfl, ?yc2⟩) c27 ?rc2
  case yc2 => (intro w hSw; obtain _ := hSw; (go_simp; with_reducible rfl))
  simp only [Act.put, List.getElem_toArray, List.getElem_cons_zero, List.getElem_cons_succ, List.setIfInBounds_toArray, List.set_cons_zero, List.set_cons_succ]
  refine J_takeO 3 (v := ?vc3) rfl (by kernel_rfl) (by kernel_rfl) (by kernel_rfl) (by kernel_rfl) (fun _ _ _ h => h) (Or.inl ⟨by rfl, ?yc3⟩) c27 ?rc3
  case yc3 => (intro w hSw; obtain _ := hSw; (go_simp; with_reducible rfl))
  simp only [Act.put, List.getElem_toArray, List.getElem_cons_zero, List.getElem_cons_succ, List.setIfInBounds_toArray, List.set_cons_zero, List.set_cons_succ]
  refine J_takeO 4 (v := ?vc4) rfl (by kernel_rfl) (by kernel_rfl) (by kernel_rfl) (by kernel_rfl) (fun _ _ _ h => h) (Or.inl ⟨by rfl, ?yc4⟩) c27 ?rc4
  case yc4 => (intro w hSw; obtain _ := hSw; (go_simp; with_reducible rfl))
  simp only [Act.put, List.getElem_toArray, List.getElem_cons_zero, List.getElem_cons_succ, List.setIfInBounds_toArray, List.set_cons_zero, List.set_cons_succ]
  refine J_takeO 5 (v := ?vc5) rfl (by kernel_rfl) (by kernel_rfl) (by kernel_rfl) (by kernel_rfl) (fun _ _ _ h => h) (Or.inl ⟨by rfl, ?yc5⟩) c27 ?rc5
  case yc5 => (intro w hSw; obtain _ := hSw; (go_simp; with_reducible rfl))
  simp only [Act.put, List.getElem_toArray, List.getElem_cons_zero, List.getElem_cons_succ, List.setIfInBounds_toArray, List.set_cons_zero, List.set_cons_succ]
  refine J_one 6 rfl (by kernel_rfl) (fun K hK => ?_)
  go_simp
  refine (bput_any G (4) 2 _ size (bys (pad (le4 E) N)) w7 (by decide) (by omega) (by omega) (by omega) (by omega) (by rw [bys_len, pad_len _ _ (by rw [show (le4 E).length = 4 from rfl]; omega)]; omega) hF).mono ?_
  rintro e w8 ⟨rfl, hF', hgr⟩
  replace hF : Hid (w8.heap[G]? = some (.cells (bys (pad ((le4 E) ++ [size % 256, size / 256 % 256]) N)).toArray 5 (0, 0))) := by
    rw [← splice_pad (off := 4) rfl (by simp [le4]; omega)]
    exact hF'.out
  replace hx := hid (hx.out.keep hgr.out (fun k e => by cases e; exact hGz.out))
  have c28 : w8.cell? ⟨g, 2, none⟩ = some (.int .i64 size) := hx.out.cell c22
  clear hF' hgr
  refine hK _ _ ⟨fun _ => c28, ?_⟩
  clear hK K
  try simp only [Act.put, List.getElem_toArray, List.getElem_cons_zero, List.getElem_cons_succ, List.setIfInBounds_toArray, List.set_cons_zero, List.set_cons_succ]
  refine J_done (by kernel_rfl) (OnlyOn.normal ?_)
  have hcd : Hid (le4 E ++ [size % 256, size / 256 % 256] = le4 E ++ [size % 256, size / 256 % 256]) := rfl
  have hF8 : Hid (w8.heap[G]? = some (.cells (bys (pad (hdB size l ++ bodyB size (l.take 0)) N)).toArray 5 (0, 0))) := by
    have e : pad (hdB size l ++ bodyB size (l.take 0)) N = pad (le4 E ++ [size % 256, size / 256 % 256]) N := by
      rw [List.take_zero, show bodyB size [] = [] from rfl, List.append_nil]
      unfold hdB
      rw [hEE]
      have := pad_pad [] (le4 E ++ [size % 256, size / 256 % 256]) size.toNat N (by have := hNl.out; have := hfl.out; simp; omega)
      simpa using this
    rw [e]
    exact hF.out
  clear hF hcd
  have c3w := h2.out.c3
  have c38 := hx.out.cell c3w
  have lg8 := World.block_lt_of_cell? w8 _ c38
  dsimp only at lg8
  have hap := hid (fun k => List.take_append_drop k l)
  go_wp2_with fail
  go_loopw [41] (fun i wr => ∃ k : Nat, k ≤ l.length ∧ i = .int .i64 k ∧ Hid (wr.heap[G]? = some (.cells (bys (pad (hdB size l ++ bodyB size (l.take k)) N)).toArray 5 (0, 0))) ∧ Hid (Ext w2 wr)) (fun i _ => l.length - (intOf i).toNat)
  case atStart => exact ⟨0, by omega, rfl, hF8, hx⟩
  case round =>
    clear hF8 c38 lg8 hx
    obtain ⟨k, hk, rfl, hF, hx⟩ := hrel
    by_cases hlt : k < l.length
    · obtain ⟨ad, rfl, x0, x1, x2, x3⟩ := (hr.out.ext hx.out).at_ hlt
      obtain ⟨_, _, _, hok, _⟩ := good_at hG hlt
      have hpl := preE_len hok ⟨hs1, hs2⟩
      have hEl := entB_len hok ⟨hs1, hs2⟩
      have hsx : (eth l k).s.size ≤ 2048 := by
        rcases hok.2 with h | h
        · rw [h.2]; decide
        · exact h.2.1
      have hkd : (eth l k).kind = 0 ∨ (eth l k).kind = 1 := by
        rcases hok.2 with h | h
        · exact .inl h.1
        · exact .inr h.1
      have hzz := gf.2.1 k hlt
      have hoff := hal.out k (Nat.le_of_lt hlt)
      rw [hbk k hlt] at hoff
      have hsucc := bodyB_succ size hlt
      have hlen2 : (hdB size l ++ bodyB size (l.take (k + 1))).length ≤ N := by
        rw [← hNN]
        unfold fileB
        conv => rhs; rw [← List.take_append_drop (k + 1) l]
        rw [bodyB_append, List.length_append, List.length_append, List.length_append]
        have e : hdB size l = hdB size (l.take (k + 1) ++ l.drop (k + 1)) := by rw [List.take_append_drop]
        rw [← e]
        omega
      rw [hsucc, ← List.append_assoc, List.length_append, hEl] at hlen2
      have hmulE : (eth l k).block * size ≤ 4096 * 256 := Int.mul_le_mul (by omega) hs2 (by omega) (by omega)
      have hmul0 : 0 ≤ (eth l k).block * size := Int.mul_nonneg (by omega) (by omega)
      have hwo : IntKind.i64.wrap ((eth l k).block * size) = ((hdB size l ++ bodyB size (l.take k)).length : Int) := by rw [IntWalk.i64_in _ (by omega), hoff]
      have hent : Hid (pad ((hdB size l ++ bodyB size (l.take k)) ++ preE (eth l k)) N = pad (hdB size l ++ bodyB size (l.take (k + 1))) N) := by
        rw [hsucc, ← List.append_assoc]
        unfold entB
        exact (pad_pad _ _ _ _ hlen2).symm
      have hb16 : 16 ≤ ((eth l k).blocks * size).toNat := by
        have := Int.mul_le_mul hok.1 hs1 (by omega) (by omega)
        omega
      have hpre : Hid (((eth l k).kind = 0 → preE (eth l k) = le4 0 ++ le4 (eth l k).blocks) ∧ ((eth l k).kind = 1 → preE (eth l k) = le4 1 ++ le4 (eth l k).blocks ++ le4 (eth l k).s.size ++ txt (eth l k).s)) := by
        constructor
        · intro q; unfold preE; rw [if_pos q, if_pos q, List.append_nil]
        · intro q; unfold preE; rw [if_neg (by omega), if_neg (by omega)]; simp only [List.append_assoc]
      have hpl1 : Hid ((eth l k).kind = 1 → 12 + (eth l k).s.size ≤ ((eth l k).blocks * size).toNat) := by
        intro q
        have := hpl.1
        rw [hpre.out.2 q] at this
        simp only [le4, List.length_append, List.length_cons, List.length_nil, txt_len] at this
        omega
      replace hent := hent
      clear hok hpl hEl hsucc hoff hmulE hmul0
      generalize hA2 : hdB size l ++ bodyB size (l.take (k + 1)) = AK2 at *
      replace hA2 := hid hA2
      generalize hAK : hdB size l ++ bodyB size (l.take k) = AK at *
      replace hAK := hid hAK
      generalize hoo : AK.length = off at *
      have hzb0 : 0 ≤ (eth l k).blocks := by omega
      have hzb1 : (eth l k).blocks ≤ 2147483647 := by omega
      have hN5 : off + 16 ≤ N := by omega
      generalize (eth l k).blocks * size = bsz at *
      generalize preE (eth l k) = PE at *
      generalize (eth l k).block = zb at *
      generalize (eth l k).blocks = z at *
      generalize (eth l k).s = z3 at *
      have hj0 : Hid (∀ o, SB wr.heap.size g zb z (eth l k).kind z3 size (wr.alloc o) → True) := fun _ _ => trivial
      have hc2r := hx.out.cell c22
      have hGr : G < wr.heap.size := (Array.getElem?_eq_some_iff.1 hF.out).1
      have hGi : G ≠ wr.heap.size := by omega
      have hi1 : (4 : Int) ≤ ((N - off : Nat) : Int) := by omega
      have hi2 : (8 : Int) ≤ ((N - off : Nat) : Int) := by omega
      have hi3 : (12 : Int) ≤ ((N - off : Nat) : Int) := by omega
      have hi4 : (off : Int) ≤ (N : Int) := by omega
      have hn1 : ¬ N = off := by omega
      have hn2 : ¬ N - off = 4 := by omega
      have hn3 : ¬ N - off = 8 := by omega
      have hn4 : ¬ N - off = 12 := by omega
      have hn5 : ¬ N - off = 0 := by omega
      rcases hkd with q | q
      · have d1 : ((eth l k).kind == 1) = false := by rw [q]; rfl
        have hP := hid (hpre.out.1 q)
        skip
        clear hpre hpl1
        generalize (eth l k).kind = zk at *
        subst q
        go_upto_region 11 with fail
        have sb : SB wr.heap.size g zb z 0 z3 size (wr.alloc (.cells #[.int .i64 zb, .int .i64 z, .int .i64 0, .string z3] 78)) := ⟨by go_simp, by go_simp, by go_simp, by go_simp, ((Ext.refl wr).alloc_right _).cell hc2r⟩
        replace hF : Hid ((wr.alloc (.cells #[.int .i64 zb, .int .i64 z, .int .i64 0, .string z3] 78)).heap[G]? = some (.cells (bys (pad AK N)).toArray 5 (0, 0))) := (((Ext.refl wr).alloc_right _).block hGr).trans hF.out
        replace hx : Hid (Ext w2 (wr.alloc (.cells #[.int .i64 zb, .int .i64 z, .int .i64 0, .string z3] 78))) := hx.out.alloc_right _
        clear x0 x1 x2 x3 hc2r hj0 hGr
        generalize wr.heap.size = b5 at *
        generalize (wr.alloc (.cells #[.int .i64 zb, .int .i64 z, .int .i64 0, .string z3] 78)) = v0 at *
        replace sb : SB b5 g zb z 0 z3 size v0.drew := sb
        replace hF : Hid (v0.drew.heap[G]? = some (.cells (bys (pad (AK) N)).toArray 5 (0, 0))) := hF.out
        replace hx : Hid (Ext w2 v0.drew) := hx.out.drew_right
        refine region_J (SB b5 g zb z 0 z3 size) 10 (by kernel_rfl) ?_
        generalize v0.drew = v1 at *
        refine J_takeO 0 (v := ?vd0a0) rfl (by kernel_rfl) (by kernel_rfl) (by kernel_rfl) (by kernel_rfl) (fun _ _ _ h => h) (Or.inl ⟨by rfl, ?yd0a0⟩) sb ?rd0a0
        case yd0a0 => (intro w hSw; obtain ⟨_, _, _, _, _⟩ := hSw; (go_simp; with_reducible rfl))
        simp only [Act.put, List.getElem_toArray, List.getElem_cons_zero, List.getElem_cons_succ, List.setIfInBounds_toArray, List.set_cons_zero, List.set_cons_succ]
        refine J_takeO 1 (v := ?vd0a1) rfl (by kernel_rfl) (by kernel_rfl) (by kernel_rfl) (by kernel_rfl) (fun _ _ _ h => h) (Or.inl ⟨by rfl, ?yd0a1⟩) sb ?rd0a1
        case yd0a1 => (intro w hSw; obtain ⟨_, _, _, _, _⟩ := hSw; (go_simp; with_reducible rfl))
        simp only [Act.put, List.getElem_toArray, List.getElem_cons_zero, List.getElem_cons_succ, List.setIfInBounds_toArray, List.set_cons_zero, List.set_cons_succ]
        refine J_takeO 2 (v := ?vd0a2) rfl (by kernel_rfl) (by kernel_rfl) (by kernel_rfl) (by kernel_rfl) (fun _ _ _ h => h) (Or.inl ⟨by rfl, ?yd0a2⟩) sb ?rd0a2
        case yd0a2 => (intro w hSw; obtain ⟨_, _, _, _, _⟩ := hSw; (go_simp; with_reducible rfl))
        simp only [Act.put, List.getElem_toArray, List.getElem_cons_zero, List.getElem_cons_succ, List.setIfInBounds_toArray, List.set_cons_zero, List.set_cons_succ]
        refine J_takeO 3 (v := ?vd0a3) rfl (by kernel_rfl) (by kernel_rfl) (by kernel_rfl) (by kernel_rfl) (fun _ _ _ h => h) (Or.inl ⟨by rfl, ?yd0a3⟩) sb ?rd0a3
        case yd0a3 => (intro w hSw; obtain ⟨_, _, _, _, _⟩ := hSw; (go_simp; with_reducible rfl))
        simp only [Act.put, List.getElem_toArray, List.getElem_cons_zero, List.getElem_cons_succ, List.setIfInBounds_toArray, List.set_cons_zero, List.set_cons_succ]
        refine J_takeO 4 (v := ?vd0a4) rfl (by kernel_rfl) (by kernel_rfl) (by kernel_rfl) (by kernel_rfl) (fun _ _ _ h => h) (Or.inl ⟨by rfl, ?yd0a4⟩) sb ?rd0a4
        case yd0a4 => (intro w hSw; obtain ⟨_, _, _, _, _⟩ := hSw; (go_simp; with_reducible rfl))
        simp only [Act.put, List.getElem_toArray, List.getElem_cons_zero, List.getElem_cons_succ, List.setIfInBounds_toArray, List.set_cons_zero, List.set_cons_succ]
        refine J_takeO 5 (v := ?vd0a5) rfl (by kernel_rfl) (by kernel_rfl) (by kernel_rfl) (by kernel_rfl) (fun _ _ _ h => h) (Or.inl ⟨by rfl, ?yd0a5⟩) sb ?rd0a5
        case yd0a5 => (intro w hSw; obtain ⟨_, _, _, _, _⟩ := hSw; (go_simp; with_reducible rfl))
        simp only [Act.put, List.getElem_toArray, List.getElem_cons_zero, List.getElem_cons_succ, List.setIfInBounds_toArray, List.set_cons_zero, List.set_cons_succ]
        refine J_takeO 6 (v := ?vd0a6) rfl (by kernel_rfl) (by kernel_rfl) (by kernel_rfl) (by kernel_rfl) (fun _ _ _ h => h) (Or.inl ⟨by rfl, ?yd0a6⟩) sb ?rd0a6
        case yd0a6 => (intro w hSw; obtain ⟨_, _, _, _, _⟩ := hSw; (go_simp; with_reducible rfl))
        simp only [Act.put, List.getElem_toArray, List.getElem_cons_zero, List.getElem_cons_succ, List.setIfInBounds_toArray, List.set_cons_zero, List.set_cons_succ]
        refine J_takeO 7 (v := ?vd0a7) rfl (by kernel_rfl) (by kernel_rfl) (by kernel_rfl) (by kernel_rfl) (fun _ _ _ h => h) (Or.inl ⟨by rfl, ?yd0a7⟩) sb ?rd0a7
        case yd0a7 => (intro w hSw; obtain ⟨_, _, _, _, _⟩ := hSw; (go_simp; with_reducible rfl))
        simp only [Act.put, List.getElem_toArray, List.getElem_cons_zero, List.getElem_cons_succ, List.setIfInBounds_toArray, List.set_cons_zero, List.set_cons_succ]
        refine J_takeO 8 (v := ?vd0a8) rfl (by kernel_rfl) (by kernel_rfl) (by kernel_rfl) (by kernel_rfl) (fun _ _ _ h => h) (Or.inl ⟨by rfl, ?yd0a8⟩) sb ?rd0a8
        case yd0a8 => (intro w hSw; obtain ⟨_, _, _, _, _⟩ := hSw; (go_simp; with_reducible rfl))
        simp only [Act.put, List.getElem_toArray, List.getElem_cons_zero, List.getElem_cons_succ, List.setIfInBounds_toArray, List.set_cons_zero, List.set_cons_succ]
        refine J_one 9 rfl (by kernel_rfl) (fun K hK => ?_)
        go_simp
        refine hK _ _ ⟨fun _ => sb, ?_⟩
        clear hK K
        try simp only [Act.put, List.setIfInBounds_toArray, List.set_cons_zero, List.set_cons_succ]
        refine J_done (by kernel_rfl) (OnlyOn.normal ?_)
        go_upto_region 12 with fail
        replace sb : SB b5 g zb z 0 z3 size v1.drew := sb
        replace hF : Hid (v1.drew.heap[G]? = some (.cells (bys (pad (AK) N)).toArray 5 (0, 0))) := hF.out
        replace hx : Hid (Ext w2 v1.drew) := hx.out.drew_right
        refine region_J (SB b5 g zb z 0 z3 size) 5 (by kernel_rfl) ?_
        generalize v1.drew = v2 at *
        refine J_takeO 0 (v := ?vd0b0) rfl (by kernel_rfl) (by kernel_rfl) (by kernel_rfl) (by kernel_rfl) (fun _ _ _ h => h) (Or.inl ⟨by rfl, ?yd0b0⟩) sb ?rd0b0
        case yd0b0 => (intro w hSw; obtain ⟨_, _, _, _, _⟩ := hSw; (go_simp; with_reducible rfl))
        simp only [Act.put, List.getElem_toArray, List.getElem_cons_zero, List.getElem_cons_succ, List.setIfInBounds_toArray, List.set_cons_zero, List.set_cons_succ]
        refine J_takeO 1 (v := ?vd0b1) rfl (by kernel_rfl) (by kernel_rfl) (by kernel_rfl) (by kernel_rfl) (fun _ _ _ h => h) (Or.inl ⟨by rfl, ?yd0b1⟩) sb ?rd0b1
        case yd0b1 => (intro w hSw; obtain ⟨_, _, _, _, _⟩ := hSw; (go_simp; with_reducible rfl))
        simp only [Act.put, List.getElem_toArray, List.getElem_cons_zero, List.getElem_cons_succ, List.setIfInBounds_toArray, List.set_cons_zero, List.set_cons_succ]
        refine J_takeO 2 (v := ?vd0b2) rfl (by kernel_rfl) (by kernel_rfl) (by kernel_rfl) (by kernel_rfl) (fun _ _ _ h => h) (Or.inl ⟨by rfl, ?yd0b2⟩) sb ?rd0b2
        case yd0b2 => (intro w hSw; obtain ⟨_, _, _, _, _⟩ := hSw; (go_simp; with_reducible rfl))
        simp only [Act.put, List.getElem_toArray, List.getElem_cons_zero, List.getElem_cons_succ, List.setIfInBounds_toArray, List.set_cons_zero, List.set_cons_succ]
        refine J_takeO 3 (v := ?vd0b3) rfl (by kernel_rfl) (by kernel_rfl) (by kernel_rfl) (by kernel_rfl) (fun _ _ _ h => h) (Or.inl ⟨by rfl, ?yd0b3⟩) sb ?rd0b3
        case yd0b3 => (intro w hSw; obtain ⟨_, _, _, _, _⟩ := hSw; (go_simp; with_reducible rfl))
        simp only [Act.put, List.getElem_toArray, List.getElem_cons_zero, List.getElem_cons_succ, List.setIfInBounds_toArray, List.set_cons_zero, List.set_cons_succ]
        refine J_one 4 rfl (by kernel_rfl) (fun K hK => ?_)
        go_simp
        refine (bput_any G (off) 4 _ 0 (bys (pad (AK) N)) v2 (by decide) (by omega) (by omega) (by decide) (by decide) (by rw [bys_len, pad_len _ _ (by rw [show (AK).length = off from hoo]; omega)]; omega) hF).mono ?_
        rintro e v3 ⟨rfl, hF', hgr⟩
        replace hF : Hid (v3.heap[G]? = some (.cells (bys (pad ((AK) ++ (le4 0)) N)).toArray 5 (0, 0))) := by
          rw [← splice_pad (off := off) hoo (by simp [le4]; omega)]
          exact hF'.out
        replace hx := hid (hx.out.keep hgr.out (fun k e => by cases e; exact hGz.out))
        replace sb : SB b5 g zb z 0 z3 size v3 := sb.put hgr.out (Ne.symm hGi) hgG.out
        clear hF' hgr
        refine hK _ _ ⟨fun _ => sb, ?_⟩
        clear hK K
        try simp only [Act.put, List.getElem_toArray, List.getElem_cons_zero, List.getElem_cons_succ, List.setIfInBounds_toArray, List.set_cons_zero, List.set_cons_succ]
        refine J_done (by kernel_rfl) (OnlyOn.normal ?_)
        go_upto_region 13 with fail
        replace sb : SB b5 g zb z 0 z3 size v3.drew := sb
        replace hF : Hid (v3.drew.heap[G]? = some (.cells (bys (pad ((AK) ++ (le4 0)) N)).toArray 5 (0, 0))) := hF.out
        replace hx : Hid (Ext w2 v3.drew) := hx.out.drew_right
        refine region_J (SB b5 g zb z 0 z3 size) 5 (by kernel_rfl) ?_
        generalize v3.drew = v4 at *
        refine J_takeO 0 (v := ?vd0c0) rfl (by kernel_rfl) (by kernel_rfl) (by kernel_rfl) (by kernel_rfl) (fun _ _ _ h => h) (Or.inl ⟨by rfl, ?yd0c0⟩) sb ?rd0c0
        case yd0c0 => (intro w hSw; obtain ⟨_, _, _, _, _⟩ := hSw; (go_simp; with_reducible rfl))
        simp only [Act.put, List.getElem_toArray, List.getElem_cons_zero, List.getElem_cons_succ, List.setIfInBounds_toArray, List.set_cons_zero, List.set_cons_succ]
        refine J_takeO 1 (v := ?vd0c1) rfl (by kernel_rfl) (by kernel_rfl) (by kernel_rfl) (by kernel_rfl) (fun _ _ _ h => h) (Or.inl ⟨by rfl, ?yd0c1⟩) sb ?rd0c1
        case yd0c1 => (intro w hSw; obtain ⟨_, _, _, _, _⟩ := hSw; (go_simp; with_reducible rfl))
        simp only [Act.put, List.getElem_toArray, List.getElem_cons_zero, List.getElem_cons_succ, List.setIfInBounds_toArray, List.set_cons_zero, List.set_cons_succ]
        refine J_takeO 2 (v := ?vd0c2) rfl (by kernel_rfl) (by kernel_rfl) (by kernel_rfl) (by kernel_rfl) (fun _ _ _ h => h) (Or.inl ⟨by rfl, ?yd0c2⟩) sb ?rd0c2
        case yd0c2 => (intro w hSw; obtain ⟨_, _, _, _, _⟩ := hSw; (go_simp; with_reducible rfl))
        simp only [Act.put, List.getElem_toArray, List.getElem_cons_zero, List.getElem_cons_succ, List.setIfInBounds_toArray, List.set_cons_zero, List.set_cons_succ]
        refine J_takeO 3 (v := ?vd0c3) rfl (by kernel_rfl) (by kernel_rfl) (by kernel_rfl) (by kernel_rfl) (fun _ _ _ h => h) (Or.inl ⟨by rfl, ?yd0c3⟩) sb ?rd0c3
        case yd0c3 => (intro w hSw; obtain ⟨_, _, _, _, _⟩ := hSw; (go_simp; with_reducible rfl))
        simp only [Act.put, List.getElem_toArray, List.getElem_cons_zero, List.getElem_cons_succ, List.setIfInBounds_toArray, List.set_cons_zero, List.set_cons_succ]
        refine J_one 4 rfl (by kernel_rfl) (fun K hK => ?_)
        go_simp
        refine (bput_any G (off + 4) 4 _ z (bys (pad ((AK) ++ (le4 0)) N)) v4 (by decide) (by omega) (by omega) hzb0 hzb1 (by rw [bys_len, pad_len _ _ (by rw [show ((AK) ++ (le4 0)).length = off + 4 from (by rw [List.length_append, hoo]; rfl)]; omega)]; omega) hF).mono ?_
        rintro e v5 ⟨rfl, hF', hgr⟩
        replace hF : Hid (v5.heap[G]? = some (.cells (bys (pad (((AK) ++ (le4 0)) ++ (le4 z)) N)).toArray 5 (0, 0))) := by
          rw [← splice_pad (off := off + 4) (by rw [List.length_append, hoo]; rfl) (by simp [le4]; omega)]
          exact hF'.out
        replace hx := hid (hx.out.keep hgr.out (fun k e => by cases e; exact hGz.out))
        replace sb : SB b5 g zb z 0 z3 size v5 := sb.put hgr.out (Ne.symm hGi) hgG.out
        clear hF' hgr
        refine hK _ _ ⟨fun _ => sb, ?_⟩
        clear hK K
        try simp only [Act.put, List.getElem_toArray, List.getElem_cons_zero, List.getElem_cons_succ, List.setIfInBounds_toArray, List.set_cons_zero, List.set_cons_succ]
        refine J_done (by kernel_rfl) (OnlyOn.normal ?_)
        have hFe : Hid (v5.heap[G]? = some (.cells (bys (pad AK2 N)).toArray 5 (0, 0))) := by
          rw [← hent.out, hP.out]
          have h := hF.out
          simp only [List.append_assoc] at h ⊢
          exact h
        obtain ⟨e1, e2, e3, e4, e5⟩ := sb
        have lb1 := World.block_lt_of_cell? v5 _ e1
        have lb2 := World.block_lt_of_cell? v5 _ e2
        have lb3 := World.block_lt_of_cell? v5 _ e3
        dsimp only at lb1 lb2 lb3
        clear hF
        go_wp2_with fail
        go_roundw
        case rel => exact ⟨k + 1, by omega, by go_num, by rw [hA2.out]; exact hFe, hx⟩
        case measure => simp [intOf]; omega
      · have d1 : ((eth l k).kind == 1) = true := by rw [q]; rfl
        have hP := hid (hpre.out.2 q)
        have hp12 := hpl1.out q
        clear hpre hpl1
        generalize (eth l k).kind = zk at *
        subst q
        go_upto_region 11 with fail
        have sb : SB wr.heap.size g zb z 1 z3 size (wr.alloc (.cells #[.int .i64 zb, .int .i64 z, .int .i64 1, .string z3] 78)) := ⟨by go_simp, by go_simp, by go_simp, by go_simp, ((Ext.refl wr).alloc_right _).cell hc2r⟩
        replace hF : Hid ((wr.alloc (.cells #[.int .i64 zb, .int .i64 z, .int .i64 1, .string z3] 78)).heap[G]? = some (.cells (bys (pad AK N)).toArray 5 (0, 0))) := (((Ext.refl wr).alloc_right _).block hGr).trans hF.out
        replace hx : Hid (Ext w2 (wr.alloc (.cells #[.int .i64 zb, .int .i64 z, .int .i64 1, .string z3] 78))) := hx.out.alloc_right _
        clear x0 x1 x2 x3 hc2r hj0 hGr
        generalize wr.heap.size = b5 at *
        generalize (wr.alloc (.cells #[.int .i64 zb, .int .i64 z, .int .i64 1, .string z3] 78)) = v0 at *
        replace sb : SB b5 g zb z 1 z3 size v0.drew := sb
        replace hF : Hid (v0.drew.heap[G]? = some (.cells (bys (pad (AK) N)).toArray 5 (0, 0))) := hF.out
        replace hx : Hid (Ext w2 v0.drew) := hx.out.drew_right
        refine region_J (SB b5 g zb z 1 z3 size) 10 (by kernel_rfl) ?_
        generalize v0.drew = v1 at *
        refine J_takeO 0 (v := ?vd1a0) rfl (by kernel_rfl) (by kernel_rfl) (by kernel_rfl) (by kernel_rfl) (fun _ _ _ h => h) (Or.inl ⟨by rfl, ?yd1a0⟩) sb ?rd1a0
        case yd1a0 => (intro w hSw; obtain ⟨_, _, _, _, _⟩ := hSw; (go_simp; with_reducible rfl))
        simp only [Act.put, List.getElem_toArray, List.getElem_cons_zero, List.getElem_cons_succ, List.setIfInBounds_toArray, List.set_cons_zero, List.set_cons_succ]
        refine J_takeO 1 (v := ?vd1a1) rfl (by kernel_rfl) (by kernel_rfl) (by kernel_rfl) (by kernel_rfl) (fun _ _ _ h => h) (Or.inl ⟨by rfl, ?yd1a1⟩) sb ?rd1a1
        case yd1a1 => (intro w hSw; obtain ⟨_, _, _, _, _⟩ := hSw; (go_simp; with_reducible rfl))
        simp only [Act.put, List.getElem_toArray, List.getElem_cons_zero, List.getElem_cons_succ, List.setIfInBounds_toArray, List.set_cons_zero, List.set_cons_succ]
        refine J_takeO 2 (v := ?vd1a2) rfl (by kernel_rfl) (by kernel_rfl) (by kernel_rfl) (by kernel_rfl) (fun _ _ _ h => h) (Or.inl ⟨by rfl, ?yd1a2⟩) sb ?rd1a2
        case yd1a2 => (intro w hSw; obtain ⟨_, _, _, _, _⟩ := hSw; (go_simp; with_reducible rfl))
        simp only [Act.put, List.getElem_toArray, List.getElem_cons_zero, List.getElem_cons_succ, List.setIfInBounds_toArray, List.set_cons_zero, List.set_cons_succ]
        refine J_takeO 3 (v := ?vd1a3) rfl (by kernel_rfl) (by kernel_rfl) (by kernel_rfl) (by kernel_rfl) (fun _ _ _ h => h) (Or.inl ⟨by rfl, ?yd1a3⟩) sb ?rd1a3
        case yd1a3 => (intro w hSw; obtain ⟨_, _, _, _, _⟩ := hSw; (go_simp; with_reducible rfl))
        simp only [Act.put, List.getElem_toArray, List.getElem_cons_zero, List.getElem_cons_succ, List.setIfInBounds_toArray, List.set_cons_zero, List.set_cons_succ]
        refine J_takeO 4 (v := ?vd1a4) rfl (by kernel_rfl) (by kernel_rfl) (by kernel_rfl) (by kernel_rfl) (fun _ _ _ h => h) (Or.inl ⟨by rfl, ?yd1a4⟩) sb ?rd1a4
        case yd1a4 => (intro w hSw; obtain ⟨_, _, _, _, _⟩ := hSw; (go_simp; with_reducible rfl))
        simp only [Act.put, List.getElem_toArray, List.getElem_cons_zero, List.getElem_cons_succ, List.setIfInBounds_toArray, List.set_cons_zero, List.set_cons_succ]
        refine J_takeO 5 (v := ?vd1a5) rfl (by kernel_rfl) (by kernel_rfl) (by kernel_rfl) (by kernel_rfl) (fun _ _ _ h => h) (Or.inl ⟨by rfl, ?yd1a5⟩) sb ?rd1a5
        case yd1a5 => (intro w hSw; obtain ⟨_, _, _, _, _⟩ := hSw; (go_simp; with_reducible rfl))
        simp only [Act.put, List.getElem_toArray, List.getElem_cons_zero, List.getElem_cons_succ, List.setIfInBounds_toArray, List.set_cons_zero, List.set_cons_succ]
        refine J_takeO 6 (v := ?vd1a6) rfl (by kernel_rfl) (by kernel_rfl) (by kernel_rfl) (by kernel_rfl) (fun _ _ _ h => h) (Or.inl ⟨by rfl, ?yd1a6⟩) sb ?rd1a6
        case yd1a6 => (intro w hSw; obtain ⟨_, _, _, _, _⟩ := hSw; (go_simp; with_reducible rfl))
        simp only [Act.put, List.getElem_toArray, List.getElem_cons_zero, List.getElem_cons_succ, List.setIfInBounds_toArray, List.set_cons_zero, List.set_cons_succ]
        refine J_takeO 7 (v := ?vd1a7) rfl (by kernel_rfl) (by kernel_rfl) (by kernel_rfl) (by kernel_rfl) (fun _ _ _ h => h) (Or.inl ⟨by rfl, ?yd1a7⟩) sb ?rd1a7
        case yd1a7 => (intro w hSw; obtain ⟨_, _, _, _, _⟩ := hSw; (go_simp; with_reducible rfl))
        simp only [Act.put, List.getElem_toArray, List.getElem_cons_zero, List.getElem_cons_succ, List.setIfInBounds_toArray, List.set_cons_zero, List.set_cons_succ]
        refine J_takeO 8 (v := ?vd1a8) rfl (by kernel_rfl) (by kernel_rfl) (by kernel_rfl) (by kernel_rfl) (fun _ _ _ h => h) (Or.inl ⟨by rfl, ?yd1a8⟩) sb ?rd1a8
        case yd1a8 => (intro w hSw; obtain ⟨_, _, _, _, _⟩ := hSw; (go_simp; with_reducible rfl))
        simp only [Act.put, List.getElem_toArray, List.getElem_cons_zero, List.getElem_cons_succ, List.setIfInBounds_toArray, List.set_cons_zero, List.set_cons_succ]
        refine J_one 9 rfl (by kernel_rfl) (fun K hK => ?_)
        go_simp
        refine hK _ _ ⟨fun _ => sb, ?_⟩
        clear hK K
        try simp only [Act.put, List.setIfInBounds_toArray, List.set_cons_zero, List.set_cons_succ]
        refine J_done (by kernel_rfl) (OnlyOn.normal ?_)
        go_upto_region 12 with fail
        replace sb : SB b5 g zb z 1 z3 size v1.drew := sb
        replace hF : Hid (v1.drew.heap[G]? = some (.cells (bys (pad (AK) N)).toArray 5 (0, 0))) := hF.out
        replace hx : Hid (Ext w2 v1.drew) := hx.out.drew_right
        refine region_J (SB b5 g zb z 1 z3 size) 5 (by kernel_rfl) ?_
        generalize v1.drew = v2 at *
        refine J_takeO 0 (v := ?vd1b0) rfl (by kernel_rfl) (by kernel_rfl) (by kernel_rfl) (by kernel_rfl) (fun _ _ _ h => h) (Or.inl ⟨by rfl, ?yd1b0⟩) sb ?rd1b0
        case yd1b0 => (intro w hSw; obtain ⟨_, _, _, _, _⟩ := hSw; (go_simp; with_reducible rfl))
        simp only [Act.put, List.getElem_toArray, List.getElem_cons_zero, List.getElem_cons_succ, List.setIfInBounds_toArray, List.set_cons_zero, List.set_cons_succ]
        refine J_takeO 1 (v := ?vd1b1) rfl (by kernel_rfl) (by kernel_rfl) (by kernel_rfl) (by kernel_rfl) (fun _ _ _ h => h) (Or.inl ⟨by rfl, ?yd1b1⟩) sb ?rd1b1
        case yd1b1 => (intro w hSw; obtain ⟨_, _, _, _, _⟩ := hSw; (go_simp; with_reducible rfl))
        simp only [Act.put, List.getElem_toArray, List.getElem_cons_zero, List.getElem_cons_succ, List.setIfInBounds_toArray, List.set_cons_zero, List.set_cons_succ]
        refine J_takeO 2 (v := ?vd1b2) rfl (by kernel_rfl) (by kernel_rfl) (by kernel_rfl) (by kernel_rfl) (fun _ _ _ h => h) (Or.inl ⟨by rfl, ?yd1b2⟩) sb ?rd1b2
        case yd1b2 => (intro w hSw; obtain ⟨_, _, _, _, _⟩ := hSw; (go_simp; with_reducible rfl))
        simp only [Act.put, List.getElem_toArray, List.getElem_cons_zero, List.getElem_cons_succ, List.setIfInBounds_toArray, List.set_cons_zero, List.set_cons_succ]
        refine J_takeO 3 (v := ?vd1b3) rfl (by kernel_rfl) (by kernel_rfl) (by kernel_rfl) (by kernel_rfl) (fun _ _ _ h => h) (Or.inl ⟨by rfl, ?yd1b3⟩) sb ?rd1b3
        case yd1b3 => (intro w hSw; obtain ⟨_, _, _, _, _⟩ := hSw; (go_simp; with_reducible rfl))
        simp only [Act.put, List.getElem_toArray, List.getElem_cons_zero, List.getElem_cons_succ, List.setIfInBounds_toArray, List.set_cons_zero, List.set_cons_succ]
        refine J_one 4 rfl (by kernel_rfl) (fun K hK => ?_)
        go_simp
        refine (bput_any G (off) 4 _ 1 (bys (pad (AK) N)) v2 (by decide) (by omega) (by omega) (by decide) (by decide) (by rw [bys_len, pad_len _ _ (by rw [show (AK).length = off from hoo]; omega)]; omega) hF).mono ?_
        rintro e v3 ⟨rfl, hF', hgr⟩
        replace hF : Hid (v3.heap[G]? = some (.cells (bys (pad ((AK) ++ (le4 1)) N)).toArray 5 (0, 0))) := by
          rw [← splice_pad (off := off) hoo (by simp [le4]; omega)]
          exact hF'.out
        replace hx := hid (hx.out.keep hgr.out (fun k e => by cases e; exact hGz.out))
        replace sb : SB b5 g zb z 1 z3 size v3 := sb.put hgr.out (Ne.symm hGi) hgG.out
        clear hF' hgr
        refine hK _ _ ⟨fun _ => sb, ?_⟩
        clear hK K
        try simp only [Act.put, List.getElem_toArray, List.getElem_cons_zero, List.getElem_cons_succ, List.setIfInBounds_toArray, List.set_cons_zero, List.set_cons_succ]
        refine J_done (by kernel_rfl) (OnlyOn.normal ?_)
        go_upto_region 13 with fail
        replace sb : SB b5 g zb z 1 z3 size v3.drew := sb
        replace hF : Hid (v3.drew.heap[G]? = some (.cells (bys (pad ((AK) ++ (le4 1)) N)).toArray 5 (0, 0))) := hF.out
        replace hx : Hid (Ext w2 v3.drew) := hx.out.drew_right
        refine region_J (SB b5 g zb z 1 z3 size) 5 (by kernel_rfl) ?_
        generalize v3.drew = v4 at *
        refine J_takeO 0 (v := ?vd1c0) rfl (by kernel_rfl) (by kernel_rfl) (by kernel_rfl) (by kernel_rfl) (fun _ _ _ h => h) (Or.inl ⟨by rfl, ?yd1c0⟩) sb ?rd1c0
        case yd1c0 => (intro w hSw; obtain ⟨_, _, _, _, _⟩ := hSw; (go_simp; with_reducible rfl))
        simp only [Act.put, List.getElem_toArray, List.getElem_cons_zero, List.getElem_cons_succ, List.setIfInBounds_toArray, List.set_cons_zero, List.set_cons_succ]
        refine J_takeO 1 (v := ?vd1c1) rfl (by kernel_rfl) (by kernel_rfl) (by kernel_rfl) (by kernel_rfl) (fun _ _ _ h => h) (Or.inl ⟨by rfl, ?yd1c1⟩) sb ?rd1c1
        case yd1c1 => (intro w hSw; obtain ⟨_, _, _, _, _⟩ := hSw; (go_simp; with_reducible rfl))
        simp only [Act.put, List.getElem_toArray, List.getElem_cons_zero, List.getElem_cons_succ, List.setIfInBounds_toArray, List.set_cons_zero, List.set_cons_succ]
        refine J_takeO 2 (v := ?vd1c2) rfl (by kernel_rfl) (by kernel_rfl) (by kernel_rfl) (by kernel_rfl) (fun _ _ _ h => h) (Or.inl ⟨by rfl, ?yd1c2⟩) sb ?rd1c2
        case yd1c2 => (intro w hSw; obtain ⟨_, _, _, _, _⟩ := hSw; (go_simp; with_reducible rfl))
        simp only [Act.put, List.getElem_toArray, List.getElem_cons_zero, List.getElem_cons_succ, List.setIfInBounds_toArray, List.set_cons_zero, List.set_cons_succ]
        refine J_takeO 3 (v := ?vd1c3) rfl (by kernel_rfl) (by kernel_rfl) (by kernel_rfl) (by kernel_rfl) (fun _ _ _ h => h) (Or.inl ⟨by rfl, ?yd1c3⟩) sb ?rd1c3
        case yd1c3 => (intro w hSw; obtain ⟨_, _, _, _, _⟩ := hSw; (go_simp; with_reducible rfl))
        simp only [Act.put, List.getElem_toArray, List.getElem_cons_zero, List.getElem_cons_succ, List.setIfInBounds_toArray, List.set_cons_zero, List.set_cons_succ]
        refine J_one 4 rfl (by kernel_rfl) (fun K hK => ?_)
        go_simp
        refine (bput_any G (off + 4) 4 _ z (bys (pad ((AK) ++ (le4 1)) N)) v4 (by decide) (by omega) (by omega) hzb0 hzb1 (by rw [bys_len, pad_len _ _ (by rw [show ((AK) ++ (le4 1)).length = off + 4 from (by rw [List.length_append, hoo]; rfl)]; omega)]; omega) hF).mono ?_
        rintro e v5 ⟨rfl, hF', hgr⟩
        replace hF : Hid (v5.heap[G]? = some (.cells (bys (pad (((AK) ++ (le4 1)) ++ (le4 z)) N)).toArray 5 (0, 0))) := by
          rw [← splice_pad (off := off + 4) (by rw [List.length_append, hoo]; rfl) (by simp [le4]; omega)]
          exact hF'.out
        replace hx := hid (hx.out.keep hgr.out (fun k e => by cases e; exact hGz.out))
        replace sb : SB b5 g zb z 1 z3 size v5 := sb.put hgr.out (Ne.symm hGi) hgG.out
        clear hF' hgr
        refine hK _ _ ⟨fun _ => sb, ?_⟩
        clear hK K
        try simp only [Act.put, List.getElem_toArray, List.getElem_cons_zero, List.getElem_cons_succ, List.setIfInBounds_toArray, List.set_cons_zero, List.set_cons_succ]
        refine J_done (by kernel_rfl) (OnlyOn.normal ?_)
        obtain ⟨e1, e2, e3, e4, e5⟩ := sb
        have lb1 := World.block_lt_of_cell? v5 _ e1
        dsimp only at lb1
        have sb : SB b5 g zb z 1 z3 size v5 := ⟨e1, e2, e3, e4, e5⟩
        go_upto_region 15 with fail
        clear e1 e2 e3 e4 e5 lb1
        replace sb : SB b5 g zb z 1 z3 size v5.drew := sb
        replace hF : Hid (v5.drew.heap[G]? = some (.cells (bys (pad (((AK) ++ (le4 1)) ++ (le4 z)) N)).toArray 5 (0, 0))) := hF.out
        replace hx : Hid (Ext w2 v5.drew) := hx.out.drew_right
        refine region_J (SB b5 g zb z 1 z3 size) 6 (by kernel_rfl) ?_
        generalize v5.drew = v6 at *
        refine J_takeO 0 (v := ?vd1e0) rfl (by kernel_rfl) (by kernel_rfl) (by kernel_rfl) (by kernel_rfl) (fun _ _ _ h => h) (Or.inl ⟨by rfl, ?yd1e0⟩) sb ?rd1e0
        case yd1e0 => (intro w hSw; obtain ⟨_, _, _, _, _⟩ := hSw; (go_simp; with_reducible rfl))
        simp only [Act.put, List.getElem_toArray, List.getElem_cons_zero, List.getElem_cons_succ, List.setIfInBounds_toArray, List.set_cons_zero, List.set_cons_succ]
        refine J_takeO 1 (v := ?vd1e1) rfl (by kernel_rfl) (by kernel_rfl) (by kernel_rfl) (by kernel_rfl) (fun _ _ _ h => h) (Or.inl ⟨by rfl, ?yd1e1⟩) sb ?rd1e1
        case yd1e1 => (intro w hSw; obtain ⟨_, _, _, _, _⟩ := hSw; (go_simp; with_reducible rfl))
        simp only [Act.put, List.getElem_toArray, List.getElem_cons_zero, List.getElem_cons_succ, List.setIfInBounds_toArray, List.set_cons_zero, List.set_cons_succ]
        refine J_takeO 2 (v := ?vd1e2) rfl (by kernel_rfl) (by kernel_rfl) (by kernel_rfl) (by kernel_rfl) (fun _ _ _ h => h) (Or.inl ⟨by rfl, ?yd1e2⟩) sb ?rd1e2
        case yd1e2 => (intro w hSw; obtain ⟨_, _, _, _, _⟩ := hSw; (go_simp; with_reducible rfl))
        simp only [Act.put, List.getElem_toArray, List.getElem_cons_zero, List.getElem_cons_succ, List.setIfInBounds_toArray, List.set_cons_zero, List.set_cons_succ]
        refine J_takeO 3 (v := ?vd1e3) rfl (by kernel_rfl) (by kernel_rfl) (by kernel_rfl) (by kernel_rfl) (fun _ _ _ h => h) (Or.inl ⟨by rfl, ?yd1e3⟩) sb ?rd1e3
        case yd1e3 => (intro w hSw; obtain ⟨_, _, _, _, _⟩ := hSw; (go_simp; with_reducible rfl))
        simp only [Act.put, List.getElem_toArray, List.getElem_cons_zero, List.getElem_cons_succ, List.setIfInBounds_toArray, List.set_cons_zero, List.set_cons_succ]
        refine J_takeO 4 (v := ?vd1e4) rfl (by kernel_rfl) (by kernel_rfl) (by kernel_rfl) (by kernel_rfl) (fun _ _ _ h => h) (Or.inl ⟨by rfl, ?yd1e4⟩) sb ?rd1e4
        case yd1e4 => (intro w hSw; obtain ⟨_, _, _, _, _⟩ := hSw; (go_simp; with_reducible rfl))
        simp only [Act.put, List.getElem_toArray, List.getElem_cons_zero, List.getElem_cons_succ, List.setIfInBounds_toArray, List.set_cons_zero, List.set_cons_succ]
        refine J_one 5 rfl (by kernel_rfl) (fun K hK => ?_)
        go_simp
        refine (bput_any G (off + 8) 4 _ z3.size (bys (pad (((AK) ++ (le4 1)) ++ (le4 z)) N)) v6 (by decide) (by omega) (by omega) (by omega) (by omega) (by rw [bys_len, pad_len _ _ (by rw [show (((AK) ++ (le4 1)) ++ (le4 z)).length = off + 8 from (by rw [List.length_append, List.length_append, hoo]; rfl)]; omega)]; omega) hF).mono ?_
        rintro e v7 ⟨rfl, hF', hgr⟩
        replace hF : Hid (v7.heap[G]? = some (.cells (bys (pad ((((AK) ++ (le4 1)) ++ (le4 z)) ++ (le4 z3.size)) N)).toArray 5 (0, 0))) := by
          rw [← splice_pad (off := off + 8) (by rw [List.length_append, List.length_append, hoo]; rfl) (by simp [le4]; omega)]
          exact hF'.out
        replace hx := hid (hx.out.keep hgr.out (fun k e => by cases e; exact hGz.out))
        replace sb : SB b5 g zb z 1 z3 size v7 := sb.put hgr.out (Ne.symm hGi) hgG.out
        clear hF' hgr
        refine hK _ _ ⟨fun _ => sb, ?_⟩
        clear hK K
        try simp only [Act.put, List.getElem_toArray, List.getElem_cons_zero, List.getElem_cons_succ, List.setIfInBounds_toArray, List.set_cons_zero, List.set_cons_succ]
        refine J_done (by kernel_rfl) (OnlyOn.normal ?_)
        go_upto_region 16 with fail
        replace sb : SB b5 g zb z 1 z3 size v7.drew := sb
        replace hF : Hid (v7.drew.heap[G]? = some (.cells (bys (pad ((((AK) ++ (le4 1)) ++ (le4 z)) ++ (le4 z3.size)) N)).toArray 5 (0, 0))) := hF.out
        replace hx : Hid (Ext w2 v7.drew) := hx.out.drew_right
        refine region_J (SB b5 g zb z 1 z3 size) 5 (by kernel_rfl) ?_
        generalize v7.drew = v8 at *
        refine J_takeO 0 (v := ?vd1f0) rfl (by kernel_rfl) (by kernel_rfl) (by kernel_rfl) (by kernel_rfl) (fun _ _ _ h => h) (Or.inl ⟨by rfl, ?yd1f0⟩) sb ?rd1f0
        case yd1f0 => (intro w hSw; obtain ⟨_, _, _, _, _⟩ := hSw; (go_simp; with_reducible rfl))
        simp only [Act.put, List.getElem_toArray, List.getElem_cons_zero, List.getElem_cons_succ, List.setIfInBounds_toArray, List.set_cons_zero, List.set_cons_succ]
        refine J_takeO 1 (v := ?vd1f1) rfl (by kernel_rfl) (by kernel_rfl) (by kernel_rfl) (by kernel_rfl) (fun _ _ _ h => h) (Or.inl ⟨by rfl, ?yd1f1⟩) sb ?rd1f1
        case yd1f1 => (intro w hSw; obtain ⟨_, _, _, _, _⟩ := hSw; (go_simp; with_reducible rfl))
        simp only [Act.put, List.getElem_toArray, List.getElem_cons_zero, List.getElem_cons_succ, List.setIfInBounds_toArray, List.set_cons_zero, List.set_cons_succ]
        refine J_takeO 2 (v := ?vd1f2) rfl (by kernel_rfl) (by kernel_rfl) (by kernel_rfl) (by kernel_rfl) (fun _ _ _ h => h) (Or.inl ⟨by rfl, ?yd1f2⟩) sb ?rd1f2
        case yd1f2 => (intro w hSw; obtain ⟨_, _, _, _, _⟩ := hSw; (go_simp; with_reducible rfl))
        simp only [Act.put, List.getElem_toArray, List.getElem_cons_zero, List.getElem_cons_succ, List.setIfInBounds_toArray, List.set_cons_zero, List.set_cons_succ]
        refine J_takeO 3 (v := ?vd1f3) rfl (by kernel_rfl) (by kernel_rfl) (by kernel_rfl) (by kernel_rfl) (fun _ _ _ h => h) (Or.inl ⟨by rfl, ?yd1f3⟩) sb ?rd1f3
        case yd1f3 => (intro w hSw; obtain ⟨_, _, _, _, _⟩ := hSw; (go_simp; with_reducible rfl))
        simp only [Act.put, List.getElem_toArray, List.getElem_cons_zero, List.getElem_cons_succ, List.setIfInBounds_toArray, List.set_cons_zero, List.set_cons_succ]
        have hcp := Lib.run_copy_row_string (P := Try.prog) v8 27 9 3 5 G (off + 12) (N - off - 12) (N - off - 12) z3 (bys (pad ((((AK) ++ (le4 1)) ++ (le4 z)) ++ (le4 z3.size)) N)).toArray 5 Try.underlying27 (by kernel_rfl) hF.out (by omega) (by rw [List.size_toArray, bys_len, pad_len _ _ (by simp only [List.length_append]; rw [hoo]; simp [le4]; omega)]; omega)
        have hFc : Hid ((v8.setRow G (splice (bys (pad ((((AK) ++ (le4 1)) ++ (le4 z)) ++ (le4 z3.size)) N)) (off + 12) (bys (txt z3))).toArray).heap[G]? = some (.cells (bys (pad ((((AK) ++ (le4 1)) ++ (le4 z)) ++ (le4 z3.size) ++ txt z3) N)).toArray 5 (0, 0))) := by
          rw [← splice_pad (L := (((AK) ++ (le4 1)) ++ (le4 z)) ++ (le4 z3.size)) (M := txt z3) (N := N) (off := off + 12) (by simp only [List.length_append]; rw [hoo]; simp [le4]) (by rw [txt_len]; omega)]
          exact setRow_heap v8 G _ _ _ _ hF.out
        have hgc := grown_setRow0 v8 G (splice (bys (pad ((((AK) ++ (le4 1)) ++ (le4 z)) ++ (le4 z3.size)) N)) (off + 12) (bys (txt z3))).toArray
        have hbe2 : Lib.byteCells z3.data.toList = bys (txt z3) := by simp [Lib.byteCells, bys, txt]
        have hsp : (bys (pad ((((AK) ++ (le4 1)) ++ (le4 z)) ++ (le4 z3.size)) N)).toArray.toList.take (off + 12) ++ Lib.byteCells z3.data.toList ++ (bys (pad ((((AK) ++ (le4 1)) ++ (le4 z)) ++ (le4 z3.size)) N)).toArray.toList.drop (off + 12 + z3.size) = splice (bys (pad ((((AK) ++ (le4 1)) ++ (le4 z)) ++ (le4 z3.size)) N)) (off + 12) (bys (txt z3)) := by
          unfold splice
          rw [hbe2, bys_len, txt_len, List.append_assoc]
        rw [hsp] at hcp
        have sb2 := sb.put hgc (Ne.symm hGi) hgG.out
        have hx2 : Hid (Ext w2 (v8.setRow G (splice (bys (pad ((((AK) ++ (le4 1)) ++ (le4 z)) ++ (le4 z3.size)) N)) (off + 12) (bys (txt z3))).toArray)) := hx.out.keep hgc (fun k e => by cases e; exact hGz.out)
        clear hgc hsp hbe2 hF hx
        generalize v8.setRow G (splice (bys (pad ((((AK) ++ (le4 1)) ++ (le4 z)) ++ (le4 z3.size)) N)) (off + 12) (bys (txt z3))).toArray = v9 at *
        refine J_one 4 rfl (by kernel_rfl) (fun K hK => ?_)
        refine step_run rfl (goInt z3.size) (w' := v9) (ex_copy _ _ _ _ rfl _ _ (by simp [Act.eval, Act.put]) (by simp [Act.eval, Act.put]) _ hcp) ?_
        refine hK _ _ ⟨fun _ => sb2, ?_⟩
        clear hK K
        try simp only [Act.put, List.getElem_toArray, List.getElem_cons_zero, List.getElem_cons_succ, List.setIfInBounds_toArray, List.set_cons_zero, List.set_cons_succ]
        refine J_done (by kernel_rfl) (OnlyOn.normal ?_)
        have hF := hFc
        have hx := hx2
        have sb := sb2
        have hFe : Hid (v9.heap[G]? = some (.cells (bys (pad AK2 N)).toArray 5 (0, 0))) := by
          rw [← hent.out, hP.out]
          have h := hF.out
          simp only [List.append_assoc] at h ⊢
          exact h
        obtain ⟨e1, e2, e3, e4, e5⟩ := sb
        have lb1 := World.block_lt_of_cell? v9 _ e1
        have lb2 := World.block_lt_of_cell? v9 _ e2
        have lb3 := World.block_lt_of_cell? v9 _ e3
        dsimp only at lb1 lb2 lb3
        clear hF
        go_wp2_with fail
        go_roundw
        case rel => exact ⟨k + 1, by omega, by go_num, by rw [hA2.out]; exact hFe, hx⟩
        case measure => simp [intOf]; omega
    · obtain rfl : k = l.length := by omega
      have hFin : Hid (wr.ownsRow w.heap.size 5 1 (.slice (some ⟨G, 0, none⟩) N N) N (bys (fileB size l))) := by
        have e : pad (hdB size l ++ bodyB size (l.take l.length)) N = fileB size l := by
          rw [List.take_length]
          exact pad_of_le _ _ (Nat.le_of_eq hNN.symm)
        have hF2 := hF.out
        rw [e] at hF2
        exact ⟨by rw [bys_len, hNN, Nat.mul_one], .inr ⟨G, N, _, rfl, hGw.out, hF2, Nat.le_refl _, by unfold maxLen; omega, by simp [bys_len, hNN], by simp; exact List.take_of_length_le (by rw [bys_len]; omega)⟩⟩
      replace h1 := hid (h2.out.ext hx.out)
      replace m0 := hid (m2.out.right hx.out)
      have k0 := hid (h1.out.c0)
      have kf := hid (h1.out.free 0)
      have hgl := hid h.lt
      go_wp2
      refine leaves_cons (f := 41) (args := #[.pointer (some ⟨g, 0, none⟩)]) (by simp) (by simp [go_sem]) ?_
      refine (unlock_deferred muLib ⟨g, 0, none⟩ .returning _ k0.out kf.out).mono ?_
      rintro e u' w'' ⟨rfl, rfl, rfl⟩
      exact ⟨_, results_tmp rfl _ _ _, _, rfl, own_set hFin.out (fun e => by have := own_freshB hFin.out _ e; have := hgl.out; omega) 0 _, h1.out.lock 0, m0.out.set 0 _⟩
end Go.Proofs.Ytcgjhloiokpicaa
