/-
  put: the walk.
-/
import Derived.Test.YtcgjhloiokpicaaMb
import Derived.Stop.RegionWithIn
import Derived.Sort.CutIn
import Derived.Deep.AppendLies
import Derived.Deep.RegionLaw
import Derived.Deep.RegionHeld3
import Derived.Deep.DeepCutAuto
import Derived.Deep.DrawnRows
import Derived.Deep.CutRange
namespace Go.Proofs.Ytcgjhloiokpicaa
open Go.RowKit Go.Shelf
set_option linter.unusedVariables false
set_option linter.unusedSimpArgs false
attribute [local go_sem] Oper.semAt_some
theorem mem_frs {l : List En} {k j : Nat} (h : j < k) (hk : (eth l j).kind = 0) : j ∈ frs l k := by
  unfold frs
  rw [List.mem_filter]
  exact ⟨List.mem_range.2 h, by rw [hk]; rfl⟩
/-- What stands before an entry among the free ones. -/
theorem frs_sorted (l : List En) (k : Nat) : (frs l k).Pairwise (· < ·) := by
  unfold frs
  exact (List.pairwise_lt_range (n := k)).sublist List.filter_sublist
theorem frs_init {l : List En} {xs : List Nat} {i j n : Nat} (hp : xs ++ [i] <+: frs l n) (hi : i < n) (hj : j ∈ frs l i) : j ∈ xs := by
  obtain ⟨t, ht⟩ := hp
  have hjn : j ∈ frs l n := (frs_pre l n i (by omega)).subset hj
  have hs := frs_sorted l n
  rw [← ht] at hjn hs
  rw [List.append_assoc] at hjn hs
  have hji : j < i := by unfold frs at hj; rw [List.mem_filter, List.mem_range] at hj; exact hj.1
  rcases List.mem_append.1 hjn with h | h
  · exact h
  · exfalso
    have h2 := (List.pairwise_append.1 hs).2.1
    rcases List.mem_cons.1 h with e | h3
    · omega
    · have := (List.pairwise_cons.1 h2).1 j h3
      omega
theorem fits_none {l : List En} {n : Int} {xs : List (Pl l)} (hS : plv xs = frs l l.length) (h : ∀ k ∈ xs, (eth l k.1).blocks < n) : ∀ j, j < l.length → fitE n (eth l j) = false := by
  intro j hj
  unfold fitE
  by_cases hk : (eth l j).kind = 0
  · have hm : j ∈ plv xs := by rw [hS]; exact mem_frs hj hk
    unfold plv at hm
    obtain ⟨x, hx, rfl⟩ := List.mem_map.1 hm
    have := h x hx
    rw [Bool.and_eq_false_iff]
    right
    simpa using this
  · rw [show ((eth l j).kind == 0) = false by rw [beq_eq_false_iff_ne]; exact hk]
    rfl
theorem own_base {w : World} {b b' n : Nat} {e : TypeId} {v : Value} {xs : List Value} (h : w.ownsRow b e 4 v n xs) (hb : b' ≤ b) : w.ownsRow b' e 4 v n xs := by
  refine ⟨h.1, ?_⟩
  rcases h.2 with h2 | ⟨g, cap, cur, e1, e2, e3, e4⟩
  · exact .inl h2
  · exact .inr ⟨g, cap, cur, e1, by omega, e3, e4⟩
theorem own_isCells {w : World} {b n : Nat} {e : TypeId} {v : Value} {xs : List Value} (h : w.ownsRow b e 4 v n xs) : ∀ (j : Nat) (o : Obj), v.ownBlock = some j → w.heap[j]? = some o → o.isCells = true := by
  intro j o hj ho
  rcases h.2 with ⟨rfl, _⟩ | ⟨g, cap, cur, rfl, _, hb, _⟩
  · cases hj
  · have e : g = j := by simpa [Value.ownBlock] using hj
    rw [← e, hb] at ho
    cases ho
    rfl
theorem ext_others {w w' : World} (h : Ext w w') : KeepsOthers w w' := ⟨h.size, fun k o hk _ => (h.block (Array.getElem?_eq_some_iff.1 hk).1).trans hk⟩
def PutI (w0 : World) (l : List En) (n : Int) (pre : List (Pl l)) (W : World) : Prop := Hid (Ext w0 W) ∧ Hid (∀ k ∈ pre, (eth l k.1).blocks < n)
def PutIx (w : World) (lk size : Int) (g : Nat) (v : Value) (l : List En) (n : Int) (s : ByteArray) (c : Code) (pre : List (Pl l)) (W : World) : Prop :=
  c = .ret ∧ ∃ (i : Pl l) (init : List (Pl l)) (v' : Value), pre = init ++ [i] ∧ (∀ k ∈ init, (eth l k.1).blocks < n) ∧ n ≤ (eth l i.1).blocks ∧ MA lk W g size v' (putAt l i.1 n s) ∧ MT g v v' w W ∧ W.cell? ⟨w.heap.size + 1 + 1, 0, none⟩ = some (.int .i64 (eth l i.1).block) ∧ W.cell? ⟨w.heap.size + 1 + 1 + 1, 0, none⟩ = some (.bool true)
set_option maxRecDepth 100000 in
set_option maxHeartbeats 4000000 in
theorem put_any (lk size : Int) (g : Nat) (v : Value) (l : List En) (s : ByteArray) (w : World) (h : MA lk w g size v l) (hs1 : 16 ≤ size) (hs2 : size ≤ 256) (hz : s.size ≤ 2048) (hin : ∀ k, k < l.length → 0 ≤ (eth l k).block ∧ (eth l k).block ≤ 4096 ∧ 0 ≤ (eth l k).blocks ∧ (eth l k).blocks ≤ 4096) (hfr : ∀ k, k < l.length → (eth l k).kind = 0 → k + 1 < l.length) (hll : l.length ≤ 5000) (hei : 1 ≤ endI l ∧ endI l ≤ 4096) :
    Calls Try.prog 56 #[.pointer (some ⟨g, 0, none⟩), .string s] w fun e w' => e = .returned (.tuple #[.int .i64 (putB l (needS size s.size)), .bool (putO l (needS size s.size))]) ∧ ∃ v', MA lk w' g size v' (putL l (needS size s.size) s) ∧ MT g v v' w w' := by
  have c2 := h.c2
  have lg := h.lt
  replace hin := hid hin
  replace hfr := hid hfr
  replace hll := hid hll
  have hN := hid (fun w => needs_any size s.size w hs1 hs2 (by omega) (by omega))
  have hnr := need_rng ⟨hs1, hs2⟩ (n := s.size) (by omega) (by omega)
  generalize needS size s.size = n at *
  refine (callsIn_wide (n := 5)).1 ?_
  refine callsIn_of_wp_marks Try.func56 rfl trivial ?_ rfl
  simp only [Try.ntmps56, List.size_toArray, List.length_cons, List.length_nil, Nat.reduceAdd, Nat.reduceSub, Array.replicate_succ, Array.replicate_zero, List.push_toArray, List.append_toArray, List.nil_append, List.cons_append]
  refine wpIn_wide.2 ?_
  go_upto_region 1 with fail
  have hg1 := h.ext ((((Ext.refl w).alloc_right (.cells #[.pointer (some ⟨g, 0, none⟩)] 28)).alloc_right (.cells #[.string s] 9)).alloc_right (.cells #[.int .i64 0] 3) |>.alloc_right (.cells #[.bool false] 4))
  have hx1 : Hid (Ext w ((((w.alloc (.cells #[.pointer (some ⟨g, 0, none⟩)] 28)).alloc (.cells #[.string s] 9)).alloc (.cells #[.int .i64 0] 3)).alloc (.cells #[.bool false] 4))) := ((((Ext.refl w).alloc_right _).alloc_right _).alloc_right _).alloc_right _
  have d2 : ((((w.alloc (.cells #[.pointer (some ⟨g, 0, none⟩)] 28)).alloc (.cells #[.string s] 9)).alloc (.cells #[.int .i64 0] 3)).alloc (.cells #[.bool false] 4)).cell? ⟨w.heap.size, 0, none⟩ = some (.pointer (some ⟨g, 0, none⟩)) := by go_simp
  have d3 : ((((w.alloc (.cells #[.pointer (some ⟨g, 0, none⟩)] 28)).alloc (.cells #[.string s] 9)).alloc (.cells #[.int .i64 0] 3)).alloc (.cells #[.bool false] 4)).cell? ⟨w.heap.size + 1, 0, none⟩ = some (.string s) := by go_simp
  have B4 : Hid (Boxed ((((w.alloc (.cells #[.pointer (some ⟨g, 0, none⟩)] 28)).alloc (.cells #[.string s] 9)).alloc (.cells #[.int .i64 0] 3)).alloc (.cells #[.bool false] 4)) (w.heap.size + 1 + 1) 3 (.int .i64 0)) := by
    have e := (Boxed.new ((w.alloc (.cells #[.pointer (some ⟨g, 0, none⟩)] 28)).alloc (.cells #[.string s] 9)) 3 (.int .i64 0)).alloc (.cells #[.bool false] 4)
    unfold Hid; simpa using e
  have B5 : Hid (Boxed ((((w.alloc (.cells #[.pointer (some ⟨g, 0, none⟩)] 28)).alloc (.cells #[.string s] 9)).alloc (.cells #[.int .i64 0] 3)).alloc (.cells #[.bool false] 4)) (w.heap.size + 1 + 1 + 1) 4 (.bool false)) := by
    have e := Boxed.new (((w.alloc (.cells #[.pointer (some ⟨g, 0, none⟩)] 28)).alloc (.cells #[.string s] 9)).alloc (.cells #[.int .i64 0] 3)) 4 (.bool false)
    unfold Hid; simpa using e
  have hz1 : Hid (((((w.alloc (.cells #[.pointer (some ⟨g, 0, none⟩)] 28)).alloc (.cells #[.string s] 9)).alloc (.cells #[.int .i64 0] 3)).alloc (.cells #[.bool false] 4)).heap.size = w.heap.size + 4) := by simp [Hid]
  clear c2
  generalize ((((w.alloc (.cells #[.pointer (some ⟨g, 0, none⟩)] 28)).alloc (.cells #[.string s] 9)).alloc (.cells #[.int .i64 0] 3)).alloc (.cells #[.bool false] 4)) = w1 at *
  have c2 := hg1.c2
  have lg1 := hg1.lt
  have l2 := World.block_lt_of_cell? w1 _ d2
  have l3 := World.block_lt_of_cell? w1 _ d3
  dsimp only at l2 l3
  go_cut [6] from 6 to 87 (fun a wx => ∃ p : Nat, a = .pointer (some ⟨p, 0, none⟩) ∧ wx.cell? ⟨p, 0, none⟩ = some (.int .i64 n) ∧ Hid (w1.heap.size ≤ p) ∧ Hid (Ext w1 wx))
  case first =>
    have HS : Hid (∀ w', Ext w1 w' → (w'.cell? ⟨w.heap.size, 0, none⟩ = some (.pointer (some ⟨g, 0, none⟩)) ∧ w'.cell? ⟨w.heap.size + 1, 0, none⟩ = some (.string s) ∧ w'.cell? ⟨g, 2, none⟩ = some (.int .i64 size) ∧ Ext w1 w')) := fun w' hx => ⟨hx.cell d2, hx.cell d3, hx.cell c2, hx⟩
    have I := hid (HS.out w1.drew (Ext.refl w1).drew_right)
    clear d2 d3 c2
    have z2 := hid (Nat.le_refl w1.heap.size)
    go_region_held3 (fun w' => w'.cell? ⟨w.heap.size, 0, none⟩ = some (.pointer (some ⟨g, 0, none⟩)) ∧ w'.cell? ⟨w.heap.size + 1, 0, none⟩ = some (.string s) ∧ w'.cell? ⟨g, 2, none⟩ = some (.int .i64 size) ∧ Ext w1 w')
      ((first | exact I.out | (exact HS.out _ (((Ext.refl w1).alloc_right _).drew_right)) | (exact HS.out _ ((((Ext.refl w1).drew_right).alloc_right _))) | (go_split_ands; exact HS.out _ (Ext.alloc_right (by assumption) _)) | (go_split_ands; exact HS.out _ (by assumption)) | (go_split_ands; exact HS.out _ (Ext.set (by assumption) (by exact Nat.le_refl _) _))))
      ((go_at_call 33; go_split_ands; refine (hN.out _).mono ?_; rintro e w3 ⟨rfl, rfl⟩))
    all_goals
      go_wp2_with fail
      go_meet
      exact ⟨w1.heap.size, rfl, by go_simp, Nat.le_refl _, ((Ext.refl w1).alloc_right _).drew_right⟩
  case rest =>
    obtain ⟨p, rfl, d6, hp, hxc⟩ := hcut
    have hgc := hg1.ext hxc.out
    have d2c := hxc.out.cell d2
    have d3c := hxc.out.cell d3
    have B4c : Hid (Boxed wc (w.heap.size + 1 + 1) 3 (.int .i64 0)) := (hxc.out.block B4.out.lt).trans B4.out
    have B5c : Hid (Boxed wc (w.heap.size + 1 + 1 + 1) 4 (.bool false)) := (hxc.out.block B5.out.lt).trans B5.out
    have hxw : Hid (Ext w wc) := hx1.out.trans hxc.out
    have hpz : Hid (w.heap.size + 4 ≤ p) := by unfold Hid; rw [← hz1.out]; exact hp.out
    have hwz : Hid (w.heap.size + 4 ≤ wc.heap.size) := by unfold Hid; rw [← hz1.out]; exact hxc.out.size
    clear d2 d3 c2 B4 B5 hg1 hx1 hz1 hp hxc l2 l3 lg1
    go_wp2_with (go_at_call 66; refine (freesF_any _ _).mono ?_; rintro e w' ⟨rfl, rfl⟩)
    have hx0 : Hid (Ext wc (wc.alloc (.cells #[.pointer (some ⟨g, 0, none⟩)] 28))) := (Ext.refl wc).alloc_right _
    have hB0 : (wc.alloc (.cells #[.pointer (some ⟨g, 0, none⟩)] 28)).cell? ⟨wc.heap.size, 0, none⟩ = some (.pointer (some ⟨g, 0, none⟩)) := by go_simp
    have hlc : Hid (p < wc.heap.size) := World.block_lt_of_cell? wc _ d6
    generalize hw0 : wc.alloc (.cells #[.pointer (some ⟨g, 0, none⟩)] 28) = w0 at *
    clear hw0
    have hg0 := hgc.ext hx0.out
    have e2 := hx0.out.cell d2c
    have e3 := hx0.out.cell d3c
    have e6 := hx0.out.cell d6
    have B4 : Hid (Boxed w0 (w.heap.size + 1 + 1) 3 (.int .i64 0)) := (hx0.out.block B4c.out.lt).trans B4c.out
    have B5 : Hid (Boxed w0 (w.heap.size + 1 + 1 + 1) 4 (.bool false)) := (hx0.out.block B5c.out.lt).trans B5c.out
    have hxw0 : Hid (Ext w w0) := hxw.out.trans hx0.out
    have hw0z : Hid (w.heap.size + 4 ≤ w0.heap.size) := Nat.le_trans hwz.out hx0.out.size
    have hpl : Hid (p < w0.heap.size) := Nat.lt_of_lt_of_le hlc.out hx0.out.size
    clear hgc d2c d3c d6 B4c B5c hxw hwz hlc hx0
    refine (wpIn_wide (n := 5)).1 ?_
    refine wpIn_rangeFunc_ownF rfl (by decide) (gf := 80) (lb := #[.pointer (some ⟨wc.heap.size, 0, none⟩)]) rfl trivial (enters_of Try.func80 (by kernel_rfl) rfl)
      (frees_stops Fence.wide (5 - 1) trivial rfl (by decide) wc.heap.size lk size g v l w0 hB0 hg0) belowK_t (belowK_b (Nat.le_refl _)) (Below.refl _ _) (fun _ => rfl)
      (PutI w0 l n)
      (PutIx w lk size g v l n s)
      ?hI ?hIx ⟨Ext.refl _, fun k hk => by cases hk⟩ (fun x => { tmps := #[Value.pointer (some ⟨g, 0, none⟩), Value.string s, Value.pointer (some ⟨w.heap.size, 0, none⟩), Value.pointer (some ⟨w.heap.size + 1, 0, none⟩), Value.pointer (some ⟨w.heap.size + 1 + 1, 0, none⟩), Value.pointer (some ⟨w.heap.size + 1 + 1 + 1, 0, none⟩), Value.pointer (some ⟨p, 0, none⟩), Value.int .i64 x.1, u8, u9, u10, u11, u12, u13, u14, u15, u16, u17, Value.pointer (some ⟨g, 0, none⟩), Value.func (.func 80) #[] #[.pointer (some ⟨wc.heap.size, 0, none⟩)], Value.int .i64 x.1, u21, u22, u23, u24, u25, u26, u27, u28, u29, u30, u31, u32, u33, u34, u35, u36, u37, u38, u39, u40, u41, u42, u43, u44, u45, u46, u47, u48, u49, u50, u51, u52, u53, u54, u55, u56, u57, u58, u59, u60, u61, u62, u63, u64, u65, u66, u67, u68, u69, u70, u71, u72, u73, u74, u75, u76, u77, u78, u79, u80, u81, u82, u83, u84, u85, u86, u87], defers := [] }) ?assign ?body ?done ?stop
    case hI =>
      intro pre W W' row hs hg hr
      exact ⟨hs.1.out.keep hg (fun r e => (hr r e).1), hs.2⟩
    case hIx =>
      rintro c pre W W' row ⟨rfl, i, init, v', h1, h2, h3, h4, h5, h6, h7⟩ hg hr
      exact ⟨rfl, i, init, v', h1, h2, h3, h4.keep hg (fun r e => (hr r e).2), h5.keep hg (fun r e => by have := (hr r e).1; have := hw0z.out; omega), cell_row hg (fun r e => (hr r e).2) h6, cell_row hg (fun r e => (hr r e).2) h7⟩
    case assign =>
      intro lp x W K hK
      gi_wp2
      exact hK
    case body =>
      rintro lp pre x W ⟨hxW, hpre⟩ hlen
      have hil := x.2.1
      have hki := x.2.2
      generalize hxi : x.1 = i at *
      replace hxi := hid hxi
      have hgW := hg0.ext hxW.out
      have e2W := hxW.out.cell e2
      have e3W := hxW.out.cell e3
      have e6W := hxW.out.cell e6
      have c3 := hgW.c3
      have k2 := World.block_lt_of_cell? W _ e2W
      have k3 := World.block_lt_of_cell? W _ e3W
      have k6 := World.block_lt_of_cell? W _ e6W
      have kg := World.block_lt_of_cell? W _ c3
      dsimp only at k2 k3 k6 kg
      obtain ⟨A, c, rfl, hr⟩ := hgW.rd
      have hm := Rd.max hr
      obtain ⟨ad, rfl, x0, x1, x2, x3⟩ := hr.at_ hil
      have hib := hin.out i hil
      have hi1 := hid (hfr.out i hil hki)
      clear hki
      replace hr := hid hr
      by_cases hlt : (eth l i).blocks < n
      · have hp2 : Hid (∀ k ∈ pre ++ [x], (eth l k.1).blocks < n) := by
          intro k hk
          rw [List.mem_append] at hk
          rcases hk with hk | hk
          · exact hpre.out k hk
          · rw [List.mem_singleton] at hk; rw [hk, hxi.out]; exact hlt
        clear hi1
        generalize (eth l i).block = z0 at *
        generalize (eth l i).blocks = z1 at *
        generalize (eth l i).kind = z2 at *
        generalize (eth l i).s = z3 at *
        gi_wp2
        exact ⟨KeepsOthers.alloc _ _, (Below.refl _ W).alloc hxW.out.size _, hxW.out.alloc_right _, hp2⟩
      · by_cases heq : n < (eth l i).blocks
        · have hgt : Hid (n < (eth l i).blocks) := heq
          have hnew : Hid (newE (eth l i) n s = [⟨(eth l i).block, n, 1, s⟩, ⟨(eth l i).block + n, (eth l i).blocks - n, 0, ⟨#[]⟩⟩]) := by unfold Hid newE; rw [if_pos heq]
          have hfit : Hid (n ≤ (eth l x.1).blocks) := by unfold Hid; rw [hxi.out]; omega
          have hbl : Hid ((eth l x.1).block = (eth l i).block) := by rw [hxi.out]; rfl
          have hput : Hid (putAt l x.1 n s = l.take i ++ (⟨(eth l i).block, n, 1, s⟩ :: ⟨(eth l i).block + n, (eth l i).blocks - n, 0, ⟨#[]⟩⟩ :: l.drop (i + 1))) := by unfold Hid putAt; rw [hxi.out, hnew.out]; rfl
          clear hnew
          generalize (eth l i).block = z0 at *
          generalize (eth l i).blocks = z1 at *
          generalize (eth l i).kind = z2 at *
          generalize (eth l i).s = z3 at *
          have hw1 : IntKind.i64.wrap (z0 + n) = z0 + n := IntWalk.i64_in _ (by omega)
          have hw2 : IntKind.i64.wrap (z1 - n) = z1 - n := IntWalk.i64_in _ (by omega)
          have hlt0 := hid hlt
          clear hlt
          obtain ⟨i0, hi0, hiz0, hiz1, hiz2⟩ := info_parts infoEn
          gi_upto_region 8 with fail
          have hxp : Hid (Ext W ((W.alloc (.cells #[.int .i64 z0, .int .i64 z1, .int .i64 z2, .string z3] 78)).alloc (.cells #[.int .i64 z0, .int .i64 n, .int .i64 1, .string s] 78))) := ((Ext.refl W).alloc_right _).alloc_right _
          have u0 : ((W.alloc (.cells #[.int .i64 z0, .int .i64 z1, .int .i64 z2, .string z3] 78)).alloc (.cells #[.int .i64 z0, .int .i64 n, .int .i64 1, .string s] 78)).cell? ⟨W.heap.size, 0, none⟩ = some (.int .i64 z0) := by go_simp
          have u1 : ((W.alloc (.cells #[.int .i64 z0, .int .i64 z1, .int .i64 z2, .string z3] 78)).alloc (.cells #[.int .i64 z0, .int .i64 n, .int .i64 1, .string s] 78)).cell? ⟨W.heap.size, 1, none⟩ = some (.int .i64 z1) := by go_simp
          have hrow : Hid (((W.alloc (.cells #[.int .i64 z0, .int .i64 z1, .int .i64 z2, .string z3] 78)).alloc (.cells #[.int .i64 z0, .int .i64 n, .int .i64 1, .string s] 78)).heap[W.heap.size + 1]? = some (.cells (En.mk z0 n 1 s).cells.toArray 78 (0, 0))) := by
            have := heap_alloc_new (W.alloc (.cells #[.int .i64 z0, .int .i64 z1, .int .i64 z2, .string z3] 78)) (.cells #[.int .i64 z0, .int .i64 n, .int .i64 1, .string s] 78)
            rw [World.size_alloc] at this
            exact this
          have hsz : Hid (((W.alloc (.cells #[.int .i64 z0, .int .i64 z1, .int .i64 z2, .string z3] 78)).alloc (.cells #[.int .i64 z0, .int .i64 n, .int .i64 1, .string s] 78)).heap.size = W.heap.size + 2) := by simp [Hid]
          generalize hW1 : ((W.alloc (.cells #[.int .i64 z0, .int .i64 z1, .int .i64 z2, .string z3] 78)).alloc (.cells #[.int .i64 z0, .int .i64 n, .int .i64 1, .string s] 78)) = W1 at *
          clear hW1
          have v6 := hxp.out.cell e6W
          have l0 := World.block_lt_of_cell? W1 _ u0
          have l1 := World.block_lt_of_cell? W1 _ u1
          have l6 := World.block_lt_of_cell? W1 _ v6
          dsimp only at l0 l1 l6
          have hown1 : Hid (W1.ownsRow W.heap.size 78 4 (.slice (some ⟨W.heap.size + 1, 0, none⟩) 1 1) 1 (En.mk z0 n 1 s).cells) :=
            ⟨rfl, .inr ⟨W.heap.size + 1, 1, _, rfl, by omega, hrow.out, by omega, by unfold maxLen; omega, rfl, rfl⟩⟩
          have hnews : Hid (∀ (j : Nat) u, (En.mk (z0 + n) (z1 - n) 0 ⟨#[]⟩).cells[j]? = some u → (W1.alloc (.cells #[.int .i64 (z0 + n), .int .i64 (z1 - n), .int .i64 0, .string ⟨#[]⟩] 78)).cell? ((⟨W1.heap.size, 0, none⟩ : Addr).add j) = some u) := World.news_of_block (heap_alloc_new W1 _)
          gi_upto_region 9 with (gi_at_builtin; refine wpListIn_append_own _ rfl _ _ 74 rfl W.heap.size 78 i0 _ 4 40 Try.underlying74 hi0 hiz0 hiz1 hiz2 rfl (by decide) _ 1 _ rfl (hown1.out.alloc _) ⟨W1.heap.size, 0, none⟩ 1 1 (En.mk (z0 + n) (z1 - n) 0 ⟨#[]⟩).cells rfl rfl hnews.out (by simp [En.cells, Value.oneCell']) (by decide) (by decide) (by simp; have := hsz.out; omega) ?_; intro v2 W2 hown2 hgr2 _)
          obtain ⟨va, cv, rfl⟩ := own_slice hown2 (by decide)
          have hva : Hid (W.heap.size ≤ va) := (hown2.lt va rfl).1
          replace hgr2 : (W1.alloc (.cells #[.int .i64 (z0 + n), .int .i64 (z1 - n), .int .i64 0, .string ⟨#[]⟩] 78)).grownBy W2 (some (W.heap.size + 1)) := hgr2
          have hxq : Hid (Ext W W2) := ((hxp.out.alloc_right _).keep hgr2 (fun r e => by cases e; omega))
          have hxr : Hid (W1.cell? ⟨W.heap.size, 0, none⟩ = some (.int .i64 z0) → W2.cell? ⟨W.heap.size, 0, none⟩ = some (.int .i64 z0)) := fun hc => hgr2.cell (((Ext.refl W1).alloc_right _).cell hc) (fun e => by have e2 := Option.some.inj e; dsimp only at e2; omega)
          have y0 := hxr.out u0
          have hown2 : Hid (W2.ownsRow 0 78 4 (.slice (some ⟨va, 0, none⟩) 2 cv) 2 ((En.mk z0 n 1 s).cells ++ (En.mk (z0 + n) (z1 - n) 0 ⟨#[]⟩).cells)) := own_base hown2 (Nat.zero_le _)
          have hx2 : Hid (Ext w0 W2) := hxW.out.trans hxq.out
          have hg2 := hgW.ext hxq.out
          have d2 := hxq.out.cell e2W
          have c32 := hg2.c3
          have B4W : Hid (Boxed W2 (w.heap.size + 1 + 1) 3 (.int .i64 0)) := (hx2.out.block B4.out.lt).trans B4.out
          have B5W : Hid (Boxed W2 (w.heap.size + 1 + 1 + 1) 4 (.bool false)) := (hx2.out.block B5.out.lt).trans B5.out
          have j0 := hid (World.block_lt_of_cell? W2 _ y0)
          have hob : Hid (∀ k, w.heap.size ≤ k → some k ≠ (Value.slice (some ad) l.length c).ownBlock) := fun k hk e => by
            have := (h.own.lt k e.symm).2
            omega
          have hlen' : Hid ((l.take i ++ (En.mk z0 n 1 s :: En.mk (z0 + n) (z1 - n) 0 ⟨#[]⟩ :: l.drop (i + 1))).length = l.length + 1) := by
            unfold Hid
            rw [List.length_append, List.length_take, List.length_cons, List.length_cons, List.length_drop]
            omega
          have hl0 : Hid (0 < l.length) := by unfold Hid; omega
          have hWz : Hid (w.heap.size ≤ W.heap.size) := by have := hw0z.out; have := hxW.out.size; unfold Hid; omega
          have hri : IntKind.i64.wrap ((i : Int) + 1) = ((i + 1 : Nat) : Int) := by have := hll.out; rw [IntWalk.i64_in _ (by omega)]; omega
          have hRp : Hid (∀ w', Ext W2 w' → Calls Try.prog 67 #[.slice (some ad) l.length c, .int .i64 i, .int .i64 ((i : Int) + 1), .slice (some ⟨va, 0, none⟩) 2 cv] w' fun e w3 => ∃ (g' c' : Nat), e = .returned (.slice (some ⟨g', 0, none⟩) (l.length + 1) c') ∧ w3.cell? ⟨g, 3, none⟩ = some (.slice (some ad) l.length c) ∧ w3.frozen? ⟨g, 3, none⟩ = false ∧ w3.cell? ⟨w.heap.size, 0, none⟩ = some (.pointer (some ⟨g, 0, none⟩)) ∧ w3.cell? ⟨W.heap.size, 0, none⟩ = some (.int .i64 z0) ∧ Hid (Rw (.slice (some ad) l.length c) (.slice (some ⟨g', 0, none⟩) (l.length + 1) c') w' w3 ∧ MA lk (w3.setCell ⟨g, 3, none⟩ (.slice (some ⟨g', 0, none⟩) (l.length + 1) c')) g size (.slice (some ⟨g', 0, none⟩) (l.length + 1) c') (l.take i ++ (⟨z0, n, 1, s⟩ :: ⟨z0 + n, z1 - n, 0, ⟨#[]⟩⟩ :: l.drop (i + 1))))) := by
            intro w' hx
            rw [show (i : Int) + 1 = ((i + 1 : Nat) : Int) by omega]
            refine (repl2_any l i ⟨z0, n, 1, s⟩ ⟨z0 + n, z1 - n, 0, ⟨#[]⟩⟩ _ va cv w' hi1.out (by have := hll.out; omega) (hg2.ext hx).own (hx.own hown2.out) (fun e => hob.out va (Nat.le_trans hWz.out hva.out) e.symm)).mono ?_
            rintro e w3 ⟨v', rfl, ho3, hrw⟩
            obtain ⟨g', c', rfl⟩ := own_slice ho3 (Nat.succ_pos _)
            obtain ⟨m1, m2, m3, m4⟩ := MA.put (l' := l.take i ++ (⟨z0, n, 1, s⟩ :: ⟨z0 + n, z1 - n, 0, ⟨#[]⟩⟩ :: l.drop (i + 1))) (hg2.ext hx) hrw (by rw [hlen'.out]; exact ho3)
            exact ⟨g', c', rfl, m3, m4, hrw.1.cell (hx.cell d2) (hob.out _ (Nat.le_refl _)), hrw.1.cell (hx.cell y0) (hob.out _ hWz.out), hrw, m1⟩
          clear e2W e3W e6W c3 x0 x1 x2 x3 hgW hrow hnews hown1 hown2 hgr2 hxp hxr u0 u1 v6 l0 l1 l6 k2 k3 k6 kg
          replace hg2 := hid hg2
          have I0 : (fun w' : World => w'.cell? ⟨w.heap.size, 0, none⟩ = some (.pointer (some ⟨g, 0, none⟩)) ∧ w'.cell? ⟨g, 3, none⟩ = some (.slice (some ad) l.length c)) W2.drew := ⟨d2, c32⟩
          refine round_J (fun w' => w'.cell? ⟨w.heap.size, 0, none⟩ = some (.pointer (some ⟨g, 0, none⟩)) ∧ w'.cell? ⟨g, 3, none⟩ = some (.slice (some ad) l.length c)) 12 (by kernel_rfl) (by kernel_rfl) ?_
          refine J_take 0 (v := ?vc0) rfl (by kernel_rfl) (by kernel_rfl) (by kernel_rfl) (by kernel_rfl) (fun _ _ _ h => h) (Or.inl ⟨by rfl, ?yc0⟩) I0 ?rc0
          case yc0 => (intro w hSw; obtain ⟨_, _⟩ := hSw; (go_simp; with_reducible rfl))
          simp only [Act.put, List.setIfInBounds_toArray, List.set_cons_zero, List.set_cons_succ]
          refine J_take 1 (v := ?vc1) rfl (by kernel_rfl) (by kernel_rfl) (by kernel_rfl) (by kernel_rfl) (fun _ _ _ h => h) (Or.inl ⟨by rfl, ?yc1⟩) I0 ?rc1
          case yc1 => (intro w hSw; obtain ⟨_, _⟩ := hSw; (go_simp; with_reducible rfl))
          simp only [Act.put, List.setIfInBounds_toArray, List.set_cons_zero, List.set_cons_succ]
          refine J_take 2 (v := ?vc2) rfl (by kernel_rfl) (by kernel_rfl) (by kernel_rfl) (by kernel_rfl) (fun _ _ _ h => h) (Or.inl ⟨by rfl, ?yc2⟩) I0 ?rc2
          case yc2 => (intro w hSw; obtain ⟨_, _⟩ := hSw; (go_simp; with_reducible rfl))
          simp only [Act.put, List.setIfInBounds_toArray, List.set_cons_zero, List.set_cons_succ]
          refine J_take 3 (v := ?vc3) rfl (by kernel_rfl) (by kernel_rfl) (by kernel_rfl) (by kernel_rfl) (fun _ _ _ h => h) (Or.inl ⟨by rfl, ?yc3⟩) I0 ?rc3
          case yc3 => (intro w hSw; obtain ⟨_, _⟩ := hSw; (go_simp; with_reducible rfl))
          simp only [Act.put, List.setIfInBounds_toArray, List.set_cons_zero, List.set_cons_succ]
          refine J_take 4 (v := ?vc4) rfl (by kernel_rfl) (by kernel_rfl) (by kernel_rfl) (by kernel_rfl) (fun _ _ _ h => h) (Or.inl ⟨by rfl, ?yc4⟩) I0 ?rc4
          case yc4 => (intro w hSw; obtain ⟨_, _⟩ := hSw; (go_simp; with_reducible rfl))
          simp only [Act.put, List.setIfInBounds_toArray, List.set_cons_zero, List.set_cons_succ]
          refine J_take 5 (v := ?vc5) rfl (by kernel_rfl) (by kernel_rfl) (by kernel_rfl) (by kernel_rfl) (fun _ _ _ h => h) (Or.inl ⟨by rfl, ?yc5⟩) I0 ?rc5
          case yc5 => (intro w hSw; obtain ⟨_, _⟩ := hSw; (go_simp; with_reducible rfl))
          simp only [Act.put, List.setIfInBounds_toArray, List.set_cons_zero, List.set_cons_succ]
          refine J_take 6 (v := ?vc6) rfl (by kernel_rfl) (by kernel_rfl) (by kernel_rfl) (by kernel_rfl) (fun _ _ _ h => h) (Or.inl ⟨by rfl, ?yc6⟩) I0 ?rc6
          case yc6 => (intro w hSw; obtain ⟨_, _⟩ := hSw; (go_simp; with_reducible rfl))
          simp only [Act.put, List.setIfInBounds_toArray, List.set_cons_zero, List.set_cons_succ]
          refine J_take 7 (v := ?vc7) rfl (by kernel_rfl) (by kernel_rfl) (by kernel_rfl) (by kernel_rfl) (fun _ _ _ h => h) (Or.inl ⟨by rfl, ?yc7⟩) I0 ?rc7
          case yc7 => (intro w hSw; obtain ⟨_, _⟩ := hSw; (go_simp; with_reducible rfl))
          simp only [Act.put, List.setIfInBounds_toArray, List.set_cons_zero, List.set_cons_succ]
          refine J_take 8 (v := ?vc8) rfl (by kernel_rfl) (by kernel_rfl) (by kernel_rfl) (by kernel_rfl) (fun _ _ _ h => h) (Or.inl ⟨by rfl, ?yc8⟩) I0 ?rc8
          case yc8 => (intro w hSw; obtain ⟨_, _⟩ := hSw; (go_simp; with_reducible rfl))
          simp only [Act.put, List.setIfInBounds_toArray, List.set_cons_zero, List.set_cons_succ]
          refine J_one 9 rfl (by kernel_rfl) (fun K hK => ?_)
          go_simp
          refine (hRp.out _ ((Ext.refl W2).drew_right)).mono ?_
          rintro e w3 ⟨g', c', rfl, m3, m4, d2', y0', hH⟩
          have I3 : (fun w' : World => w'.cell? ⟨w.heap.size, 0, none⟩ = some (.pointer (some ⟨g, 0, none⟩)) ∧ w'.cell? ⟨g, 3, none⟩ = some (.slice (some ad) l.length c)) w3 := ⟨d2', m3⟩
          refine hK _ _ ⟨fun _ => I3, ?_⟩
          clear hK K
          try simp only [Act.put, List.setIfInBounds_toArray, List.set_cons_zero, List.set_cons_succ]
          refine J_one 10 rfl (by kernel_rfl) (fun K hK => ?_)
          go_simp
          refine hK _ _ ⟨fun _ => I3, ?_⟩
          clear hK K
          try simp only [Act.put, List.setIfInBounds_toArray, List.set_cons_zero, List.set_cons_succ]
          refine J_one 11 rfl (by kernel_rfl) (fun K hK => ?_)
          go_simp
          refine hK _ _ ⟨fun _ => I3, ?_⟩
          clear hK K
          try simp only [Act.put, List.setIfInBounds_toArray, List.set_cons_zero, List.set_cons_succ]
          refine J_one 12 rfl (by kernel_rfl) (fun K hK => ?_)
          go_simp
          refine hK _ _ ⟨fun h => absurd rfl h, ?_⟩
          clear hK K
          refine J_done (by kernel_rfl) (OnlyOn.normal ?_)
          have hv' : Hid (∀ k, w.heap.size ≤ k → k < W2.heap.size → (Value.slice (some ⟨g', 0, none⟩) (l.length + 1) c').ownBlock ≠ some k) := by
            intro k hk hk2 e
            rcases hH.out.1.2 with e2 | e2
            · exact hob.out k hk (e2 ▸ e).symm
            · have := e2 k e
              have : W2.drew.heap.size = W2.heap.size := rfl
              omega
          have hMT3 : Hid (MT g (.slice (some ad) l.length c) (.slice (some ⟨g', 0, none⟩) (l.length + 1) c') w (w3.setCell ⟨g, 3, none⟩ (.slice (some ⟨g', 0, none⟩) (l.length + 1) c'))) :=
            ((((MT.refl g _ w).right (hxw0.out.trans hx2.out.drew_right)).rw hH.out.1).set 3 _)
          have hM3 := hid hH.out.2
          have hbz := hw0z.out
          have hz02 : Hid (w0.heap.size ≤ W2.heap.size) := hx2.out.size
          have far : Hid (∀ k, w.heap.size ≤ k → k < W2.heap.size → (w3.setCell ⟨g, 3, none⟩ (.slice (some ⟨g', 0, none⟩) (l.length + 1) c')).heap[k]? = W2.heap[k]?) := fun k hk hk2 =>
            (heap_setCell_other _ _ k _ (by dsimp only; omega)).trans (hH.out.1.1.block k hk2 (fun e => hob.out k hk e))
          have b4 : Boxed (w3.setCell ⟨g, 3, none⟩ (.slice (some ⟨g', 0, none⟩) (l.length + 1) c')) (w.heap.size + 1 + 1) 3 (.int .i64 0) := (far.out _ (by omega) B4W.out.lt).trans B4W.out
          have b5 : Boxed (w3.setCell ⟨g, 3, none⟩ (.slice (some ⟨g', 0, none⟩) (l.length + 1) c')) (w.heap.size + 1 + 1 + 1) 4 (.bool false) := (far.out _ (by omega) B5W.out.lt).trans B5W.out
          have y3 : (w3.setCell ⟨g, 3, none⟩ (.slice (some ⟨g', 0, none⟩) (l.length + 1) c')).cell? ⟨W.heap.size, 0, none⟩ = some (.int .i64 z0) := cell_far y0' (by dsimp only; have := hWz.out; omega)
          have hKO : Hid (KeepsOthers W (w3.setCell ⟨g, 3, none⟩ (.slice (some ⟨g', 0, none⟩) (l.length + 1) c'))) :=
            (((ext_others hxq.out.drew_right).trans (KeepsOthers.of_grownBy hH.out.1.1 (own_isCells hg2.out.own))).trans (KeepsOthers.setCell _ _ _))
          have gsz : Hid (W.heap.size ≠ w.heap.size + 1 + 1 ∧ W.heap.size ≠ w.heap.size + 1 + 1 + 1) := by have := hxW.out.size; unfold Hid; omega
          generalize (Value.slice (some ⟨g', 0, none⟩) (l.length + 1) c') = v' at *
          generalize w3.setCell ⟨g, 3, none⟩ v' = W3 at *
          clear far hH I3 I0 m3 m4 hRp hg2 B4W B5W y0 y0' d2 d2' c32 hxq
          have B4X := b4.cell
          have B4F := b4.frozen
          have B5X := b5.cell
          have B5F := b5.frozen
          have j3 := World.block_lt_of_cell? W3 _ y3
          dsimp only at j3
          replace b4 := hid b4
          replace b5 := hid b5
          gi_wp2
          have hzz := hz02.out
          refine ⟨hKO.out.trans ((KeepsOthers.setCell _ _ _).trans (KeepsOthers.setCell _ _ _)), rfl, x, pre, v', rfl, hpre.out, hfit.out, ?_, ?_, ?_, ?_⟩
          · rw [hput.out]
            exact (hM3.out.other (by omega) (hv'.out _ (by omega) (by omega)) 0 _).other (by omega) (hv'.out _ (by omega) (by omega)) 0 _
          · exact (hMT3.out.out (by omega) 0 _).out (by omega) 0 _
          · rw [hbl.out]
            go_simp
          · go_simp
        · have he : (eth l i).blocks = n := by omega
          have hnew : Hid (newE (eth l i) n s = [⟨(eth l i).block, n, 1, s⟩]) := by unfold Hid newE; rw [if_neg heq]
          have hfit : Hid (n ≤ (eth l x.1).blocks) := by unfold Hid; rw [hxi.out]; omega
          have hbl : Hid ((eth l x.1).block = (eth l i).block) := by rw [hxi.out]; rfl
          have hput : Hid (putAt l x.1 n s = l.take i ++ (⟨(eth l i).block, n, 1, s⟩ :: l.drop (i + 1))) := by unfold Hid putAt; rw [hxi.out, hnew.out]; rfl
          clear hnew
          generalize (eth l i).block = z0 at *
          generalize (eth l i).blocks = z1 at *
          generalize (eth l i).kind = z2 at *
          generalize (eth l i).s = z3 at *
          have he2 := he.symm
          subst he2
          gi_upto_region 9 with fail
          have hxq : Hid (Ext W ((W.alloc (.cells #[.int .i64 z0, .int .i64 n, .int .i64 z2, .string z3] 78)).alloc (.cells #[.int .i64 z0, .int .i64 n, .int .i64 1, .string s] 78))) := ((Ext.refl W).alloc_right _).alloc_right _
          have y0 : ((W.alloc (.cells #[.int .i64 z0, .int .i64 n, .int .i64 z2, .string z3] 78)).alloc (.cells #[.int .i64 z0, .int .i64 n, .int .i64 1, .string s] 78)).cell? ⟨W.heap.size, 0, none⟩ = some (.int .i64 z0) := by go_simp
          have hrow : Hid (((W.alloc (.cells #[.int .i64 z0, .int .i64 n, .int .i64 z2, .string z3] 78)).alloc (.cells #[.int .i64 z0, .int .i64 n, .int .i64 1, .string s] 78)).heap[W.heap.size + 1]? = some (.cells (En.mk z0 n 1 s).cells.toArray 78 (0, 0))) := by
            have := heap_alloc_new (W.alloc (.cells #[.int .i64 z0, .int .i64 n, .int .i64 z2, .string z3] 78)) (.cells #[.int .i64 z0, .int .i64 n, .int .i64 1, .string s] 78)
            rw [World.size_alloc] at this
            exact this
          generalize hW2 : ((W.alloc (.cells #[.int .i64 z0, .int .i64 n, .int .i64 z2, .string z3] 78)).alloc (.cells #[.int .i64 z0, .int .i64 n, .int .i64 1, .string s] 78)) = W2 at *
          clear hW2
          have hx2 : Hid (Ext w0 W2) := hxW.out.trans hxq.out
          have hg2 := hgW.ext hxq.out
          have d2 := hxq.out.cell e2W
          have c32 := hg2.c3
          have B4W : Hid (Boxed W2 (w.heap.size + 1 + 1) 3 (.int .i64 0)) := (hx2.out.block B4.out.lt).trans B4.out
          have B5W : Hid (Boxed W2 (w.heap.size + 1 + 1 + 1) 4 (.bool false)) := (hx2.out.block B5.out.lt).trans B5.out
          have j0 := hid (World.block_lt_of_cell? W2 _ y0)
          have hob : Hid (∀ k, w.heap.size ≤ k → some k ≠ (Value.slice (some ad) l.length c).ownBlock) := fun k hk e => by
            have := (h.own.lt k e.symm).2
            omega
          have hlen' : Hid ((l.take i ++ (En.mk z0 n 1 s :: l.drop (i + 1))).length = l.length) := by
            unfold Hid
            rw [List.length_append, List.length_take, List.length_cons, List.length_drop]
            omega
          have hl0 : Hid (0 < l.length) := by unfold Hid; omega
          have hWz : Hid (w.heap.size ≤ W.heap.size) := by have := hw0z.out; have := hxW.out.size; unfold Hid; omega
          have hri : IntKind.i64.wrap ((i : Int) + 1) = ((i + 1 : Nat) : Int) := by have := hll.out; rw [IntWalk.i64_in _ (by omega)]; omega
          have hRp : Hid (∀ w', Ext W2 w' → Calls Try.prog 67 #[.slice (some ad) l.length c, .int .i64 i, .int .i64 ((i : Int) + 1), .slice (some ⟨W.heap.size + 1, 0, none⟩) 1 1] w' fun e w3 => ∃ (g' c' : Nat), e = .returned (.slice (some ⟨g', 0, none⟩) l.length c') ∧ w3.cell? ⟨g, 3, none⟩ = some (.slice (some ad) l.length c) ∧ w3.frozen? ⟨g, 3, none⟩ = false ∧ w3.cell? ⟨w.heap.size, 0, none⟩ = some (.pointer (some ⟨g, 0, none⟩)) ∧ w3.cell? ⟨W.heap.size, 0, none⟩ = some (.int .i64 z0) ∧ Hid (Rw (.slice (some ad) l.length c) (.slice (some ⟨g', 0, none⟩) l.length c') w' w3 ∧ MA lk (w3.setCell ⟨g, 3, none⟩ (.slice (some ⟨g', 0, none⟩) l.length c')) g size (.slice (some ⟨g', 0, none⟩) l.length c') (l.take i ++ (⟨z0, n, 1, s⟩ :: l.drop (i + 1))))) := by
            intro w' hx
            rw [show (i : Int) + 1 = ((i + 1 : Nat) : Int) by omega]
            refine (repl1_any l i ⟨z0, n, 1, s⟩ _ (W.heap.size + 1) w' hi1.out (by have := hll.out; omega) (hg2.ext hx).own ((hx.block (Array.getElem?_eq_some_iff.1 hrow.out).1).trans hrow.out)).mono ?_
            rintro e w3 ⟨v', rfl, ho3, hrw⟩
            obtain ⟨g', c', rfl⟩ := own_slice ho3 hl0.out
            obtain ⟨m1, m2, m3, m4⟩ := MA.put (l' := l.take i ++ (⟨z0, n, 1, s⟩ :: l.drop (i + 1))) (hg2.ext hx) hrw (by rw [hlen'.out]; exact ho3)
            exact ⟨g', c', rfl, m3, m4, hrw.1.cell (hx.cell d2) (hob.out _ (Nat.le_refl _)), hrw.1.cell (hx.cell y0) (hob.out _ hWz.out), hrw, m1⟩
          clear e2W e3W e6W c3 x0 x1 x2 x3 hgW hrow k2 k3 k6 kg
          replace hg2 := hid hg2
          have I0 : (fun w' : World => w'.cell? ⟨w.heap.size, 0, none⟩ = some (.pointer (some ⟨g, 0, none⟩)) ∧ w'.cell? ⟨g, 3, none⟩ = some (.slice (some ad) l.length c)) W2.drew := ⟨d2, c32⟩
          refine round_J (fun w' => w'.cell? ⟨w.heap.size, 0, none⟩ = some (.pointer (some ⟨g, 0, none⟩)) ∧ w'.cell? ⟨g, 3, none⟩ = some (.slice (some ad) l.length c)) 12 (by kernel_rfl) (by kernel_rfl) ?_
          refine J_take 0 (v := ?vb0) rfl (by kernel_rfl) (by kernel_rfl) (by kernel_rfl) (by kernel_rfl) (fun _ _ _ h => h) (Or.inl ⟨by rfl, ?yb0⟩) I0 ?rb0
          case yb0 => (intro w hSw; obtain ⟨_, _⟩ := hSw; (go_simp; with_reducible rfl))
          simp only [Act.put, List.setIfInBounds_toArray, List.set_cons_zero, List.set_cons_succ]
          refine J_take 1 (v := ?vb1) rfl (by kernel_rfl) (by kernel_rfl) (by kernel_rfl) (by kernel_rfl) (fun _ _ _ h => h) (Or.inl ⟨by rfl, ?yb1⟩) I0 ?rb1
          case yb1 => (intro w hSw; obtain ⟨_, _⟩ := hSw; (go_simp; with_reducible rfl))
          simp only [Act.put, List.setIfInBounds_toArray, List.set_cons_zero, List.set_cons_succ]
          refine J_take 2 (v := ?vb2) rfl (by kernel_rfl) (by kernel_rfl) (by kernel_rfl) (by kernel_rfl) (fun _ _ _ h => h) (Or.inl ⟨by rfl, ?yb2⟩) I0 ?rb2
          case yb2 => (intro w hSw; obtain ⟨_, _⟩ := hSw; (go_simp; with_reducible rfl))
          simp only [Act.put, List.setIfInBounds_toArray, List.set_cons_zero, List.set_cons_succ]
          refine J_take 3 (v := ?vb3) rfl (by kernel_rfl) (by kernel_rfl) (by kernel_rfl) (by kernel_rfl) (fun _ _ _ h => h) (Or.inl ⟨by rfl, ?yb3⟩) I0 ?rb3
          case yb3 => (intro w hSw; obtain ⟨_, _⟩ := hSw; (go_simp; with_reducible rfl))
          simp only [Act.put, List.setIfInBounds_toArray, List.set_cons_zero, List.set_cons_succ]
          refine J_take 4 (v := ?vb4) rfl (by kernel_rfl) (by kernel_rfl) (by kernel_rfl) (by kernel_rfl) (fun _ _ _ h => h) (Or.inl ⟨by rfl, ?yb4⟩) I0 ?rb4
          case yb4 => (intro w hSw; obtain ⟨_, _⟩ := hSw; (go_simp; with_reducible rfl))
          simp only [Act.put, List.setIfInBounds_toArray, List.set_cons_zero, List.set_cons_succ]
          refine J_take 5 (v := ?vb5) rfl (by kernel_rfl) (by kernel_rfl) (by kernel_rfl) (by kernel_rfl) (fun _ _ _ h => h) (Or.inl ⟨by rfl, ?yb5⟩) I0 ?rb5
          case yb5 => (intro w hSw; obtain ⟨_, _⟩ := hSw; (go_simp; with_reducible rfl))
          simp only [Act.put, List.setIfInBounds_toArray, List.set_cons_zero, List.set_cons_succ]
          refine J_take 6 (v := ?vb6) rfl (by kernel_rfl) (by kernel_rfl) (by kernel_rfl) (by kernel_rfl) (fun _ _ _ h => h) (Or.inl ⟨by rfl, ?yb6⟩) I0 ?rb6
          case yb6 => (intro w hSw; obtain ⟨_, _⟩ := hSw; (go_simp; with_reducible rfl))
          simp only [Act.put, List.setIfInBounds_toArray, List.set_cons_zero, List.set_cons_succ]
          refine J_take 7 (v := ?vb7) rfl (by kernel_rfl) (by kernel_rfl) (by kernel_rfl) (by kernel_rfl) (fun _ _ _ h => h) (Or.inl ⟨by rfl, ?yb7⟩) I0 ?rb7
          case yb7 => (intro w hSw; obtain ⟨_, _⟩ := hSw; (go_simp; with_reducible rfl))
          simp only [Act.put, List.setIfInBounds_toArray, List.set_cons_zero, List.set_cons_succ]
          refine J_take 8 (v := ?vb8) rfl (by kernel_rfl) (by kernel_rfl) (by kernel_rfl) (by kernel_rfl) (fun _ _ _ h => h) (Or.inl ⟨by rfl, ?yb8⟩) I0 ?rb8
          case yb8 => (intro w hSw; obtain ⟨_, _⟩ := hSw; (go_simp; with_reducible rfl))
          simp only [Act.put, List.setIfInBounds_toArray, List.set_cons_zero, List.set_cons_succ]
          refine J_one 9 rfl (by kernel_rfl) (fun K hK => ?_)
          go_simp
          refine (hRp.out _ ((Ext.refl W2).drew_right)).mono ?_
          rintro e w3 ⟨g', c', rfl, m3, m4, d2', y0', hH⟩
          have I3 : (fun w' : World => w'.cell? ⟨w.heap.size, 0, none⟩ = some (.pointer (some ⟨g, 0, none⟩)) ∧ w'.cell? ⟨g, 3, none⟩ = some (.slice (some ad) l.length c)) w3 := ⟨d2', m3⟩
          refine hK _ _ ⟨fun _ => I3, ?_⟩
          clear hK K
          try simp only [Act.put, List.setIfInBounds_toArray, List.set_cons_zero, List.set_cons_succ]
          refine J_one 10 rfl (by kernel_rfl) (fun K hK => ?_)
          go_simp
          refine hK _ _ ⟨fun _ => I3, ?_⟩
          clear hK K
          try simp only [Act.put, List.setIfInBounds_toArray, List.set_cons_zero, List.set_cons_succ]
          refine J_one 11 rfl (by kernel_rfl) (fun K hK => ?_)
          go_simp
          refine hK _ _ ⟨fun _ => I3, ?_⟩
          clear hK K
          try simp only [Act.put, List.setIfInBounds_toArray, List.set_cons_zero, List.set_cons_succ]
          refine J_one 12 rfl (by kernel_rfl) (fun K hK => ?_)
          go_simp
          refine hK _ _ ⟨fun h => absurd rfl h, ?_⟩
          clear hK K
          refine J_done (by kernel_rfl) (OnlyOn.normal ?_)
          have hv' : Hid (∀ k, w.heap.size ≤ k → k < W2.heap.size → (Value.slice (some ⟨g', 0, none⟩) l.length c').ownBlock ≠ some k) := by
            intro k hk hk2 e
            rcases hH.out.1.2 with e2 | e2
            · exact hob.out k hk (e2 ▸ e).symm
            · have := e2 k e
              have : W2.drew.heap.size = W2.heap.size := rfl
              omega
          have hMT3 : Hid (MT g (.slice (some ad) l.length c) (.slice (some ⟨g', 0, none⟩) l.length c') w (w3.setCell ⟨g, 3, none⟩ (.slice (some ⟨g', 0, none⟩) l.length c'))) :=
            ((((MT.refl g _ w).right (hxw0.out.trans hx2.out.drew_right)).rw hH.out.1).set 3 _)
          have hM3 := hid hH.out.2
          have hbz := hw0z.out
          have hz02 : Hid (w0.heap.size ≤ W2.heap.size) := hx2.out.size
          have far : Hid (∀ k, w.heap.size ≤ k → k < W2.heap.size → (w3.setCell ⟨g, 3, none⟩ (.slice (some ⟨g', 0, none⟩) l.length c')).heap[k]? = W2.heap[k]?) := fun k hk hk2 =>
            (heap_setCell_other _ _ k _ (by dsimp only; omega)).trans (hH.out.1.1.block k hk2 (fun e => hob.out k hk e))
          have b4 : Boxed (w3.setCell ⟨g, 3, none⟩ (.slice (some ⟨g', 0, none⟩) l.length c')) (w.heap.size + 1 + 1) 3 (.int .i64 0) := (far.out _ (by omega) B4W.out.lt).trans B4W.out
          have b5 : Boxed (w3.setCell ⟨g, 3, none⟩ (.slice (some ⟨g', 0, none⟩) l.length c')) (w.heap.size + 1 + 1 + 1) 4 (.bool false) := (far.out _ (by omega) B5W.out.lt).trans B5W.out
          have y3 : (w3.setCell ⟨g, 3, none⟩ (.slice (some ⟨g', 0, none⟩) l.length c')).cell? ⟨W.heap.size, 0, none⟩ = some (.int .i64 z0) := cell_far y0' (by dsimp only; have := hWz.out; omega)
          have hKO : Hid (KeepsOthers W (w3.setCell ⟨g, 3, none⟩ (.slice (some ⟨g', 0, none⟩) l.length c'))) :=
            (((ext_others hxq.out.drew_right).trans (KeepsOthers.of_grownBy hH.out.1.1 (own_isCells hg2.out.own))).trans (KeepsOthers.setCell _ _ _))
          have gsz : Hid (W.heap.size ≠ w.heap.size + 1 + 1 ∧ W.heap.size ≠ w.heap.size + 1 + 1 + 1) := by have := hxW.out.size; unfold Hid; omega
          generalize (Value.slice (some ⟨g', 0, none⟩) l.length c') = v' at *
          generalize w3.setCell ⟨g, 3, none⟩ v' = W3 at *
          clear far hH I3 I0 m3 m4 hRp hg2 B4W B5W y0 y0' d2 d2' c32 hxq
          have B4X := b4.cell
          have B4F := b4.frozen
          have B5X := b5.cell
          have B5F := b5.frozen
          have j3 := World.block_lt_of_cell? W3 _ y3
          dsimp only at j3
          replace b4 := hid b4
          replace b5 := hid b5
          gi_wp2
          have hzz := hz02.out
          refine ⟨hKO.out.trans ((KeepsOthers.setCell _ _ _).trans (KeepsOthers.setCell _ _ _)), rfl, x, pre, v', rfl, hpre.out, hfit.out, ?_, ?_, ?_, ?_⟩
          · rw [hput.out]
            exact (hM3.out.other (by omega) (hv'.out _ (by omega) (by omega)) 0 _).other (by omega) (hv'.out _ (by omega) (by omega)) 0 _
          · exact (hMT3.out.out (by omega) 0 _).out (by omega) 0 _
          · rw [hbl.out]
            go_simp
          · go_simp
    case done =>
      rintro D xs W hD hS ⟨hxW, hpre⟩ hK
      have hgW := hg0.ext hxW.out
      have e2W := hxW.out.cell e2
      have e6W := hxW.out.cell e6
      have hnf := hid (putN_none (l := l) (n := n) (fits_none hS hpre.out))
      have hE := hid (fun w (h : MA lk w g size v l) => end_any lk size g v l w h)
      clear hpre hS
      generalize hee : endI l = E at *
      replace hee := hid hee
      have hKc : Hid (D < W.heap.size) := (Array.getElem?_eq_some_iff.1 hK).1
      have hvb : ∀ k, w.heap.size ≤ k → v.ownBlock ≠ some k := fun k hk e => by
        have := (h.own.lt k e).2
        omega
      have hvb1 := hid (hvb (w.heap.size + 1 + 1) (by omega))
      have hvb2 := hid (hvb (w.heap.size + 1 + 1 + 1) (by omega))
      replace hvb := hid hvb
      replace hK := hid hK
      have hwr : IntKind.i64.wrap (E + n) = E + n := IntWalk.i64_in _ (by omega)
      by_cases hfull : E + n ≤ 4096
      · go_upto_region 12 with (go_at_call 42; refine (hE.out _ hgW).mono ?_; rintro e W2 ⟨rfl, hx2⟩; have e6X := hx2.cell e6W)
        have hg2 := hgW.ext hx2
        have e2X := hx2.cell e2W
        have e3X := hx2.cell (hxW.out.cell e3)
        have hB4 := hid (B4.out.ext (hxW.out.trans hx2))
        have hB5 := hid (B5.out.ext (hxW.out.trans hx2))
        go_upto_region 14 with fail
        obtain ⟨i0, hi0, hz0, hz1, hz2⟩ := info_parts infoEn
        have c3 := hg2.c3
        have hown := hid (fun (cs : Array Value) => ((Ext.refl W2).drew_right.alloc_right (.cells cs 78)).own hg2.own)
        have hll2 := hll.out
        have hnews : Hid (∀ j u, (En.mk E n 1 s).cells[j]? = some u → (W2.drew.alloc (.cells #[.int .i64 E, .int .i64 n, .int .i64 1, .string s] 78)).cell? ((⟨W2.heap.size, 0, none⟩ : Addr).add j) = some u) := World.news_of_block (heap_alloc_new W2.drew _)
        have k2 := World.block_lt_of_cell? W2 _ e2X
        have k3 := World.block_lt_of_cell? W2 _ e3X
        have k6 := World.block_lt_of_cell? W2 _ e6X
        have kg := World.block_lt_of_cell? W2 _ c3
        dsimp only at k2 k3 k6 kg
        have hpost : Hid (∀ (ga ca : Nat) (w3 : World), w3.ownsRow 0 78 4 (.slice (some ⟨ga, 0, none⟩) (l.length + 1) ca) (l.length + 1) (ents l ++ (En.mk E n 1 s).cells) → (W2.drew.alloc (.cells #[.int .i64 E, .int .i64 n, .int .i64 1, .string s] 78)).grownBy w3 v.ownBlock → (v.ownBlock = some ga ∨ ga = W2.heap.size + 1) → (w3.cell? ⟨w.heap.size, 0, none⟩ = some (.pointer (some ⟨g, 0, none⟩)) ∧ w3.cell? ⟨w.heap.size + 1, 0, none⟩ = some (.string s) ∧ w3.cell? ⟨p, 0, none⟩ = some (.int .i64 n) ∧ w3.cell? ⟨g, 3, none⟩ = some v) ∧ w3.frozen? ⟨g, 3, none⟩ = false ∧ Hid (MA lk (w3.setCell ⟨g, 3, none⟩ (.slice (some ⟨ga, 0, none⟩) (l.length + 1) ca)) g size (.slice (some ⟨ga, 0, none⟩) (l.length + 1) ca) (l ++ [⟨E, n, 1, s⟩]) ∧ Rw v (.slice (some ⟨ga, 0, none⟩) (l.length + 1) ca) W2 w3)) := by
          intro ga ca w3 ho hgr hga
          have hxe : Ext W2 (W2.drew.alloc (.cells #[.int .i64 E, .int .i64 n, .int .i64 1, .string s] 78)) := (Ext.refl W2).drew_right.alloc_right _
          have hrw : Rw v (.slice (some ⟨ga, 0, none⟩) (l.length + 1) ca) W2 w3 := ⟨(Ext.grown hxe _).trans hgr, by
            rcases hga with e | e
            · exact .inl (by rw [e]; rfl)
            · refine .inr (fun k hk => ?_)
              have hk2 : ga = k := by simpa [Value.ownBlock] using hk
              omega⟩
          have hl1 : (l ++ [En.mk E n 1 s]).length = l.length + 1 := by simp
          obtain ⟨m1, m2, m3, m4⟩ := MA.put (l' := l ++ [⟨E, n, 1, s⟩]) hg2 hrw (by rw [hl1, ents_append]; simpa [ents] using ho)
          exact ⟨⟨hrw.1.cell e2X (fun e => hvb.out _ (Nat.le_refl _) e.symm), hrw.1.cell e3X (fun e => hvb.out _ (Nat.le_succ _) e.symm), hrw.1.cell e6X (fun e => hvb.out p (by have := hpz.out; omega) e.symm), m3⟩, m4, m1, hrw⟩
        have I0 : (fun w' : World => w'.cell? ⟨w.heap.size, 0, none⟩ = some (.pointer (some ⟨g, 0, none⟩)) ∧ w'.cell? ⟨w.heap.size + 1, 0, none⟩ = some (.string s) ∧ w'.cell? ⟨p, 0, none⟩ = some (.int .i64 n) ∧ w'.cell? ⟨g, 3, none⟩ = some v) W2.drew := ⟨e2X, e3X, e6X, c3⟩
        have I1 : (fun w' : World => w'.cell? ⟨w.heap.size, 0, none⟩ = some (.pointer (some ⟨g, 0, none⟩)) ∧ w'.cell? ⟨w.heap.size + 1, 0, none⟩ = some (.string s) ∧ w'.cell? ⟨p, 0, none⟩ = some (.int .i64 n) ∧ w'.cell? ⟨g, 3, none⟩ = some v) (W2.drew.alloc (.cells #[.int .i64 E, .int .i64 n, .int .i64 1, .string s] 78)) := by
          have hxe : Ext W2 (W2.drew.alloc (.cells #[.int .i64 E, .int .i64 n, .int .i64 1, .string s] 78)) := (Ext.refl W2).drew_right.alloc_right _
          exact ⟨hxe.cell e2X, hxe.cell e3X, hxe.cell e6X, hxe.cell c3⟩
        refine region_J (fun w' => w'.cell? ⟨w.heap.size, 0, none⟩ = some (.pointer (some ⟨g, 0, none⟩)) ∧ w'.cell? ⟨w.heap.size + 1, 0, none⟩ = some (.string s) ∧ w'.cell? ⟨p, 0, none⟩ = some (.int .i64 n) ∧ w'.cell? ⟨g, 3, none⟩ = some v) 13 (by kernel_rfl) ?_
        refine J_take 0 (v := ?va0) rfl (by kernel_rfl) (by kernel_rfl) (by kernel_rfl) (by kernel_rfl) (fun _ _ _ h => h) (Or.inl ⟨by rfl, ?ya0⟩) I0 ?ra0
        case ya0 => (intro w hSw; obtain ⟨_, _, _, _⟩ := hSw; (go_simp; with_reducible rfl))
        simp only [Act.put, List.setIfInBounds_toArray, List.set_cons_zero, List.set_cons_succ]
        refine J_take 1 (v := ?va1) rfl (by kernel_rfl) (by kernel_rfl) (by kernel_rfl) (by kernel_rfl) (fun _ _ _ h => h) (Or.inl ⟨by rfl, ?ya1⟩) I0 ?ra1
        case ya1 => (intro w hSw; obtain ⟨_, _, _, _⟩ := hSw; (go_simp; with_reducible rfl))
        simp only [Act.put, List.setIfInBounds_toArray, List.set_cons_zero, List.set_cons_succ]
        refine J_take 2 (v := ?va2) rfl (by kernel_rfl) (by kernel_rfl) (by kernel_rfl) (by kernel_rfl) (fun _ _ _ h => h) (Or.inl ⟨by rfl, ?ya2⟩) I0 ?ra2
        case ya2 => (intro w hSw; obtain ⟨_, _, _, _⟩ := hSw; (go_simp; with_reducible rfl))
        simp only [Act.put, List.setIfInBounds_toArray, List.set_cons_zero, List.set_cons_succ]
        refine J_take 3 (v := ?va3) rfl (by kernel_rfl) (by kernel_rfl) (by kernel_rfl) (by kernel_rfl) (fun _ _ _ h => h) (Or.inl ⟨by rfl, ?ya3⟩) I0 ?ra3
        case ya3 => (intro w hSw; obtain ⟨_, _, _, _⟩ := hSw; (go_simp; with_reducible rfl))
        simp only [Act.put, List.setIfInBounds_toArray, List.set_cons_zero, List.set_cons_succ]
        refine J_take 4 (v := ?va4) rfl (by kernel_rfl) (by kernel_rfl) (by kernel_rfl) (by kernel_rfl) (fun _ _ _ h => h) (Or.inl ⟨by rfl, ?ya4⟩) I0 ?ra4
        case ya4 => (intro w hSw; obtain ⟨_, _, _, _⟩ := hSw; (go_simp; with_reducible rfl))
        simp only [Act.put, List.setIfInBounds_toArray, List.set_cons_zero, List.set_cons_succ]
        refine J_take 5 (v := ?va5) rfl (by kernel_rfl) (by kernel_rfl) (by kernel_rfl) (by kernel_rfl) (fun _ _ _ h => h) (Or.inl ⟨by rfl, ?ya5⟩) I0 ?ra5
        case ya5 => (intro w hSw; obtain ⟨_, _, _, _⟩ := hSw; (go_simp; with_reducible rfl))
        simp only [Act.put, List.setIfInBounds_toArray, List.set_cons_zero, List.set_cons_succ]
        refine J_take 6 (v := ?va6) rfl (by kernel_rfl) (by kernel_rfl) (by kernel_rfl) (by kernel_rfl) (fun _ _ _ h => h) (Or.inl ⟨by rfl, ?ya6⟩) I0 ?ra6
        case ya6 => (intro w hSw; obtain ⟨_, _, _, _⟩ := hSw; (go_simp; with_reducible rfl))
        simp only [Act.put, List.setIfInBounds_toArray, List.set_cons_zero, List.set_cons_succ]
        refine J_take 7 (v := ?va7) rfl (by kernel_rfl) (by kernel_rfl) (by kernel_rfl) (by kernel_rfl) (fun _ _ _ h => h) (Or.inl ⟨by rfl, ?ya7⟩) I0 ?ra7
        case ya7 => (intro w hSw; obtain ⟨_, _, _, _⟩ := hSw; (go_simp; with_reducible rfl))
        simp only [Act.put, List.setIfInBounds_toArray, List.set_cons_zero, List.set_cons_succ]
        refine J_take 8 (v := ?va8) rfl (by kernel_rfl) (by kernel_rfl) (by kernel_rfl) (by kernel_rfl) (fun _ _ _ h => h) (Or.inl ⟨by rfl, ?ya8⟩) I0 ?ra8
        case ya8 => (intro w hSw; obtain ⟨_, _, _, _⟩ := hSw; (go_simp; with_reducible rfl))
        simp only [Act.put, List.setIfInBounds_toArray, List.set_cons_zero, List.set_cons_succ]
        refine J_one 9 rfl (by kernel_rfl) (fun K hK => ?_)
        go_simp
        refine hK _ _ ⟨fun _ => I1, ?_⟩
        clear hK K
        try simp only [Act.put, List.setIfInBounds_toArray, List.set_cons_zero, List.set_cons_succ]
        refine J_one 10 rfl (by kernel_rfl) (fun K hK => ?_)
        refine step_append_lies _ rfl _ _ 74 rfl 0 78 i0 _ 4 40 Try.underlying74 hi0 hz0 hz1 hz2 rfl (by decide) v l.length (ents l) (by simp [Act.eval, Act.put]) (hown.out _) ⟨W2.heap.size, 0, none⟩ 1 1 (En.mk E n 1 s).cells (by simp [Act.eval, Act.put]) rfl hnews.out (by simp [En.cells, Value.oneCell']) (by decide) (by unfold maxLen; omega) (by omega) (Nat.zero_le _) (W2.heap.size + 1) (by simp) ?_
        intro ga ca w3 ho3 hgr3 hga3 _
        obtain ⟨I3, m4, hM⟩ := hpost.out ga ca w3 ho3 hgr3 hga3
        clear ho3 hgr3 hpost I0 I1 hnews
        have m3 := I3.2.2.2
        refine hK _ _ ⟨fun _ => I3, ?_⟩
        clear hK K
        simp only [Act.put, List.setIfInBounds_toArray, List.set_cons_zero, List.set_cons_succ]
        refine J_one 11 rfl (by kernel_rfl) (fun K hK => ?_)
        go_simp
        refine hK _ _ ⟨fun _ => I3, ?_⟩
        clear hK K
        try simp only [Act.put, List.setIfInBounds_toArray, List.set_cons_zero, List.set_cons_succ]
        refine J_one 12 rfl (by kernel_rfl) (fun K hK => ?_)
        go_simp
        refine hK _ _ ⟨fun _ => I3, ?_⟩
        clear hK K
        try simp only [Act.put, List.setIfInBounds_toArray, List.set_cons_zero, List.set_cons_succ]
        refine J_one 13 rfl (by kernel_rfl) (fun K hK => ?_)
        go_simp
        refine hK _ _ ⟨fun h => absurd rfl h, ?_⟩
        clear hK K
        refine J_done (by kernel_rfl) (OnlyOn.normal ?_)
        have hvG : Hid ((Value.slice (some ⟨ga, 0, none⟩) (l.length + 1) ca).ownBlock ≠ some g) := by obtain ⟨q, _, _, h3⟩ := hM.out.1; exact h3
        have hMT3 : Hid (MT g v (.slice (some ⟨ga, 0, none⟩) (l.length + 1) ca) w (w3.setCell ⟨g, 3, none⟩ (.slice (some ⟨ga, 0, none⟩) (l.length + 1) ca))) :=
          ((((MT.refl g v w).right (hxw0.out.trans (hxW.out.trans hx2))).rw hM.out.2).set 3 _)
        have hbz := hw0z.out
        have hz02 : Hid (w0.heap.size ≤ W2.heap.size) := (hxW.out.trans hx2).size
        have far : Hid (∀ k, w.heap.size ≤ k → k < W2.heap.size → (w3.setCell ⟨g, 3, none⟩ (.slice (some ⟨ga, 0, none⟩) (l.length + 1) ca)).heap[k]? = W2.heap[k]?) := fun k hk hk2 =>
          (heap_setCell_other _ _ k _ (by dsimp only; omega)).trans (hM.out.2.1.block k hk2 (fun e => hvb.out k hk e.symm))
        have b4 : Boxed (w3.setCell ⟨g, 3, none⟩ (.slice (some ⟨ga, 0, none⟩) (l.length + 1) ca)) (w.heap.size + 1 + 1) 3 (.int .i64 0) := (far.out _ (by omega) hB4.out.lt).trans hB4.out
        have b5 : Boxed (w3.setCell ⟨g, 3, none⟩ (.slice (some ⟨ga, 0, none⟩) (l.length + 1) ca)) (w.heap.size + 1 + 1 + 1) 4 (.bool false) := (far.out _ (by omega) hB5.out.lt).trans hB5.out
        have hD3 : Hid ((w3.setCell ⟨g, 3, none⟩ (.slice (some ⟨ga, 0, none⟩) (l.length + 1) ca)).heap[D]? = some (.deferred (some []))) :=
          (far.out D (by omega) (by have := hKc.out; have := hx2.size; omega)).trans ((hx2.block hKc.out).trans hK.out)
        have hM3 := hid hM.out.1
        have hvb3 : Hid (∀ k, w.heap.size ≤ k → k < w0.heap.size → (Value.slice (some ⟨ga, 0, none⟩) (l.length + 1) ca).ownBlock ≠ some k) := by
          intro k hk hk2 e
          rcases hM.out.2.2 with e2 | e2
          · exact hvb.out k hk (e2 ▸ e)
          · have := e2 k e
            have := hz02.out
            omega
        generalize (Value.slice (some ⟨ga, 0, none⟩) (l.length + 1) ca) = v' at *
        generalize w3.setCell ⟨g, 3, none⟩ v' = W3 at *
        clear far hM I3 m3 m4 hown hB4 hB5
        have B4X := b4.cell
        have B4F := b4.frozen
        have B5X := b5.cell
        have B5F := b5.frozen
        replace b4 := hid b4
        replace b5 := hid b5
        go_wp2_with fail
        have hD1 : D ≠ w.heap.size + 1 + 1 := by omega
        have hD2 : D ≠ w.heap.size + 1 + 1 + 1 := by omega
        have hK2 : ((W3.setCell ⟨w.heap.size + 1 + 1, 0, none⟩ (.int .i64 E)).setCell ⟨w.heap.size + 1 + 1 + 1, 0, none⟩ (.bool true)).heap[D]? = some (.deferred (some [])) :=
          (heap_setCell_other _ _ D _ hD2).trans ((heap_setCell_other _ _ D _ hD1).trans hD3.out)
        have hMA : MA lk ((W3.setCell ⟨w.heap.size + 1 + 1, 0, none⟩ (.int .i64 E)).setCell ⟨w.heap.size + 1 + 1 + 1, 0, none⟩ (.bool true)) g size v' (l ++ [⟨E, n, 1, s⟩]) :=
          (hM3.out.other (by omega) (hvb3.out _ (by omega) (by omega)) 0 _).other (by omega) (hvb3.out _ (by omega) (by omega)) 0 _
        have hMT : MT g v v' w ((W3.setCell ⟨w.heap.size + 1 + 1, 0, none⟩ (.int .i64 E)).setCell ⟨w.heap.size + 1 + 1 + 1, 0, none⟩ (.bool true)) :=
          (hMT3.out.out (by omega) 0 _).out (by omega) 0 _
        refine ⟨by simp, .inl ⟨_, _, rfl, run_takeDeferred hK2, ?_⟩⟩
        have hg5 := grownBy_putObj' ((W3.setCell ⟨w.heap.size + 1 + 1, 0, none⟩ (.int .i64 E)).setCell ⟨w.heap.size + 1 + 1 + 1, 0, none⟩ (.bool true)) D (.deferred none)
        have hr5 : NoCells ((W3.setCell ⟨w.heap.size + 1 + 1, 0, none⟩ (.int .i64 E)).setCell ⟨w.heap.size + 1 + 1 + 1, 0, none⟩ (.bool true)) (some D) := fun r e => by cases e; exact ⟨_, hK2, rfl⟩
        have v4 : ((W3.setCell ⟨w.heap.size + 1 + 1, 0, none⟩ (.int .i64 E)).setCell ⟨w.heap.size + 1 + 1 + 1, 0, none⟩ (.bool true)).cell? ⟨w.heap.size + 1 + 1, 0, none⟩ = some (.int .i64 E) := by go_simp
        have v5 : ((W3.setCell ⟨w.heap.size + 1 + 1, 0, none⟩ (.int .i64 E)).setCell ⟨w.heap.size + 1 + 1 + 1, 0, none⟩ (.bool true)).cell? ⟨w.heap.size + 1 + 1 + 1, 0, none⟩ = some (.bool true) := by go_simp
        refine ⟨_, results_cells2 rfl _ _ ⟨w.heap.size + 1 + 1, 0, none⟩ ⟨w.heap.size + 1 + 1 + 1, 0, none⟩ rfl rfl (load_int (cell_row hg5 hr5 v4)) (load_bool (cell_row hg5 hr5 v5)), ?_, v', ?_, ?_⟩
        · unfold putB putO
          rw [if_neg hnf.out, if_neg hnf.out, hee.out, if_pos hfull, decide_eq_true hfull]
        · unfold putL
          rw [if_neg hnf.out, hee.out, if_pos hfull]
          exact hMA.keep hg5 hr5
        · exact hMT.keep hg5 (fun r e => by cases e; omega)
      · go_wp2_with (go_at_call 42; refine (hE.out _ hgW).mono ?_; rintro e W2 ⟨rfl, hx2⟩; have e6X := hx2.cell e6W; have hB4 := B4.out.ext (hxW.out.trans hx2); have hB5 := B5.out.ext (hxW.out.trans hx2); have B4X := hB4.cell; have B4F := hB4.frozen; have B5X := hB5.cell; have B5F := hB5.frozen; replace hB4 := hid hB4; replace hB5 := hid hB5)
        have hbz := hw0z.out
        have hD1 : D ≠ w.heap.size + 1 + 1 := by omega
        have hD2 : D ≠ w.heap.size + 1 + 1 + 1 := by omega
        have hK2 : ((W2.setCell ⟨w.heap.size + 1 + 1, 0, none⟩ (.int .i64 0)).setCell ⟨w.heap.size + 1 + 1 + 1, 0, none⟩ (.bool false)).heap[D]? = some (.deferred (some [])) :=
          (heap_setCell_other _ _ D _ hD2).trans ((heap_setCell_other _ _ D _ hD1).trans ((hx2.block hKc.out).trans hK.out))
        have hMA : MA lk ((W2.setCell ⟨w.heap.size + 1 + 1, 0, none⟩ (.int .i64 0)).setCell ⟨w.heap.size + 1 + 1 + 1, 0, none⟩ (.bool false)) g size v l :=
          ((hgW.ext hx2).other (by omega) hvb1.out 0 _).other (by omega) hvb2.out 0 _
        have hMT : MT g v v w ((W2.setCell ⟨w.heap.size + 1 + 1, 0, none⟩ (.int .i64 0)).setCell ⟨w.heap.size + 1 + 1 + 1, 0, none⟩ (.bool false)) :=
          (((MT.refl g v w).right (hxw0.out.trans (hxW.out.trans hx2))).out (by omega) 0 _).out (by omega) 0 _
        refine ⟨by simp, .inl ⟨_, _, rfl, run_takeDeferred hK2, ?_⟩⟩
        have hg5 := grownBy_putObj' ((W2.setCell ⟨w.heap.size + 1 + 1, 0, none⟩ (.int .i64 0)).setCell ⟨w.heap.size + 1 + 1 + 1, 0, none⟩ (.bool false)) D (.deferred none)
        have hr5 : NoCells ((W2.setCell ⟨w.heap.size + 1 + 1, 0, none⟩ (.int .i64 0)).setCell ⟨w.heap.size + 1 + 1 + 1, 0, none⟩ (.bool false)) (some D) := fun r e => by cases e; exact ⟨_, hK2, rfl⟩
        have v4 : ((W2.setCell ⟨w.heap.size + 1 + 1, 0, none⟩ (.int .i64 0)).setCell ⟨w.heap.size + 1 + 1 + 1, 0, none⟩ (.bool false)).cell? ⟨w.heap.size + 1 + 1, 0, none⟩ = some (.int .i64 0) := by go_simp
        have v5 : ((W2.setCell ⟨w.heap.size + 1 + 1, 0, none⟩ (.int .i64 0)).setCell ⟨w.heap.size + 1 + 1 + 1, 0, none⟩ (.bool false)).cell? ⟨w.heap.size + 1 + 1 + 1, 0, none⟩ = some (.bool false) := by go_simp
        refine ⟨_, results_cells2 rfl _ _ ⟨w.heap.size + 1 + 1, 0, none⟩ ⟨w.heap.size + 1 + 1 + 1, 0, none⟩ rfl rfl (load_int (cell_row hg5 hr5 v4)) (load_bool (cell_row hg5 hr5 v5)), ?_, v, ?_, ?_⟩
        · have hfl : ¬ E + n ≤ 4096 := by omega
          unfold putB putO
          rw [if_neg hnf.out, if_neg hnf.out, hee.out, if_neg hfl, decide_eq_false hfl]
        · have hfl : ¬ E + n ≤ 4096 := by omega
          unfold putL
          rw [if_neg hnf.out, hee.out, if_neg hfl]
          exact hMA.keep hg5 hr5
        · exact hMT.keep hg5 (fun r e => by cases e; omega)
    case stop =>
      rintro D c pre W hD hS ⟨rfl, i, init, v', h1, h2, h3, h4, h5, h6, h7⟩ hK
      have hbz := hw0z.out
      have hpn : putN l n = i.1 := by
        refine putN_is i.2.1 (fun j hj => ?_) ?_
        · unfold fitE
          by_cases hk : (eth l j).kind = 0
          · have hm : j ∈ plv init := by
              have hp : plv pre <+: frs l l.length := hS
              have hmf : j ∈ frs l i.1 := mem_frs hj hk
              rw [h1] at hp
              have hpp : plv (init ++ [i]) = plv init ++ [i.1] := by simp [plv]
              rw [hpp] at hp
              exact frs_init hp i.2.1 hmf
            unfold plv at hm
            obtain ⟨y, hy, rfl⟩ := List.mem_map.1 hm
            have := h2 y hy
            rw [Bool.and_eq_false_iff]
            right
            simpa using this
          · rw [show ((eth l j).kind == 0) = false by rw [beq_eq_false_iff_ne]; exact hk]
            rfl
        · unfold fitE
          rw [show ((eth l i.1).kind == 0) = true by rw [beq_iff_eq]; exact i.2.2]
          simpa using h3
      have hlt : putN l n < l.length := by rw [hpn]; exact i.2.1
      have hg5 := grownBy_putObj' W D (.deferred none)
      have hr5 : NoCells W (some D) := fun r e => by cases e; exact ⟨_, hK, rfl⟩
      refine wpIn_wide.2 ?_
      go_wp2
      refine ⟨by simp, .inl ⟨_, _, rfl, run_takeDeferred hK, ?_⟩⟩
      refine ⟨_, results_cells2 rfl _ _ ⟨w.heap.size + 1 + 1, 0, none⟩ ⟨w.heap.size + 1 + 1 + 1, 0, none⟩ rfl rfl (load_int (cell_row hg5 hr5 h6)) (load_bool (cell_row hg5 hr5 h7)), ?_, v', ?_, ?_⟩
      · unfold putB putO
        rw [if_pos hlt, if_pos hlt, hpn]
      · unfold putL
        rw [if_pos hlt, hpn]
        exact h4.keep hg5 hr5
      · exact h5.keep hg5 (fun r e => by cases e; omega)
end Go.Proofs.Ytcgjhloiokpicaa
