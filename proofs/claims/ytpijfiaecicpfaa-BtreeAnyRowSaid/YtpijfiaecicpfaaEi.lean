/-
  Taking an entry out of an index.
-/
import Derived.Test.YtpijfiaecicpfaaEh
import Derived.Test.YtpijfiaecicpfaaBc
namespace Go.Proofs.Ytpijfiaecicpfaa
open Go.RowKit Go.Shelf Go.MuLone
set_option linter.unusedVariables false
set_option linter.unusedSimpArgs false
def takeEr (L : List Te) (x : Te) : Int := if okT x = true then if memT L x = true then 0 else 4 else 1
def takeLs (L : List Te) (x : Te) : List Te := if takeEr L x = 0 then delT L x else L
section
variable {lk : Int} {w w4 : World} {t h p q : Nat} {L : List Te} {T T' : BT} {fT f4 : Nat → Nat} {x : Te}
/-- What is known of a tree behind a taking, its root's number and length still to be laid. -/
theorem take_stay (H : TreeAt lk w t L h p T fT) (hx : x ∈ L) (hT' : T' = takeT h T x) (tn4 : TN w4 h p T' f4) (nd4 : ∀ a, f4 a ≤ 1) (le4 : ∀ a, a < w.heap.size → f4 a ≤ fT a) (fr4 : FR fT w w4) (q0 : Int)
    (ht4 : w4.heap[t]? = some (.cells #[.int .i32 lk, .int .u32 q0, .pointer (some ⟨p, 0, none⟩), .int .i64 L.length] 91 (0, 0))) (hr : h = 0 ∨ 1 ≤ T'.l.length) :
    TreeTurned lk w (w4.setCell ⟨t, 3, none⟩ (.int .i64 (delT L x).length)) t fT (delT L x) := by
  have hft : fT t = 0 := by have := H.nd t; rw [one_self] at this; omega
  have lt : t < w.heap.size := by obtain ⟨q, hq⟩ := H.ht; exact (Array.getElem?_eq_some_iff.1 hq).1
  have hf4 : f4 t = 0 := by have := le4 t lt; omega
  have ho := take_ok h T x H.sh H.l1 (by rw [H.fl]; exact H.sr) (by rw [H.fl]; exact hx)
  rw [← hT', H.fl] at ho
  have hl := len_del hx
  refine ⟨h, p, T', f4, ⟨⟨q0, tree_set3 ht4 _⟩, tn4.setc hf4, fun a => ?_, ho.1, by have := H.l4; have := ho.2.2.2; omega, fun h0 => by rcases hr with h1 | h1; exact absurd h1 h0; exact h1, ho.2.1, srt_del H.sr, fun e he => H.ok e (del_sub he), by have := H.le; omega⟩, le4, ?_⟩
  · by_cases e : a = t
    · subst e; rw [hf4, one_self]; exact Nat.le_refl _
    · rw [show one1 t a = 0 from if_neg e]; have := nd4 a; omega
  · exact (fr4.mono (fun k _ h0 => by have : one1 t k + fT k = 0 := h0; omega)).trans (fr_set (b := t)) (fun k _ h0 => by have : one1 t k + fT k = 0 := h0; omega)
theorem take_sink {h0 r : Nat} {ks : List BT} {f5 : Nat → Nat} (H : TreeAt lk w t L (h0 + 1) p T fT) (hx : x ∈ L) (hT' : BT.nd [] ks = takeT (h0 + 1) T x) (tn5 : TN w4 h0 r (kth ks 0) f5) (hle : ∀ a, f5 a ≤ f4 a) (nd4 : ∀ a, f4 a ≤ 1) (le4 : ∀ a, a < w.heap.size → f4 a ≤ fT a) (fr4 : FR fT w w4) (q0 : Int)
    (ht4 : w4.heap[t]? = some (.cells #[.int .i32 lk, .int .u32 q0, .pointer (some ⟨p, 0, none⟩), .int .i64 L.length] 91 (0, 0))) :
    TreeTurned lk w ((w4.setCell ⟨t, 2, none⟩ (.pointer (some ⟨r, 0, none⟩))).setCell ⟨t, 3, none⟩ (.int .i64 (delT L x).length)) t fT (delT L x) := by
  have hft : fT t = 0 := by have := H.nd t; rw [one_self] at this; omega
  have lt : t < w.heap.size := by obtain ⟨q, hq⟩ := H.ht; exact (Array.getElem?_eq_some_iff.1 hq).1
  have hf5 : f5 t = 0 := by have := le4 t lt; have := hle t; omega
  have ho := take_ok (h0 + 1) T x H.sh H.l1 (by rw [H.fl]; exact H.sr) (by rw [H.fl]; exact hx)
  rw [← hT', H.fl] at ho
  have hro := root_ok ho.1 (by show 0 ≤ 4; omega)
  have er : rootT (h0 + 1) (BT.nd [] ks) = (h0, kth ks 0) := by rw [rootT, if_pos rfl]
  rw [er] at hro
  have hl := len_del hx
  refine ⟨h0, r, kth ks 0, f5, ⟨⟨q0, tree_set3 (tree_set2 ht4 _) _⟩, (tn5.setc hf5).setc hf5, fun a => ?_, hro.1, hro.2.2.1, hro.2.2.2, hro.2.1.trans ho.2.1, srt_del H.sr, fun e he => H.ok e (del_sub he), by have := H.le; omega⟩, fun a ha => Nat.le_trans (hle a) (le4 a ha), ?_⟩
  · by_cases e : a = t
    · subst e; rw [hf5, one_self]; exact Nat.le_refl _
    · rw [show one1 t a = 0 from if_neg e]; have := nd4 a; have := hle a; omega
  · have h1 : FR (fun a => one1 t a + fT a) w w4 := fr4.mono (fun k _ h0 => by have : one1 t k + fT k = 0 := h0; omega)
    exact (h1.trans (fr_set (b := t)) (fun k _ h0 => by have : one1 t k + fT k = 0 := h0; omega)).trans (fr_set (b := t)) (fun k _ h0 => by have : one1 t k + fT k = 0 := h0; omega)
end
set_option maxRecDepth 100000 in
set_option maxHeartbeats 4000000 in
theorem Take_any (t : Nat) (L : List Te) (h p : Nat) (T : BT) (fT : Nat → Nat) (s : ByteArray) (n : Int) (w : World) (H : TreeAt 0 w t L h p T fT) (er : Int) (ls : List Te) (hE : Hid (er = takeEr L ⟨s, n⟩)) (hLs : Hid (ls = takeLs L ⟨s, n⟩)) :
    Calls Try.prog 26 #[.pointer (some ⟨t, 0, none⟩), .string s, .int .i64 n] w fun e w' => e = .returned (.int .i64 er) ∧ TreeTurned 0 w w' t fT ls := by
  have c0 := H.c0
  have f0 := H.free 0
  have H1 := hid (H.lock 1)
  have lt1 : t < (w.setCell ⟨t, 0, none⟩ (.int .i32 1)).heap.size := by simpa using H.lt
  clear H
  go_enter_defers Try.func26, Try.ntmps26
  go_wp2_with (go_at_call 59; refine (lock_free muLib ⟨t, 0, none⟩ _ c0 f0).mono ?_; rintro e w' ⟨rfl, rfl⟩)
  clear c0 f0
  generalize hwl : w.setCell ⟨t, 0, none⟩ (.int .i32 1) = wl at *
  replace hwl := hid hwl
  obtain ⟨⟨q0, ht0⟩, tn, nd, sh, l4, l1, fl, sr, ok, le⟩ := H1.out
  have hHas := hid (fun w' (hx : Ext wl w') => has_any h p T fT w' ⟨s, n⟩ (tn.ext hx) sh (by rw [fl]; exact sr) (by omega))
  rw [fl] at hHas
  have hTk := hid (fun w' (hx : Ext wl w') (hm : memT L ⟨s, n⟩ = true) => ntake_any h p T fT w' ⟨s, n⟩ (tn.ext hx) (fun a => by have := nd a; omega) sh l1 (by rw [fl]; exact sr) (by rw [fl]; exact memT_iff.1 hm) l4 _ rfl)
  have hx1 := hid ((Ext.refl wl).alloc_right (.cells #[.string s, .int .i64 n] 71))
  have ha := heap_alloc_new wl (.cells #[.string s, .int .i64 n] 71)
  have z0 : (wl.alloc (.cells #[.string s, .int .i64 n] 71)).cell? ⟨wl.heap.size, 0, none⟩ = some (.string s) := by rw [Lib.cell_of_heap ha]; rfl
  have z1 : (wl.alloc (.cells #[.string s, .int .i64 n] 71)).cell? ⟨wl.heap.size, 1, none⟩ = some (.int .i64 n) := by rw [Lib.cell_of_heap ha]; rfl
  have zt := hx1.out.cell H1.out.c2
  have lt0 := World.block_lt_of_cell? _ _ zt
  dsimp only at lt0
  have hft0 : Hid (fT t = 0) := by have := nd t; rw [one_self] at this; unfold Hid; omega
  have hfb0 : Hid (fT wl.heap.size = 0) := tn.bound _ (Nat.le_refl _)
  have hln := hid le
  replace ht0 := hid ht0
  clear ha tn nd sh l4 l1 fl sr ok le
  go_upto_region 6 with fail
  obtain ⟨b, hb0⟩ : ∃ b, b = w.heap.size := ⟨_, rfl⟩
  have hsz : wl.heap.size = w.heap.size := by rw [← hwl.out]; simp
  rw [hsz, ← hb0] at z0 z1 hfb0
  clear hsz
  simp only [← hb0]
  replace hb0 := hid hb0
  generalize wl.alloc (.cells #[.string s, .int .i64 n] 71) = w1 at *
  go_wp2_with fail
  refine (isEntry_any ⟨s, n⟩ w1).mono ?_
  rintro e' w2 ⟨rfl, hx2⟩
  replace z0 := hx2.cell z0
  replace z1 := hx2.cell z1
  replace zt := hx2.cell zt
  replace hx1 := hid (hx1.out.trans hx2)
  have lt2 := World.block_lt_of_cell? _ _ zt
  dsimp only at lt2
  clear hx2
  have hback := hid (fun w' (hx : Ext wl w') (h1 : ls = L) => (show TreeTurned 1 wl w' t fT ls by rw [h1]; exact H1.out.same hx))
  cases hok : okT ⟨s, n⟩ with
  | false =>
    have hE1 : Hid (er = 1) := by unfold Hid; rw [hE.out]; unfold takeEr; rw [hok]; rfl
    have hL1 : Hid (ls = L) := by unfold Hid; rw [hLs.out]; unfold takeLs; rw [← hE.out, hE1.out]; rfl
    have hfin := hid (hback.out w2 hx1.out hL1.out)
    obtain ⟨k0, kf⟩ : Hid (w2.cell? ⟨t, 0, none⟩ = some (.int .i32 1)) ∧ Hid (w2.frozen? ⟨t, 0, none⟩ = false) := by
      obtain ⟨h', p', T', f', H1, -, -⟩ := hfin.out
      exact ⟨H1.c0, H1.free 0⟩
    clear hE hLs hok hHas hTk hback H1 zt z0 z1
    go_wp2
    refine leaves_cons (f := 60) (args := #[.pointer (some ⟨t, 0, none⟩)]) (by simp) (by simp [go_sem]) ?_
    refine (unlock_deferred muLib ⟨t, 0, none⟩ .returning _ k0.out kf.out).mono ?_
    rintro e u' w'' ⟨rfl, rfl, rfl⟩
    exact ⟨_, results_tmp rfl _ _ _, by rw [hE1.out]; rfl, (by have h9 := hfin.out; rw [← hwl.out] at h9; exact h9.unlock)⟩
  | true =>
    go_upto_region 8 with fail
    have I0 : (fun w' : World => w'.cell? ⟨t, 2, none⟩ = some (.pointer (some ⟨p, 0, none⟩)) ∧ w'.cell? ⟨b, 0, none⟩ = some (.string s) ∧ w'.cell? ⟨b, 1, none⟩ = some (.int .i64 n)) w2.drew := ⟨zt, z0, z1⟩
    refine region_J (fun w' : World => w'.cell? ⟨t, 2, none⟩ = some (.pointer (some ⟨p, 0, none⟩)) ∧ w'.cell? ⟨b, 0, none⟩ = some (.string s) ∧ w'.cell? ⟨b, 1, none⟩ = some (.int .i64 n)) 7 (by kernel_rfl) ?_
    replace hx1 := hid (hx1.out.drew_right)
    clear zt z0 z1
    generalize w2.drew = w2 at *
    refine J_takeO 0 (v := ?va0) rfl (by kernel_rfl) (by kernel_rfl) (by kernel_rfl) (by kernel_rfl) (fun _ _ _ h => h) (Or.inl ⟨by rfl, ?ya0⟩) I0 ?ra0
    case ya0 => (intro w hSw; obtain ⟨_, _, _⟩ := hSw; (go_simp; with_reducible rfl))
    simp only [Act.put, List.getElem_toArray, List.getElem_cons_zero, List.getElem_cons_succ, List.setIfInBounds_toArray, List.set_cons_zero, List.set_cons_succ]
    refine J_takeO 1 (v := ?va1) rfl (by kernel_rfl) (by kernel_rfl) (by kernel_rfl) (by kernel_rfl) (fun _ _ _ h => h) (Or.inl ⟨by rfl, ?ya1⟩) I0 ?ra1
    case ya1 => (intro w hSw; obtain ⟨_, _, _⟩ := hSw; (go_simp; with_reducible rfl))
    simp only [Act.put, List.getElem_toArray, List.getElem_cons_zero, List.getElem_cons_succ, List.setIfInBounds_toArray, List.set_cons_zero, List.set_cons_succ]
    refine J_takeO 2 (v := ?va2) rfl (by kernel_rfl) (by kernel_rfl) (by kernel_rfl) (by kernel_rfl) (fun _ _ _ h => h) (Or.inl ⟨by rfl, ?ya2⟩) I0 ?ra2
    case ya2 => (intro w hSw; obtain ⟨_, _, _⟩ := hSw; (go_simp; with_reducible rfl))
    simp only [Act.put, List.getElem_toArray, List.getElem_cons_zero, List.getElem_cons_succ, List.setIfInBounds_toArray, List.set_cons_zero, List.set_cons_succ]
    refine J_takeO 3 (v := ?va3) rfl (by kernel_rfl) (by kernel_rfl) (by kernel_rfl) (by kernel_rfl) (fun _ _ _ h => h) (Or.inl ⟨by rfl, ?ya3⟩) I0 ?ra3
    case ya3 => (intro w hSw; obtain ⟨_, _, _⟩ := hSw; (go_simp; with_reducible rfl))
    simp only [Act.put, List.getElem_toArray, List.getElem_cons_zero, List.getElem_cons_succ, List.setIfInBounds_toArray, List.set_cons_zero, List.set_cons_succ]
    refine J_takeO 4 (v := ?va4) rfl (by kernel_rfl) (by kernel_rfl) (by kernel_rfl) (by kernel_rfl) (fun _ _ _ h => h) (Or.inl ⟨by rfl, ?ya4⟩) I0 ?ra4
    case ya4 => (intro w hSw; obtain ⟨_, _, _⟩ := hSw; (go_simp; with_reducible rfl))
    simp only [Act.put, List.getElem_toArray, List.getElem_cons_zero, List.getElem_cons_succ, List.setIfInBounds_toArray, List.set_cons_zero, List.set_cons_succ]
    refine J_one 5 rfl (by kernel_rfl) (fun K hK => ?_)
    go_simp
    refine (hHas.out w2 hx1.out).mono ?_
    rintro e' w3 ⟨rfl, hx3⟩
    have I3 : (fun w' : World => w'.cell? ⟨t, 2, none⟩ = some (.pointer (some ⟨p, 0, none⟩)) ∧ w'.cell? ⟨b, 0, none⟩ = some (.string s) ∧ w'.cell? ⟨b, 1, none⟩ = some (.int .i64 n)) w3 := ⟨hx3.cell I0.1, hx3.cell I0.2.1, hx3.cell I0.2.2⟩
    replace hx1 := hid (hx1.out.trans hx3)
    clear hx3 I0
    refine hK _ _ ⟨fun _ => I3, ?_⟩
    clear hK K
    try simp only [Act.put, List.getElem_toArray, List.getElem_cons_zero, List.getElem_cons_succ, List.setIfInBounds_toArray, List.set_cons_zero, List.set_cons_succ]
    refine J_one 6 rfl (by kernel_rfl) (fun K hK => ?_)
    go_simp
    refine hK _ _ ⟨fun _ => I3, ?_⟩
    clear hK K
    try simp only [Act.put, List.setIfInBounds_toArray, List.set_cons_zero, List.set_cons_succ]
    refine J_done (by kernel_rfl) (OnlyOn.normal ?_)
    cases hmm : memT L ⟨s, n⟩ with
    | false =>
      have hE1 : Hid (er = 4) := by unfold Hid; rw [hE.out]; unfold takeEr; rw [hok, hmm]; rfl
      have hL1 : Hid (ls = L) := by unfold Hid; rw [hLs.out]; unfold takeLs; rw [← hE.out, hE1.out]; rfl
      clear hmm
      have hfin := hid (hback.out w3 hx1.out hL1.out)
      obtain ⟨k0, kf⟩ : Hid (w3.cell? ⟨t, 0, none⟩ = some (.int .i32 1)) ∧ Hid (w3.frozen? ⟨t, 0, none⟩ = false) := by
        obtain ⟨h', p', T', f', H1, -, -⟩ := hfin.out
        exact ⟨H1.c0, H1.free 0⟩
      clear hE hLs hok hHas hTk hback H1 I3
      go_wp2
      refine leaves_cons (f := 60) (args := #[.pointer (some ⟨t, 0, none⟩)]) (by simp) (by simp [go_sem]) ?_
      refine (unlock_deferred muLib ⟨t, 0, none⟩ .returning _ k0.out kf.out).mono ?_
      rintro e u' w'' ⟨rfl, rfl, rfl⟩
      exact ⟨_, results_tmp rfl _ _ _, by rw [hE1.out]; rfl, (by have h9 := hfin.out; rw [← hwl.out] at h9; exact h9.unlock)⟩
    | true =>
      have hE1 : Hid (er = 0) := by unfold Hid; rw [hE.out]; unfold takeEr; rw [hok, hmm]; rfl
      have hL1 : Hid (ls = delT L ⟨s, n⟩) := by unfold Hid; rw [hLs.out]; unfold takeLs; rw [← hE.out, hE1.out]; rfl
      have hxL := hid (memT_iff.1 hmm)
      replace hTk := hid (fun w' hx => hTk.out w' hx hmm)
      obtain ⟨T', hT'⟩ : ∃ T', Hid (T' = takeT h T ⟨s, n⟩) := ⟨_, rfl⟩
      rw [← hT'.out] at hTk
      clear hmm hHas
      go_upto_region 10 with fail
      have I0 : (fun w' : World => w'.cell? ⟨t, 2, none⟩ = some (.pointer (some ⟨p, 0, none⟩)) ∧ w'.cell? ⟨b, 0, none⟩ = some (.string s) ∧ w'.cell? ⟨b, 1, none⟩ = some (.int .i64 n)) w3.drew := I3
      refine region_J (fun w' : World => w'.cell? ⟨t, 2, none⟩ = some (.pointer (some ⟨p, 0, none⟩)) ∧ w'.cell? ⟨b, 0, none⟩ = some (.string s) ∧ w'.cell? ⟨b, 1, none⟩ = some (.int .i64 n)) 6 (by kernel_rfl) ?_
      replace hx1 := hid (hx1.out.drew_right)
      clear I3
      generalize w3.drew = w3 at *
      refine J_takeO 0 (v := ?vb0) rfl (by kernel_rfl) (by kernel_rfl) (by kernel_rfl) (by kernel_rfl) (fun _ _ _ h => h) (Or.inl ⟨by rfl, ?yb0⟩) I0 ?rb0
      case yb0 => (intro w hSw; obtain ⟨_, _, _⟩ := hSw; (go_simp; with_reducible rfl))
      simp only [Act.put, List.getElem_toArray, List.getElem_cons_zero, List.getElem_cons_succ, List.setIfInBounds_toArray, List.set_cons_zero, List.set_cons_succ]
      refine J_takeO 1 (v := ?vb1) rfl (by kernel_rfl) (by kernel_rfl) (by kernel_rfl) (by kernel_rfl) (fun _ _ _ h => h) (Or.inl ⟨by rfl, ?yb1⟩) I0 ?rb1
      case yb1 => (intro w hSw; obtain ⟨_, _, _⟩ := hSw; (go_simp; with_reducible rfl))
      simp only [Act.put, List.getElem_toArray, List.getElem_cons_zero, List.getElem_cons_succ, List.setIfInBounds_toArray, List.set_cons_zero, List.set_cons_succ]
      refine J_takeO 2 (v := ?vb2) rfl (by kernel_rfl) (by kernel_rfl) (by kernel_rfl) (by kernel_rfl) (fun _ _ _ h => h) (Or.inl ⟨by rfl, ?yb2⟩) I0 ?rb2
      case yb2 => (intro w hSw; obtain ⟨_, _, _⟩ := hSw; (go_simp; with_reducible rfl))
      simp only [Act.put, List.getElem_toArray, List.getElem_cons_zero, List.getElem_cons_succ, List.setIfInBounds_toArray, List.set_cons_zero, List.set_cons_succ]
      refine J_takeO 3 (v := ?vb3) rfl (by kernel_rfl) (by kernel_rfl) (by kernel_rfl) (by kernel_rfl) (fun _ _ _ h => h) (Or.inl ⟨by rfl, ?yb3⟩) I0 ?rb3
      case yb3 => (intro w hSw; obtain ⟨_, _, _⟩ := hSw; (go_simp; with_reducible rfl))
      simp only [Act.put, List.getElem_toArray, List.getElem_cons_zero, List.getElem_cons_succ, List.setIfInBounds_toArray, List.set_cons_zero, List.set_cons_succ]
      refine J_takeO 4 (v := ?vb4) rfl (by kernel_rfl) (by kernel_rfl) (by kernel_rfl) (by kernel_rfl) (fun _ _ _ h => h) (Or.inl ⟨by rfl, ?yb4⟩) I0 ?rb4
      case yb4 => (intro w hSw; obtain ⟨_, _, _⟩ := hSw; (go_simp; with_reducible rfl))
      simp only [Act.put, List.getElem_toArray, List.getElem_cons_zero, List.getElem_cons_succ, List.setIfInBounds_toArray, List.set_cons_zero, List.set_cons_succ]
      refine J_one 5 rfl (by kernel_rfl) (fun K hK => ?_)
      go_simp
      refine (hTk.out w3 hx1.out).mono ?_
      rintro e' w4 ⟨rfl, ht⟩
      obtain ⟨f4, tn4, nd4, le4, fr4⟩ := ht
      have hbc : ∀ (j : Addr) (u : Value), fT j.block = 0 → w3.cell? j = some u → w4.cell? j = some u := fun j u hj hu => by
        rw [World.cell?_of_block (fr4.2.2.2.2 j.block (World.block_lt_of_cell? _ _ hu) hj)]
        exact hu
      have I4 : (fun w' : World => w'.cell? ⟨t, 2, none⟩ = some (.pointer (some ⟨p, 0, none⟩)) ∧ w'.cell? ⟨b, 0, none⟩ = some (.string s) ∧ w'.cell? ⟨b, 1, none⟩ = some (.int .i64 n)) w4 := ⟨hbc _ _ hft0.out I0.1, hbc _ _ hfb0.out I0.2.1, hbc _ _ hfb0.out I0.2.2⟩
      have ht4 : Hid (w4.heap[t]? = some (.cells #[.int .i32 1, .int .u32 q0, .pointer (some ⟨p, 0, none⟩), .int .i64 L.length] 91 (0, 0))) := by
        have h0 := (hx1.out.block (Array.getElem?_eq_some_iff.1 ht0.out).1).trans ht0.out
        exact (fr4.2.2.2.2 t (Array.getElem?_eq_some_iff.1 h0).1 hft0.out).trans h0
      replace tn4 := hid tn4
      replace nd4 := hid nd4
      replace le4 : Hid (∀ a, a < wl.heap.size → f4 a ≤ fT a) := fun a ha => le4 a (Nat.lt_of_lt_of_le ha hx1.out.size)
      replace fr4 : Hid (FR fT wl w4) := (FR.of_ext hx1.out).trans fr4 (fun _ _ h => h)
      clear hbc I0 hTk hx1 ht0
      refine hK _ _ ⟨fun _ => I4, ?_⟩
      clear hK K
      try simp only [Act.put, List.getElem_toArray, List.getElem_cons_zero, List.getElem_cons_succ, List.setIfInBounds_toArray, List.set_cons_zero, List.set_cons_succ]
      refine J_done (by kernel_rfl) (OnlyOn.normal ?_)
      have hdl := hid (len_del hxL.out)
      have c2 : w4.cell? ⟨t, 2, none⟩ = some (.pointer (some ⟨p, 0, none⟩)) := by rw [Lib.cell_of_heap ht4.out]; rfl
      have c3 : w4.cell? ⟨t, 3, none⟩ = some (.int .i64 L.length) := by rw [Lib.cell_of_heap ht4.out]; rfl
      have fz3 := Lib.frozen_of_heap ht4.out 3
      have lt4 := (Array.getElem?_eq_some_iff.1 ht4.out).1
      have hw1 : IntKind.i64.wrap ((L.length : Int) - 1) = ((delT L ⟨s, n⟩).length : Int) := by have := hln.out; have := hdl.out; rw [IntWalk.i64_in _ (by omega)]; omega
      have hw2 : ((L.length : Int) - 1) = ((delT L ⟨s, n⟩).length : Int) := by have := hdl.out; omega
      have hbl : Hid (L.length ≤ 10000) := hln.out
      have hL0 : (L.length : Int) ≤ 10000 := by have := hln.out; omega
      obtain ⟨l', ks'⟩ := T'
      obtain ⟨A, c, kA, kn, kc, d0, d1, hrd, hk0⟩ := tn4.out.cells
      have hmr := Rd.max hrd
      have lp4 := World.block_lt_of_cell? _ _ d0
      dsimp only at lp4
      clear I4 hrd
      by_cases hl0 : 1 ≤ l'.length
      · have hne : ((l'.length : Int) == 0) = false := by rw [beq_eq_false_iff_ne]; omega
        have hfin9 := hid (take_stay H1.out hxL.out hT'.out tn4.out nd4.out le4.out fr4.out q0 ht4.out (.inr hl0))
        have hfin := hid ((show TreeTurned 1 wl (w4.setCell ⟨t, 3, none⟩ (.int .i64 (delT L ⟨s, n⟩).length)) t fT ls by rw [hL1.out]; exact hfin9.out))
        obtain ⟨k0, kf⟩ : Hid ((w4.setCell ⟨t, 3, none⟩ (.int .i64 (delT L ⟨s, n⟩).length)).cell? ⟨t, 0, none⟩ = some (.int .i32 1)) ∧ Hid ((w4.setCell ⟨t, 3, none⟩ (.int .i64 (delT L ⟨s, n⟩).length)).frozen? ⟨t, 0, none⟩ = false) := by
          obtain ⟨h', p', T', f', H1, -, -⟩ := hfin.out
          exact ⟨H1.c0, H1.free 0⟩
        clear hE hLs hok hback hfin9 tn4 nd4 le4 fr4 ht4 hT'
        go_wp2
        refine leaves_cons (f := 60) (args := #[.pointer (some ⟨t, 0, none⟩)]) (by simp) (by simp [go_sem]) ?_
        refine (unlock_deferred muLib ⟨t, 0, none⟩ .returning _ k0.out kf.out).mono ?_
        rintro e u' w'' ⟨rfl, rfl, rfl⟩
        exact ⟨_, results_tmp rfl _ _ _, by rw [hE1.out]; rfl, (by have h9 := hfin.out; rw [← hwl.out] at h9; exact h9.unlock)⟩
      · obtain rfl : l' = [] := List.eq_nil_of_length_eq_zero (by omega)
        cases h with
        | zero =>
          obtain rfl := hk0 rfl
          have hfin9 := hid (take_stay H1.out hxL.out hT'.out tn4.out nd4.out le4.out fr4.out q0 ht4.out (.inl rfl))
          have hfin := hid ((show TreeTurned 1 wl (w4.setCell ⟨t, 3, none⟩ (.int .i64 (delT L ⟨s, n⟩).length)) t fT ls by rw [hL1.out]; exact hfin9.out))
          obtain ⟨k0, kf⟩ : Hid ((w4.setCell ⟨t, 3, none⟩ (.int .i64 (delT L ⟨s, n⟩).length)).cell? ⟨t, 0, none⟩ = some (.int .i32 1)) ∧ Hid ((w4.setCell ⟨t, 3, none⟩ (.int .i64 (delT L ⟨s, n⟩).length)).frozen? ⟨t, 0, none⟩ = false) := by
            obtain ⟨h', p', T', f', H1, -, -⟩ := hfin.out
            exact ⟨H1.c0, H1.free 0⟩
          clear hE hLs hok hback hfin9 tn4 nd4 le4 fr4 ht4 hT'
          go_wp2
          refine leaves_cons (f := 60) (args := #[.pointer (some ⟨t, 0, none⟩)]) (by simp) (by simp [go_sem]) ?_
          refine (unlock_deferred muLib ⟨t, 0, none⟩ .returning _ k0.out kf.out).mono ?_
          rintro e u' w'' ⟨rfl, rfl, rfl⟩
          exact ⟨_, results_tmp rfl _ _ _, by rw [hE1.out]; rfl, (by have h9 := hfin.out; rw [← hwl.out] at h9; exact h9.unlock)⟩
        | succ h0 =>
          obtain ⟨lv, kv, ps, g, e1, e2, e3, e5, e4⟩ := tn4.out
          have hsh := take_ok (h0 + 1) T ⟨s, n⟩ H1.out.sh H1.out.l1 (by rw [H1.out.fl]; exact H1.out.sr) (by rw [H1.out.fl]; exact hxL.out)
          rw [← hT'.out] at hsh
          have hks1 : ks'.length = 1 := hsh.1.1
          have hpl := e5.len
          obtain ⟨r, g0, g1, g2, hpi, hKq, -, -, hg⟩ := Ks.cut e5 (kth_some (show 0 < ks'.length by omega))
          obtain ⟨kA2, kc2, rfl, hkr⟩ := own_rd e3
          obtain ⟨kad, rfl, -⟩ := hkr.2.2.2 (by omega)
          have d1' := node_c1 e1
          clear d1 hk0
          have d2 := own_ptr0 e3 hpi
          have hk1 : (0 : Int) < (ps.length : Int) := by omega
          have hk2 : 0 < ps.length := by omega
          have hfin9 := hid (take_sink (r := r) H1.out hxL.out hT'.out hKq (fun a => by rw [e4 a, hg a]; omega) nd4.out le4.out fr4.out q0 ht4.out)
          have fz2 := Lib.frozen_of_heap ht4.out 2
          have c4 : (w4.setCell ⟨t, 2, none⟩ (.pointer (some ⟨r, 0, none⟩))).cell? ⟨t, 3, none⟩ = some (.int .i64 L.length) := set_keep c3 (off_ne (by decide))
          have fz4 : (w4.setCell ⟨t, 2, none⟩ (.pointer (some ⟨r, 0, none⟩))).frozen? ⟨t, 3, none⟩ = false := (World.frozen?_setCell _ _ _ _).trans fz3
          clear e1 e2 e3 e4 e5 hkr hpl hks1 hsh hpi hKq hg
          have hfin := hid ((show TreeTurned 1 wl ((w4.setCell ⟨t, 2, none⟩ (.pointer (some ⟨r, 0, none⟩))).setCell ⟨t, 3, none⟩ (.int .i64 (delT L ⟨s, n⟩).length)) t fT ls by rw [hL1.out]; exact hfin9.out))
          obtain ⟨k0, kf⟩ : Hid (((w4.setCell ⟨t, 2, none⟩ (.pointer (some ⟨r, 0, none⟩))).setCell ⟨t, 3, none⟩ (.int .i64 (delT L ⟨s, n⟩).length)).cell? ⟨t, 0, none⟩ = some (.int .i32 1)) ∧ Hid (((w4.setCell ⟨t, 2, none⟩ (.pointer (some ⟨r, 0, none⟩))).setCell ⟨t, 3, none⟩ (.int .i64 (delT L ⟨s, n⟩).length)).frozen? ⟨t, 0, none⟩ = false) := by
            obtain ⟨h', p', T', f', H1, -, -⟩ := hfin.out
            exact ⟨H1.c0, H1.free 0⟩
          clear hE hLs hok hback hfin9 tn4 nd4 le4 fr4 ht4 hT'
          go_wp2
          refine leaves_cons (f := 60) (args := #[.pointer (some ⟨t, 0, none⟩)]) (by simp) (by simp [go_sem]) ?_
          refine (unlock_deferred muLib ⟨t, 0, none⟩ .returning _ k0.out kf.out).mono ?_
          rintro e u' w'' ⟨rfl, rfl, rfl⟩
          exact ⟨_, results_tmp rfl _ _ _, by rw [hE1.out]; rfl, (by have h9 := hfin.out; rw [← hwl.out] at h9; exact h9.unlock)⟩
end Go.Proofs.Ytpijfiaecicpfaa
