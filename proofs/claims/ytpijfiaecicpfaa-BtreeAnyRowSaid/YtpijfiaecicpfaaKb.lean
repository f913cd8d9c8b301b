/-
  Build of the program.
-/
import Derived.Test.YtpijfiaecicpfaaBp
import Derived.Test.YtpijfiaecicpfaaBj
namespace Go.Proofs.Ytpijfiaecicpfaa
open Go.RowKit Go.Shelf
set_option linter.unusedVariables false
set_option linter.unusedSimpArgs false
/-- In ascending order, of entries that may be. -/
def ascP (L : List Te) : Prop := (∀ x ∈ L, okT x = true) ∧ Srt L
noncomputable def bldE (ks : List ByteArray) (rs : List Int) : Int := if ks.length ≠ rs.length then 10 else if cdec (ascP (ents ⟨ks, rs, []⟩)) = false then 1 else if 1200 < ks.length then 3 else 0
def GiveBT (E : Int) (L : List Te) (w : World) (e : Ending) (w' : World) : Prop := ∃ v E', e = .returned (.tuple #[v, .int .i64 E']) ∧ Ext w w' ∧ (E' = 0 → ∃ t, v = .pointer (some ⟨t, 0, none⟩) ∧ TA w w' t L) ∧ (E' ≠ 0 → v = .pointer none) ∧ E' = E
theorem bt_no {E : Int} {L : List Te} {w w' : World} (hx : Ext w w') (h : E ≠ 0) : GiveBT E L w (.returned (.tuple #[.pointer none, .int .i64 E])) w' := ⟨_, _, rfl, hx, fun h0 => absurd h0 h, fun _ => rfl, rfl⟩
theorem bt_yes {L : List Te} {w w' : World} {t : Nat} (h : TA w w' t L) : GiveBT 0 L w (.returned (.tuple #[.pointer (some ⟨t, 0, none⟩), .int .i64 0])) w' := ⟨_, _, rfl, h.2.1, fun _ => ⟨t, rfl, h⟩, fun h => absurd rfl h, rfl⟩
theorem tput_TA {w0 w : World} {t : Nat} {L : List Te} (H : TA w0 w t L) (x : Te) : Calls Try.prog 41 #[.pointer (some ⟨t, 0, none⟩), .agg #[.string x.key, .int .i64 x.no]] w fun e w' => e = .returned (.int .i64 (putEr L x)) ∧ TA w0 w' t (putLs L x) := by
  obtain ⟨h1, h2, h, p, T, fT, h3, h4⟩ := H
  refine (tput_any 0 t L h p T fT x w h3).mono ?_
  rintro e w' ⟨rfl, ht⟩
  exact ⟨rfl, TA.turn h3 h1 h2 h4 ht⟩
/-- One behind the other. -/
theorem put_asc {L : List Te} (h : ascP L) (hn : L.length ≤ 1200) {k : Nat} (hk : k < L.length) : putEr (L.take k) (tth L k) = 0 ∧ putLs (L.take k) (tth L k) = L.take (k + 1) := by
  have hlt : ∀ x ∈ L.take k, cmpT x (tth L k) < 0 := fun x hx => by
    obtain ⟨j, hj, rfl⟩ := List.mem_take_iff_getElem.1 hx
    have := srt_nth h.2 (show j < k by omega) hk
    rw [tth_get (show j < L.length by omega)] at this
    exact this
  have e0 : putEr (L.take k) (tth L k) = 0 := by
    unfold putEr
    rw [if_pos (h.1 _ (by rw [tth_get hk]; exact List.getElem_mem _)), if_neg (by rw [memT_lt hlt]; decide), if_neg (by rw [List.length_take]; omega)]
  refine ⟨e0, ?_⟩
  unfold putLs
  rw [if_pos e0]
  have := insT_app (b := []) hlt
  rw [List.append_nil] at this
  rw [this, List.take_succ_eq_append_getElem hk, tth_get hk]
  rfl
set_option maxRecDepth 100000 in
set_option maxHeartbeats 16000000 in
theorem Build_any (A : Option Addr) (n c : Nat) (B : Option Addr) (m d : Nat) (ks : List ByteArray) (rs : List Int) (w : World) (ha : Rd w 1 A n c (strv ks)) (hb : RdI w B m d rs) (hm0 : m ≤ 2000000) : Calls Try.prog 11 #[.slice A n c, .slice B m d] w (GiveBT (bldE ks rs) (ents ⟨ks, rs, []⟩) w) := by
  have hm := Rd.max ha
  have hm2 := RdI.max hb
  have hkn : ks.length = n := by have := ha.1; rw [strv_len] at this; omega
  have hrn := hb.len
  by_cases hnm : n = m
  · subst hnm
    have hlr : rs.length = ks.length := by omega
    have hl := ents_len (x := ⟨ks, rs, []⟩) hlr
    have hat := fun k (hk : k < ks.length) => ents_at (x := ⟨ks, rs, []⟩) hlr hk
    have hl' : (ents ⟨ks, rs, []⟩).length = n := by rw [hl]; exact hkn
    have hkey : Hid (∀ k, k < n → ∀ w', Ext w w' → ∃ ka ra, A = some ka ∧ B = some ra ∧ w'.cell? (ka.add k) = some (.string (tth (ents ⟨ks, rs, []⟩) k).key) ∧ w'.cell? (ra.add k) = some (.int .i64 (tth (ents ⟨ks, rs, []⟩) k).no)) := fun k hk w' hx => by
      rw [hat k (by omega)]
      obtain ⟨ka, e1, e2⟩ := rds_at (ha.ext hx) hk
      obtain ⟨ra, e3, e4⟩ := rdi_at (hb.ext hx) hk
      exact ⟨ka, ra, e1, e3, e2, e4⟩
    have hE1 : Hid (¬ ascP (ents ⟨ks, rs, []⟩) → bldE ks rs = 1) := fun h => by unfold bldE; rw [if_neg (by omega), if_pos (cdec_not.2 h)]
    have hE3 : Hid (ascP (ents ⟨ks, rs, []⟩) → 1200 < n → bldE ks rs = 3) := fun h h2 => by unfold bldE; rw [if_neg (by omega), if_neg (fun hc => cdec_not.1 hc h), if_pos (by omega)]
    have hE0 : Hid (ascP (ents ⟨ks, rs, []⟩) → n ≤ 1200 → bldE ks rs = 0) := fun h h2 => by unfold bldE; rw [if_neg (by omega), if_neg (fun hc => cdec_not.1 hc h), if_neg (by omega)]
    have hks : Hid ((ents ⟨ks, rs, []⟩).map Te.key = ks) := ents_keys (x := ⟨ks, rs, []⟩) hlr
    have hrs : Hid ((ents ⟨ks, rs, []⟩).map Te.no = rs) := ents_recs (x := ⟨ks, rs, []⟩) hlr
    have hll := hid hl'
    replace ha := hid ha
    replace hb := hid hb
    clear hat hl hl' hlr hkn hrn
    generalize ents ⟨ks, rs, []⟩ = L at *
    generalize bldE ks rs = E at *
    go_enter Try.func11, Try.ntmps11
    go_wp2_with fail
    go_loopw [19] (fun i wr => ∃ k : Nat, k ≤ n ∧ i = .int .i64 k ∧ Hid (∀ j, j < k → okT (tth L j) = true ∧ (0 < j → cmpT (tth L (j - 1)) (tth L j) < 0)) ∧ Hid (Ext w wr)) (fun i _ => n - (intOf i).toNat)
    case atStart => exact ⟨0, by omega, rfl, fun j hj => by omega, Ext.refl _⟩
    case round =>
      obtain ⟨k, hk, rfl, hst, hx⟩ := hrel
      by_cases hlt : k < n
      · obtain ⟨ka, ra, rfl, rfl, z0, z1⟩ := hkey.out k hlt wr hx.out
        have hki : (k : Int) < (n : Int) := by omega
        have hst2 := hid (fun (h1 : okT (tth L k) = true) (h2 : 0 < k → cmpT (tth L (k - 1)) (tth L k) < 0) j (hj : j < k + 1) => (by
          by_cases e : j = k
          · rw [e]; exact ⟨h1, h2⟩
          · exact hst.out j (by omega) : okT (tth L j) = true ∧ (0 < j → cmpT (tth L (j - 1)) (tth L j) < 0)))
        have hno1 := hid (fun (h : okT (tth L k) = false) => hE1.out (fun ha => by rw [ha.1 _ (by rw [tth_get (by rw [hll.out]; exact hlt)]; exact List.getElem_mem _)] at h; cases h))
        have hno2 := hid (fun (h0 : 0 < k) (h : ¬ cmpT (tth L (k - 1)) (tth L k) < 0) => hE1.out (fun ha => h (srt_nth ha.2 (by omega) (by rw [hll.out]; exact hlt))))
        clear hst
        cases hok : okT (tth L k) with
        | false =>
          have hEE := hno1.out hok
          subst hEE
          obtain ⟨x, hxx⟩ : ∃ x, x = tth L k := ⟨_, rfl⟩
          rw [← hxx] at z0 z1 hok
          have hE := hid (fun w' => isEntry_any x w')
          rw [show okT x = false from hok] at hE
          clear hok hxx hst2 hno1 hno2
          have hxb := (Ext.refl wr).alloc_right (.cells #[.string x.key, .int .i64 x.no] 71)
          have hb0 := heap_alloc_new wr (.cells #[.string x.key, .int .i64 x.no] 71)
          have zc0 : (wr.alloc (.cells #[.string x.key, .int .i64 x.no] 71)).cell? ⟨wr.heap.size, 0, none⟩ = some (.string x.key) := by rw [Lib.cell_of_heap hb0]; rfl
          have zc1 : (wr.alloc (.cells #[.string x.key, .int .i64 x.no] 71)).cell? ⟨wr.heap.size, 1, none⟩ = some (.int .i64 x.no) := by rw [Lib.cell_of_heap hb0]; rfl
          go_upto_region 7 with fail
          generalize wr.heap.size = b at *
          have I0 : (fun w' : World => w'.cell? ⟨b, 0, none⟩ = some (.string x.key) ∧ w'.cell? ⟨b, 1, none⟩ = some (.int .i64 x.no)) (wr.alloc (.cells #[.string x.key, .int .i64 x.no] 71)).drew := ⟨zc0, zc1⟩
          have hx9 := hid (hx.out.trans hxb.drew_right)
          refine region_J (fun w' : World => w'.cell? ⟨b, 0, none⟩ = some (.string x.key) ∧ w'.cell? ⟨b, 1, none⟩ = some (.int .i64 x.no)) 23 (by kernel_rfl) ?_
          clear z0 z1 zc0 zc1 hxb hb0
          generalize (wr.alloc (.cells #[.string x.key, .int .i64 x.no] 71)).drew = w9 at *
          refine J_takeO 0 (v := ?vp50) rfl (by kernel_rfl) (by kernel_rfl) (by kernel_rfl) (by kernel_rfl) (fun _ _ _ h => h) (Or.inl ⟨by rfl, ?yp50⟩) I0 ?rp50
          case yp50 => (intro w hSw; obtain ⟨_, _⟩ := hSw; (go_simp; with_reducible rfl))
          simp only [Act.put, List.getElem_toArray, List.getElem_cons_zero, List.getElem_cons_succ, List.setIfInBounds_toArray, List.set_cons_zero, List.set_cons_succ]
          refine J_one 1 rfl (by kernel_rfl) (fun K hK => ?_)
          go_simp
          refine (hE.out _).mono ?_
          rintro e' w8 ⟨rfl, hx8⟩
          have I1 : (fun w' : World => w'.cell? ⟨b, 0, none⟩ = some (.string x.key) ∧ w'.cell? ⟨b, 1, none⟩ = some (.int .i64 x.no)) w8 := ⟨hx8.cell I0.1, hx8.cell I0.2⟩
          replace hx9 := hid (hx9.out.trans hx8)
          clear I0 hx8
          refine hK _ _ ⟨fun _ => I1, ?_⟩
          clear hK K
          try simp only [Act.put, List.getElem_toArray, List.getElem_cons_zero, List.getElem_cons_succ, List.setIfInBounds_toArray, List.set_cons_zero, List.set_cons_succ]
          refine J_one 2 rfl (by kernel_rfl) (fun K hK => ?_)
          go_simp
          refine hK _ _ ⟨fun _ => I1, ?_⟩
          clear hK K
          try simp only [Act.put, List.setIfInBounds_toArray, List.set_cons_zero, List.set_cons_succ]
          refine J_one 3 rfl (by kernel_rfl) (fun K hK => ?_)
          go_simp
          refine hK _ _ ⟨fun _ => I1, ?_⟩
          clear hK K
          try simp only [Act.put, List.setIfInBounds_toArray, List.set_cons_zero, List.set_cons_succ]
          refine J_takeO 4 rfl (by kernel_rfl) (by kernel_rfl) (by kernel_rfl) (by kernel_rfl) (fun _ _ _ h => h) (Or.inr ⟨by rfl, rfl⟩) I1 ?_
          simp only [Act.put, List.getElem_toArray, List.getElem_cons_zero, List.getElem_cons_succ, List.setIfInBounds_toArray, List.set_cons_zero, List.set_cons_succ]
          refine J_takeO 5 rfl (by kernel_rfl) (by kernel_rfl) (by kernel_rfl) (by kernel_rfl) (fun _ _ _ h => h) (Or.inr ⟨by rfl, rfl⟩) I1 ?_
          simp only [Act.put, List.getElem_toArray, List.getElem_cons_zero, List.getElem_cons_succ, List.setIfInBounds_toArray, List.set_cons_zero, List.set_cons_succ]
          refine J_takeO 6 rfl (by kernel_rfl) (by kernel_rfl) (by kernel_rfl) (by kernel_rfl) (fun _ _ _ h => h) (Or.inr ⟨by rfl, rfl⟩) I1 ?_
          simp only [Act.put, List.getElem_toArray, List.getElem_cons_zero, List.getElem_cons_succ, List.setIfInBounds_toArray, List.set_cons_zero, List.set_cons_succ]
          refine J_takeO 7 rfl (by kernel_rfl) (by kernel_rfl) (by kernel_rfl) (by kernel_rfl) (fun _ _ _ h => h) (Or.inr ⟨by rfl, rfl⟩) I1 ?_
          simp only [Act.put, List.getElem_toArray, List.getElem_cons_zero, List.getElem_cons_succ, List.setIfInBounds_toArray, List.set_cons_zero, List.set_cons_succ]
          refine J_takeO 8 rfl (by kernel_rfl) (by kernel_rfl) (by kernel_rfl) (by kernel_rfl) (fun _ _ _ h => h) (Or.inr ⟨by rfl, rfl⟩) I1 ?_
          simp only [Act.put, List.getElem_toArray, List.getElem_cons_zero, List.getElem_cons_succ, List.setIfInBounds_toArray, List.set_cons_zero, List.set_cons_succ]
          refine J_takeO 9 rfl (by kernel_rfl) (by kernel_rfl) (by kernel_rfl) (by kernel_rfl) (fun _ _ _ h => h) (Or.inr ⟨by rfl, rfl⟩) I1 ?_
          simp only [Act.put, List.getElem_toArray, List.getElem_cons_zero, List.getElem_cons_succ, List.setIfInBounds_toArray, List.set_cons_zero, List.set_cons_succ]
          refine J_takeO 10 rfl (by kernel_rfl) (by kernel_rfl) (by kernel_rfl) (by kernel_rfl) (fun _ _ _ h => h) (Or.inr ⟨by rfl, rfl⟩) I1 ?_
          simp only [Act.put, List.getElem_toArray, List.getElem_cons_zero, List.getElem_cons_succ, List.setIfInBounds_toArray, List.set_cons_zero, List.set_cons_succ]
          refine J_takeO 11 rfl (by kernel_rfl) (by kernel_rfl) (by kernel_rfl) (by kernel_rfl) (fun _ _ _ h => h) (Or.inr ⟨by rfl, rfl⟩) I1 ?_
          simp only [Act.put, List.getElem_toArray, List.getElem_cons_zero, List.getElem_cons_succ, List.setIfInBounds_toArray, List.set_cons_zero, List.set_cons_succ]
          refine J_takeO 12 rfl (by kernel_rfl) (by kernel_rfl) (by kernel_rfl) (by kernel_rfl) (fun _ _ _ h => h) (Or.inr ⟨by rfl, rfl⟩) I1 ?_
          simp only [Act.put, List.getElem_toArray, List.getElem_cons_zero, List.getElem_cons_succ, List.setIfInBounds_toArray, List.set_cons_zero, List.set_cons_succ]
          refine J_takeO 13 rfl (by kernel_rfl) (by kernel_rfl) (by kernel_rfl) (by kernel_rfl) (fun _ _ _ h => h) (Or.inr ⟨by rfl, rfl⟩) I1 ?_
          simp only [Act.put, List.getElem_toArray, List.getElem_cons_zero, List.getElem_cons_succ, List.setIfInBounds_toArray, List.set_cons_zero, List.set_cons_succ]
          refine J_takeO 14 rfl (by kernel_rfl) (by kernel_rfl) (by kernel_rfl) (by kernel_rfl) (fun _ _ _ h => h) (Or.inr ⟨by rfl, rfl⟩) I1 ?_
          simp only [Act.put, List.getElem_toArray, List.getElem_cons_zero, List.getElem_cons_succ, List.setIfInBounds_toArray, List.set_cons_zero, List.set_cons_succ]
          refine J_takeO 15 rfl (by kernel_rfl) (by kernel_rfl) (by kernel_rfl) (by kernel_rfl) (fun _ _ _ h => h) (Or.inr ⟨by rfl, rfl⟩) I1 ?_
          simp only [Act.put, List.getElem_toArray, List.getElem_cons_zero, List.getElem_cons_succ, List.setIfInBounds_toArray, List.set_cons_zero, List.set_cons_succ]
          refine J_takeO 16 rfl (by kernel_rfl) (by kernel_rfl) (by kernel_rfl) (by kernel_rfl) (fun _ _ _ h => h) (Or.inr ⟨by rfl, rfl⟩) I1 ?_
          simp only [Act.put, List.getElem_toArray, List.getElem_cons_zero, List.getElem_cons_succ, List.setIfInBounds_toArray, List.set_cons_zero, List.set_cons_succ]
          refine J_takeO 17 rfl (by kernel_rfl) (by kernel_rfl) (by kernel_rfl) (by kernel_rfl) (fun _ _ _ h => h) (Or.inr ⟨by rfl, rfl⟩) I1 ?_
          simp only [Act.put, List.getElem_toArray, List.getElem_cons_zero, List.getElem_cons_succ, List.setIfInBounds_toArray, List.set_cons_zero, List.set_cons_succ]
          refine J_takeO 18 rfl (by kernel_rfl) (by kernel_rfl) (by kernel_rfl) (by kernel_rfl) (fun _ _ _ h => h) (Or.inr ⟨by rfl, rfl⟩) I1 ?_
          simp only [Act.put, List.getElem_toArray, List.getElem_cons_zero, List.getElem_cons_succ, List.setIfInBounds_toArray, List.set_cons_zero, List.set_cons_succ]
          refine J_takeO 19 rfl (by kernel_rfl) (by kernel_rfl) (by kernel_rfl) (by kernel_rfl) (fun _ _ _ h => h) (Or.inr ⟨by rfl, rfl⟩) I1 ?_
          simp only [Act.put, List.getElem_toArray, List.getElem_cons_zero, List.getElem_cons_succ, List.setIfInBounds_toArray, List.set_cons_zero, List.set_cons_succ]
          refine J_takeO 20 rfl (by kernel_rfl) (by kernel_rfl) (by kernel_rfl) (by kernel_rfl) (fun _ _ _ h => h) (Or.inr ⟨by rfl, rfl⟩) I1 ?_
          simp only [Act.put, List.getElem_toArray, List.getElem_cons_zero, List.getElem_cons_succ, List.setIfInBounds_toArray, List.set_cons_zero, List.set_cons_succ]
          refine J_takeO 21 rfl (by kernel_rfl) (by kernel_rfl) (by kernel_rfl) (by kernel_rfl) (fun _ _ _ h => h) (Or.inr ⟨by rfl, rfl⟩) I1 ?_
          simp only [Act.put, List.getElem_toArray, List.getElem_cons_zero, List.getElem_cons_succ, List.setIfInBounds_toArray, List.set_cons_zero, List.set_cons_succ]
          refine J_one 22 rfl (by kernel_rfl) (fun K hK => ?_)
          go_simp
          refine hK _ _ ⟨fun _ => I1, ?_⟩
          clear hK K
          try simp only [Act.put, List.setIfInBounds_toArray, List.set_cons_zero, List.set_cons_succ]
          refine J_done (by kernel_rfl) (OnlyOn.normal ?_)
          go_wp2
          go_ret2
          exact bt_no hx9.out (by decide)
        | true =>
          rcases Nat.eq_zero_or_pos k with rfl | hk0
          · have hst3 := hid (hst2.out hok (fun h => by omega))
            rw [show ka.add 0 = ka by unfold Addr.add; simp] at z0
            rw [show ra.add 0 = ra by unfold Addr.add; simp] at z1
            obtain ⟨x, hxx⟩ : ∃ x, x = tth L 0 := ⟨_, rfl⟩
            rw [← hxx] at z0 z1 hok
            have hE := hid (fun w' => isEntry_any x w')
            rw [show okT x = true from hok] at hE
            clear hok hxx hst2 hno1 hno2
            have hxb := (Ext.refl wr).alloc_right (.cells #[.string x.key, .int .i64 x.no] 71)
            have hb0 := heap_alloc_new wr (.cells #[.string x.key, .int .i64 x.no] 71)
            have zc0 : (wr.alloc (.cells #[.string x.key, .int .i64 x.no] 71)).cell? ⟨wr.heap.size, 0, none⟩ = some (.string x.key) := by rw [Lib.cell_of_heap hb0]; rfl
            have zc1 : (wr.alloc (.cells #[.string x.key, .int .i64 x.no] 71)).cell? ⟨wr.heap.size, 1, none⟩ = some (.int .i64 x.no) := by rw [Lib.cell_of_heap hb0]; rfl
            go_upto_region 7 with fail
            generalize wr.heap.size = b at *
            have I0 : (fun w' : World => w'.cell? ⟨b, 0, none⟩ = some (.string x.key) ∧ w'.cell? ⟨b, 1, none⟩ = some (.int .i64 x.no)) (wr.alloc (.cells #[.string x.key, .int .i64 x.no] 71)).drew := ⟨zc0, zc1⟩
            have hx9 := hid (hx.out.trans hxb.drew_right)
            refine region_J (fun w' : World => w'.cell? ⟨b, 0, none⟩ = some (.string x.key) ∧ w'.cell? ⟨b, 1, none⟩ = some (.int .i64 x.no)) 23 (by kernel_rfl) ?_
            clear z0 z1 zc0 zc1 hxb hb0
            generalize (wr.alloc (.cells #[.string x.key, .int .i64 x.no] 71)).drew = w9 at *
            refine J_takeO 0 (v := ?vp60) rfl (by kernel_rfl) (by kernel_rfl) (by kernel_rfl) (by kernel_rfl) (fun _ _ _ h => h) (Or.inl ⟨by rfl, ?yp60⟩) I0 ?rp60
            case yp60 => (intro w hSw; obtain ⟨_, _⟩ := hSw; (go_simp; with_reducible rfl))
            simp only [Act.put, List.getElem_toArray, List.getElem_cons_zero, List.getElem_cons_succ, List.setIfInBounds_toArray, List.set_cons_zero, List.set_cons_succ]
            refine J_one 1 rfl (by kernel_rfl) (fun K hK => ?_)
            go_simp
            refine (hE.out _).mono ?_
            rintro e' w8 ⟨rfl, hx8⟩
            have I1 : (fun w' : World => w'.cell? ⟨b, 0, none⟩ = some (.string x.key) ∧ w'.cell? ⟨b, 1, none⟩ = some (.int .i64 x.no)) w8 := ⟨hx8.cell I0.1, hx8.cell I0.2⟩
            replace hx9 := hid (hx9.out.trans hx8)
            clear I0 hx8
            refine hK _ _ ⟨fun _ => I1, ?_⟩
            clear hK K
            try simp only [Act.put, List.getElem_toArray, List.getElem_cons_zero, List.getElem_cons_succ, List.setIfInBounds_toArray, List.set_cons_zero, List.set_cons_succ]
            refine J_one 2 rfl (by kernel_rfl) (fun K hK => ?_)
            go_simp
            refine hK _ _ ⟨fun _ => I1, ?_⟩
            clear hK K
            try simp only [Act.put, List.setIfInBounds_toArray, List.set_cons_zero, List.set_cons_succ]
            refine J_one 3 rfl (by kernel_rfl) (fun K hK => ?_)
            go_simp
            refine hK _ _ ⟨fun _ => I1, ?_⟩
            clear hK K
            try simp only [Act.put, List.setIfInBounds_toArray, List.set_cons_zero, List.set_cons_succ]
            refine J_takeO 4 (v := ?vp64) rfl (by kernel_rfl) (by kernel_rfl) (by kernel_rfl) (by kernel_rfl) (fun _ _ _ h => h) (Or.inl ⟨by rfl, ?yp64⟩) I1 ?rp64
            case yp64 => (intro w hSw; obtain ⟨_, _⟩ := hSw; (go_simp; with_reducible rfl))
            simp only [Act.put, List.getElem_toArray, List.getElem_cons_zero, List.getElem_cons_succ, List.setIfInBounds_toArray, List.set_cons_zero, List.set_cons_succ]
            refine J_takeO 5 (v := ?vp65) rfl (by kernel_rfl) (by kernel_rfl) (by kernel_rfl) (by kernel_rfl) (fun _ _ _ h => h) (Or.inl ⟨by rfl, ?yp65⟩) I1 ?rp65
            case yp65 => (intro w hSw; obtain ⟨_, _⟩ := hSw; (go_simp; with_reducible rfl))
            simp only [Act.put, List.getElem_toArray, List.getElem_cons_zero, List.getElem_cons_succ, List.setIfInBounds_toArray, List.set_cons_zero, List.set_cons_succ]
            refine J_takeO 6 (v := ?vp66) rfl (by kernel_rfl) (by kernel_rfl) (by kernel_rfl) (by kernel_rfl) (fun _ _ _ h => h) (Or.inl ⟨by rfl, ?yp66⟩) I1 ?rp66
            case yp66 => (intro w hSw; obtain ⟨_, _⟩ := hSw; (go_simp; with_reducible rfl))
            simp only [Act.put, List.getElem_toArray, List.getElem_cons_zero, List.getElem_cons_succ, List.setIfInBounds_toArray, List.set_cons_zero, List.set_cons_succ]
            refine J_takeO 7 rfl (by kernel_rfl) (by kernel_rfl) (by kernel_rfl) (by kernel_rfl) (fun _ _ _ h => h) (Or.inr ⟨by rfl, rfl⟩) I1 ?_
            simp only [Act.put, List.getElem_toArray, List.getElem_cons_zero, List.getElem_cons_succ, List.setIfInBounds_toArray, List.set_cons_zero, List.set_cons_succ]
            refine J_takeO 8 rfl (by kernel_rfl) (by kernel_rfl) (by kernel_rfl) (by kernel_rfl) (fun _ _ _ h => h) (Or.inr ⟨by rfl, rfl⟩) I1 ?_
            simp only [Act.put, List.getElem_toArray, List.getElem_cons_zero, List.getElem_cons_succ, List.setIfInBounds_toArray, List.set_cons_zero, List.set_cons_succ]
            refine J_takeO 9 rfl (by kernel_rfl) (by kernel_rfl) (by kernel_rfl) (by kernel_rfl) (fun _ _ _ h => h) (Or.inr ⟨by rfl, rfl⟩) I1 ?_
            simp only [Act.put, List.getElem_toArray, List.getElem_cons_zero, List.getElem_cons_succ, List.setIfInBounds_toArray, List.set_cons_zero, List.set_cons_succ]
            refine J_takeO 10 rfl (by kernel_rfl) (by kernel_rfl) (by kernel_rfl) (by kernel_rfl) (fun _ _ _ h => h) (Or.inr ⟨by rfl, rfl⟩) I1 ?_
            simp only [Act.put, List.getElem_toArray, List.getElem_cons_zero, List.getElem_cons_succ, List.setIfInBounds_toArray, List.set_cons_zero, List.set_cons_succ]
            refine J_takeO 11 rfl (by kernel_rfl) (by kernel_rfl) (by kernel_rfl) (by kernel_rfl) (fun _ _ _ h => h) (Or.inr ⟨by rfl, rfl⟩) I1 ?_
            simp only [Act.put, List.getElem_toArray, List.getElem_cons_zero, List.getElem_cons_succ, List.setIfInBounds_toArray, List.set_cons_zero, List.set_cons_succ]
            refine J_takeO 12 rfl (by kernel_rfl) (by kernel_rfl) (by kernel_rfl) (by kernel_rfl) (fun _ _ _ h => h) (Or.inr ⟨by rfl, rfl⟩) I1 ?_
            simp only [Act.put, List.getElem_toArray, List.getElem_cons_zero, List.getElem_cons_succ, List.setIfInBounds_toArray, List.set_cons_zero, List.set_cons_succ]
            refine J_takeO 13 rfl (by kernel_rfl) (by kernel_rfl) (by kernel_rfl) (by kernel_rfl) (fun _ _ _ h => h) (Or.inr ⟨by rfl, rfl⟩) I1 ?_
            simp only [Act.put, List.getElem_toArray, List.getElem_cons_zero, List.getElem_cons_succ, List.setIfInBounds_toArray, List.set_cons_zero, List.set_cons_succ]
            refine J_takeO 14 rfl (by kernel_rfl) (by kernel_rfl) (by kernel_rfl) (by kernel_rfl) (fun _ _ _ h => h) (Or.inr ⟨by rfl, rfl⟩) I1 ?_
            simp only [Act.put, List.getElem_toArray, List.getElem_cons_zero, List.getElem_cons_succ, List.setIfInBounds_toArray, List.set_cons_zero, List.set_cons_succ]
            refine J_takeO 15 rfl (by kernel_rfl) (by kernel_rfl) (by kernel_rfl) (by kernel_rfl) (fun _ _ _ h => h) (Or.inr ⟨by rfl, rfl⟩) I1 ?_
            simp only [Act.put, List.getElem_toArray, List.getElem_cons_zero, List.getElem_cons_succ, List.setIfInBounds_toArray, List.set_cons_zero, List.set_cons_succ]
            refine J_takeO 16 rfl (by kernel_rfl) (by kernel_rfl) (by kernel_rfl) (by kernel_rfl) (fun _ _ _ h => h) (Or.inr ⟨by rfl, rfl⟩) I1 ?_
            simp only [Act.put, List.getElem_toArray, List.getElem_cons_zero, List.getElem_cons_succ, List.setIfInBounds_toArray, List.set_cons_zero, List.set_cons_succ]
            refine J_takeO 17 rfl (by kernel_rfl) (by kernel_rfl) (by kernel_rfl) (by kernel_rfl) (fun _ _ _ h => h) (Or.inr ⟨by rfl, rfl⟩) I1 ?_
            simp only [Act.put, List.getElem_toArray, List.getElem_cons_zero, List.getElem_cons_succ, List.setIfInBounds_toArray, List.set_cons_zero, List.set_cons_succ]
            refine J_takeO 18 rfl (by kernel_rfl) (by kernel_rfl) (by kernel_rfl) (by kernel_rfl) (fun _ _ _ h => h) (Or.inr ⟨by rfl, rfl⟩) I1 ?_
            simp only [Act.put, List.getElem_toArray, List.getElem_cons_zero, List.getElem_cons_succ, List.setIfInBounds_toArray, List.set_cons_zero, List.set_cons_succ]
            refine J_takeO 19 rfl (by kernel_rfl) (by kernel_rfl) (by kernel_rfl) (by kernel_rfl) (fun _ _ _ h => h) (Or.inr ⟨by rfl, rfl⟩) I1 ?_
            simp only [Act.put, List.getElem_toArray, List.getElem_cons_zero, List.getElem_cons_succ, List.setIfInBounds_toArray, List.set_cons_zero, List.set_cons_succ]
            refine J_takeO 20 rfl (by kernel_rfl) (by kernel_rfl) (by kernel_rfl) (by kernel_rfl) (fun _ _ _ h => h) (Or.inr ⟨by rfl, rfl⟩) I1 ?_
            simp only [Act.put, List.getElem_toArray, List.getElem_cons_zero, List.getElem_cons_succ, List.setIfInBounds_toArray, List.set_cons_zero, List.set_cons_succ]
            refine J_one 21 rfl (by kernel_rfl) (fun K hK => ?_)
            go_simp
            refine hK _ _ ⟨fun _ => I1, ?_⟩
            clear hK K
            try simp only [Act.put, List.setIfInBounds_toArray, List.set_cons_zero, List.set_cons_succ]
            refine J_one 22 rfl (by kernel_rfl) (fun K hK => ?_)
            go_simp
            refine hK _ _ ⟨fun _ => I1, ?_⟩
            clear hK K
            try simp only [Act.put, List.setIfInBounds_toArray, List.set_cons_zero, List.set_cons_succ]
            refine J_done (by kernel_rfl) (OnlyOn.normal ?_)
            go_wp2
            go_roundw
            case rel => exact ⟨0 + 1, by omega, by go_num, hst3, hx9⟩
            case measure => simp [intOf]; omega
          · obtain ⟨j, hj⟩ : ∃ j, j = k - 1 := ⟨_, rfl⟩
            rw [← hj] at hst2 hno2
            obtain ⟨ka', ra', e1, e2, z2, z3⟩ := hkey.out j (by omega) wr hx.out
            injection e1 with e1
            injection e2 with e2
            subst e1 e2
            have hji : (j : Int) < (n : Int) := by omega
            have hk2 : (0 : Int) < (k : Int) := by omega
            have hwj : IntKind.i64.wrap ((k : Int) - 1) = (j : Int) := by rw [show (k : Int) - 1 = j by omega]; exact IntWalk.i64_in _ (by omega)
            replace hj := hid hj
            by_cases hc : cmpT (tth L j) (tth L k) < 0
            · have hst3 := hid (hst2.out hok (fun _ => hc))
              have hcl := hid hc
              obtain ⟨x, hxx⟩ : ∃ x, x = tth L k := ⟨_, rfl⟩
              obtain ⟨y, hyy⟩ : ∃ y, y = tth L j := ⟨_, rfl⟩
              rw [← hxx] at z0 z1 hok hc
              rw [← hyy] at z2 z3 hc
              have hE := hid (fun w' => isEntry_any x w')
              rw [show okT x = true from hok] at hE
              have hF := hid (fun w' => compare_any y x w')
              have hge : ¬ 0 ≤ cmpT y x := by omega
              generalize cmpT y x = z at *
              clear hok hxx hyy hst2 hno1 hno2 hcl
              have hxb := (Ext.refl wr).alloc_right (.cells #[.string x.key, .int .i64 x.no] 71)
              have hb0 := heap_alloc_new wr (.cells #[.string x.key, .int .i64 x.no] 71)
              have zc0 : (wr.alloc (.cells #[.string x.key, .int .i64 x.no] 71)).cell? ⟨wr.heap.size, 0, none⟩ = some (.string x.key) := by rw [Lib.cell_of_heap hb0]; rfl
              have zc1 : (wr.alloc (.cells #[.string x.key, .int .i64 x.no] 71)).cell? ⟨wr.heap.size, 1, none⟩ = some (.int .i64 x.no) := by rw [Lib.cell_of_heap hb0]; rfl
              go_upto_region 7 with fail
              generalize wr.heap.size = b at *
              have I0 : (fun w' : World => w'.cell? ⟨b, 0, none⟩ = some (.string x.key) ∧ w'.cell? ⟨b, 1, none⟩ = some (.int .i64 x.no) ∧ w'.cell? (ka.add j) = some (.string y.key) ∧ w'.cell? (ra.add j) = some (.int .i64 y.no)) (wr.alloc (.cells #[.string x.key, .int .i64 x.no] 71)).drew := ⟨zc0, zc1, hxb.cell z2, hxb.cell z3⟩
              have hx9 := hid (hx.out.trans hxb.drew_right)
              refine region_J (fun w' : World => w'.cell? ⟨b, 0, none⟩ = some (.string x.key) ∧ w'.cell? ⟨b, 1, none⟩ = some (.int .i64 x.no) ∧ w'.cell? (ka.add j) = some (.string y.key) ∧ w'.cell? (ra.add j) = some (.int .i64 y.no)) 23 (by kernel_rfl) ?_
              clear z0 z1 zc0 zc1 hxb hb0 z2 z3
              generalize (wr.alloc (.cells #[.string x.key, .int .i64 x.no] 71)).drew = w9 at *
              refine J_takeO 0 (v := ?vp70) rfl (by kernel_rfl) (by kernel_rfl) (by kernel_rfl) (by kernel_rfl) (fun _ _ _ h => h) (Or.inl ⟨by rfl, ?yp70⟩) I0 ?rp70
              case yp70 => (intro w hSw; obtain ⟨_, _, _, _⟩ := hSw; (go_simp; with_reducible rfl))
              simp only [Act.put, List.getElem_toArray, List.getElem_cons_zero, List.getElem_cons_succ, List.setIfInBounds_toArray, List.set_cons_zero, List.set_cons_succ]
              refine J_one 1 rfl (by kernel_rfl) (fun K hK => ?_)
              go_simp
              refine (hE.out _).mono ?_
              rintro e' w8 ⟨rfl, hx8⟩
              have I1 : (fun w' : World => w'.cell? ⟨b, 0, none⟩ = some (.string x.key) ∧ w'.cell? ⟨b, 1, none⟩ = some (.int .i64 x.no) ∧ w'.cell? (ka.add j) = some (.string y.key) ∧ w'.cell? (ra.add j) = some (.int .i64 y.no)) w8 := ⟨hx8.cell I0.1, hx8.cell I0.2.1, hx8.cell I0.2.2.1, hx8.cell I0.2.2.2⟩
              replace hx9 := hid (hx9.out.trans hx8)
              clear I0 hx8
              refine hK _ _ ⟨fun _ => I1, ?_⟩
              clear hK K
              try simp only [Act.put, List.getElem_toArray, List.getElem_cons_zero, List.getElem_cons_succ, List.setIfInBounds_toArray, List.set_cons_zero, List.set_cons_succ]
              refine J_one 2 rfl (by kernel_rfl) (fun K hK => ?_)
              go_simp
              refine hK _ _ ⟨fun _ => I1, ?_⟩
              clear hK K
              try simp only [Act.put, List.setIfInBounds_toArray, List.set_cons_zero, List.set_cons_succ]
              refine J_one 3 rfl (by kernel_rfl) (fun K hK => ?_)
              go_simp
              refine hK _ _ ⟨fun _ => I1, ?_⟩
              clear hK K
              try simp only [Act.put, List.setIfInBounds_toArray, List.set_cons_zero, List.set_cons_succ]
              refine J_takeO 4 (v := ?vp74) rfl (by kernel_rfl) (by kernel_rfl) (by kernel_rfl) (by kernel_rfl) (fun _ _ _ h => h) (Or.inl ⟨by rfl, ?yp74⟩) I1 ?rp74
              case yp74 => (intro w hSw; obtain ⟨_, _, _, _⟩ := hSw; (go_simp; with_reducible rfl))
              simp only [Act.put, List.getElem_toArray, List.getElem_cons_zero, List.getElem_cons_succ, List.setIfInBounds_toArray, List.set_cons_zero, List.set_cons_succ]
              refine J_takeO 5 (v := ?vp75) rfl (by kernel_rfl) (by kernel_rfl) (by kernel_rfl) (by kernel_rfl) (fun _ _ _ h => h) (Or.inl ⟨by rfl, ?yp75⟩) I1 ?rp75
              case yp75 => (intro w hSw; obtain ⟨_, _, _, _⟩ := hSw; (go_simp; with_reducible rfl))
              simp only [Act.put, List.getElem_toArray, List.getElem_cons_zero, List.getElem_cons_succ, List.setIfInBounds_toArray, List.set_cons_zero, List.set_cons_succ]
              refine J_takeO 6 (v := ?vp76) rfl (by kernel_rfl) (by kernel_rfl) (by kernel_rfl) (by kernel_rfl) (fun _ _ _ h => h) (Or.inl ⟨by rfl, ?yp76⟩) I1 ?rp76
              case yp76 => (intro w hSw; obtain ⟨_, _, _, _⟩ := hSw; (go_simp; with_reducible rfl))
              simp only [Act.put, List.getElem_toArray, List.getElem_cons_zero, List.getElem_cons_succ, List.setIfInBounds_toArray, List.set_cons_zero, List.set_cons_succ]
              refine J_takeO 7 (v := ?vp77) rfl (by kernel_rfl) (by kernel_rfl) (by kernel_rfl) (by kernel_rfl) (fun _ _ _ h => h) (Or.inl ⟨by rfl, ?yp77⟩) I1 ?rp77
              case yp77 => (intro w hSw; obtain ⟨_, _, _, _⟩ := hSw; (go_simp; with_reducible rfl))
              simp only [Act.put, List.getElem_toArray, List.getElem_cons_zero, List.getElem_cons_succ, List.setIfInBounds_toArray, List.set_cons_zero, List.set_cons_succ]
              refine J_takeO 8 (v := ?vp78) rfl (by kernel_rfl) (by kernel_rfl) (by kernel_rfl) (by kernel_rfl) (fun _ _ _ h => h) (Or.inl ⟨by rfl, ?yp78⟩) I1 ?rp78
              case yp78 => (intro w hSw; obtain ⟨_, _, _, _⟩ := hSw; (go_simp; with_reducible rfl))
              simp only [Act.put, List.getElem_toArray, List.getElem_cons_zero, List.getElem_cons_succ, List.setIfInBounds_toArray, List.set_cons_zero, List.set_cons_succ]
              refine J_takeO 9 (v := ?vp79) rfl (by kernel_rfl) (by kernel_rfl) (by kernel_rfl) (by kernel_rfl) (fun _ _ _ h => h) (Or.inl ⟨by rfl, ?yp79⟩) I1 ?rp79
              case yp79 => (intro w hSw; obtain ⟨_, _, _, _⟩ := hSw; (go_simp; with_reducible rfl))
              simp only [Act.put, List.getElem_toArray, List.getElem_cons_zero, List.getElem_cons_succ, List.setIfInBounds_toArray, List.set_cons_zero, List.set_cons_succ]
              refine J_takeO 10 (v := ?vp710) rfl (by kernel_rfl) (by kernel_rfl) (by kernel_rfl) (by kernel_rfl) (fun _ _ _ h => h) (Or.inl ⟨by rfl, ?yp710⟩) I1 ?rp710
              case yp710 => (intro w hSw; obtain ⟨_, _, _, _⟩ := hSw; (go_simp; with_reducible rfl))
              simp only [Act.put, List.getElem_toArray, List.getElem_cons_zero, List.getElem_cons_succ, List.setIfInBounds_toArray, List.set_cons_zero, List.set_cons_succ]
              refine J_takeO 11 (v := ?vp711) rfl (by kernel_rfl) (by kernel_rfl) (by kernel_rfl) (by kernel_rfl) (fun _ _ _ h => h) (Or.inl ⟨by rfl, ?yp711⟩) I1 ?rp711
              case yp711 => (intro w hSw; obtain ⟨_, _, _, _⟩ := hSw; (go_simp; with_reducible rfl))
              simp only [Act.put, List.getElem_toArray, List.getElem_cons_zero, List.getElem_cons_succ, List.setIfInBounds_toArray, List.set_cons_zero, List.set_cons_succ]
              refine J_takeO 12 (v := ?vp712) rfl (by kernel_rfl) (by kernel_rfl) (by kernel_rfl) (by kernel_rfl) (fun _ _ _ h => h) (Or.inl ⟨by rfl, ?yp712⟩) I1 ?rp712
              case yp712 => (intro w hSw; obtain ⟨_, _, _, _⟩ := hSw; (go_simp; with_reducible rfl))
              simp only [Act.put, List.getElem_toArray, List.getElem_cons_zero, List.getElem_cons_succ, List.setIfInBounds_toArray, List.set_cons_zero, List.set_cons_succ]
              refine J_takeO 13 (v := ?vp713) rfl (by kernel_rfl) (by kernel_rfl) (by kernel_rfl) (by kernel_rfl) (fun _ _ _ h => h) (Or.inl ⟨by rfl, ?yp713⟩) I1 ?rp713
              case yp713 => (intro w hSw; obtain ⟨_, _, _, _⟩ := hSw; (go_simp; with_reducible rfl))
              simp only [Act.put, List.getElem_toArray, List.getElem_cons_zero, List.getElem_cons_succ, List.setIfInBounds_toArray, List.set_cons_zero, List.set_cons_succ]
              refine J_takeO 14 (v := ?vp714) rfl (by kernel_rfl) (by kernel_rfl) (by kernel_rfl) (by kernel_rfl) (fun _ _ _ h => h) (Or.inl ⟨by rfl, ?yp714⟩) I1 ?rp714
              case yp714 => (intro w hSw; obtain ⟨_, _, _, _⟩ := hSw; (go_simp; with_reducible rfl))
              simp only [Act.put, List.getElem_toArray, List.getElem_cons_zero, List.getElem_cons_succ, List.setIfInBounds_toArray, List.set_cons_zero, List.set_cons_succ]
              refine J_takeO 15 (v := ?vp715) rfl (by kernel_rfl) (by kernel_rfl) (by kernel_rfl) (by kernel_rfl) (fun _ _ _ h => h) (Or.inl ⟨by rfl, ?yp715⟩) I1 ?rp715
              case yp715 => (intro w hSw; obtain ⟨_, _, _, _⟩ := hSw; (go_simp; with_reducible rfl))
              simp only [Act.put, List.getElem_toArray, List.getElem_cons_zero, List.getElem_cons_succ, List.setIfInBounds_toArray, List.set_cons_zero, List.set_cons_succ]
              refine J_takeO 16 (v := ?vp716) rfl (by kernel_rfl) (by kernel_rfl) (by kernel_rfl) (by kernel_rfl) (fun _ _ _ h => h) (Or.inl ⟨by rfl, ?yp716⟩) I1 ?rp716
              case yp716 => (intro w hSw; obtain ⟨_, _, _, _⟩ := hSw; (go_simp; with_reducible rfl))
              simp only [Act.put, List.getElem_toArray, List.getElem_cons_zero, List.getElem_cons_succ, List.setIfInBounds_toArray, List.set_cons_zero, List.set_cons_succ]
              refine J_takeO 17 (v := ?vp717) rfl (by kernel_rfl) (by kernel_rfl) (by kernel_rfl) (by kernel_rfl) (fun _ _ _ h => h) (Or.inl ⟨by rfl, ?yp717⟩) I1 ?rp717
              case yp717 => (intro w hSw; obtain ⟨_, _, _, _⟩ := hSw; (go_simp; with_reducible rfl))
              simp only [Act.put, List.getElem_toArray, List.getElem_cons_zero, List.getElem_cons_succ, List.setIfInBounds_toArray, List.set_cons_zero, List.set_cons_succ]
              refine J_takeO 18 (v := ?vp718) rfl (by kernel_rfl) (by kernel_rfl) (by kernel_rfl) (by kernel_rfl) (fun _ _ _ h => h) (Or.inl ⟨by rfl, ?yp718⟩) I1 ?rp718
              case yp718 => (intro w hSw; obtain ⟨_, _, _, _⟩ := hSw; (go_simp; with_reducible rfl))
              simp only [Act.put, List.getElem_toArray, List.getElem_cons_zero, List.getElem_cons_succ, List.setIfInBounds_toArray, List.set_cons_zero, List.set_cons_succ]
              refine J_one 19 rfl (by kernel_rfl) (fun K hK => ?_)
              go_simp
              refine (hF.out _).mono ?_
              rintro e' w10 ⟨rfl, hx8⟩
              have I2 : (fun w' : World => w'.cell? ⟨b, 0, none⟩ = some (.string x.key) ∧ w'.cell? ⟨b, 1, none⟩ = some (.int .i64 x.no) ∧ w'.cell? (ka.add j) = some (.string y.key) ∧ w'.cell? (ra.add j) = some (.int .i64 y.no)) w10 := ⟨hx8.cell I1.1, hx8.cell I1.2.1, hx8.cell I1.2.2.1, hx8.cell I1.2.2.2⟩
              replace hx9 := hid (hx9.out.trans hx8)
              clear I1 hx8
              refine hK _ _ ⟨fun _ => I2, ?_⟩
              clear hK K
              try simp only [Act.put, List.getElem_toArray, List.getElem_cons_zero, List.getElem_cons_succ, List.setIfInBounds_toArray, List.set_cons_zero, List.set_cons_succ]
              refine J_one 20 rfl (by kernel_rfl) (fun K hK => ?_)
              go_simp
              refine hK _ _ ⟨fun _ => I2, ?_⟩
              clear hK K
              try simp only [Act.put, List.setIfInBounds_toArray, List.set_cons_zero, List.set_cons_succ]
              refine J_one 21 rfl (by kernel_rfl) (fun K hK => ?_)
              go_simp
              refine hK _ _ ⟨fun _ => I2, ?_⟩
              clear hK K
              try simp only [Act.put, List.setIfInBounds_toArray, List.set_cons_zero, List.set_cons_succ]
              refine J_one 22 rfl (by kernel_rfl) (fun K hK => ?_)
              go_simp
              refine hK _ _ ⟨fun _ => I2, ?_⟩
              clear hK K
              try simp only [Act.put, List.setIfInBounds_toArray, List.set_cons_zero, List.set_cons_succ]
              refine J_done (by kernel_rfl) (OnlyOn.normal ?_)
              go_wp2
              go_roundw
              case rel => exact ⟨k + 1, by omega, by go_num, hst3, hx9⟩
              case measure => simp [intOf]; omega
            · have hEE := hno2.out hk0 hc
              subst hEE
              obtain ⟨x, hxx⟩ : ∃ x, x = tth L k := ⟨_, rfl⟩
              obtain ⟨y, hyy⟩ : ∃ y, y = tth L j := ⟨_, rfl⟩
              rw [← hxx] at z0 z1 hok hc
              rw [← hyy] at z2 z3 hc
              have hE := hid (fun w' => isEntry_any x w')
              rw [show okT x = true from hok] at hE
              have hF := hid (fun w' => compare_any y x w')
              have hge : 0 ≤ cmpT y x := by omega
              generalize cmpT y x = z at *
              clear hok hxx hyy hst2 hno1 hno2
              have hxb := (Ext.refl wr).alloc_right (.cells #[.string x.key, .int .i64 x.no] 71)
              have hb0 := heap_alloc_new wr (.cells #[.string x.key, .int .i64 x.no] 71)
              have zc0 : (wr.alloc (.cells #[.string x.key, .int .i64 x.no] 71)).cell? ⟨wr.heap.size, 0, none⟩ = some (.string x.key) := by rw [Lib.cell_of_heap hb0]; rfl
              have zc1 : (wr.alloc (.cells #[.string x.key, .int .i64 x.no] 71)).cell? ⟨wr.heap.size, 1, none⟩ = some (.int .i64 x.no) := by rw [Lib.cell_of_heap hb0]; rfl
              go_upto_region 7 with fail
              generalize wr.heap.size = b at *
              have I0 : (fun w' : World => w'.cell? ⟨b, 0, none⟩ = some (.string x.key) ∧ w'.cell? ⟨b, 1, none⟩ = some (.int .i64 x.no) ∧ w'.cell? (ka.add j) = some (.string y.key) ∧ w'.cell? (ra.add j) = some (.int .i64 y.no)) (wr.alloc (.cells #[.string x.key, .int .i64 x.no] 71)).drew := ⟨zc0, zc1, hxb.cell z2, hxb.cell z3⟩
              have hx9 := hid (hx.out.trans hxb.drew_right)
              refine region_J (fun w' : World => w'.cell? ⟨b, 0, none⟩ = some (.string x.key) ∧ w'.cell? ⟨b, 1, none⟩ = some (.int .i64 x.no) ∧ w'.cell? (ka.add j) = some (.string y.key) ∧ w'.cell? (ra.add j) = some (.int .i64 y.no)) 23 (by kernel_rfl) ?_
              clear z0 z1 zc0 zc1 hxb hb0 z2 z3
              generalize (wr.alloc (.cells #[.string x.key, .int .i64 x.no] 71)).drew = w9 at *
              refine J_takeO 0 (v := ?vp80) rfl (by kernel_rfl) (by kernel_rfl) (by kernel_rfl) (by kernel_rfl) (fun _ _ _ h => h) (Or.inl ⟨by rfl, ?yp80⟩) I0 ?rp80
              case yp80 => (intro w hSw; obtain ⟨_, _, _, _⟩ := hSw; (go_simp; with_reducible rfl))
              simp only [Act.put, List.getElem_toArray, List.getElem_cons_zero, List.getElem_cons_succ, List.setIfInBounds_toArray, List.set_cons_zero, List.set_cons_succ]
              refine J_one 1 rfl (by kernel_rfl) (fun K hK => ?_)
              go_simp
              refine (hE.out _).mono ?_
              rintro e' w8 ⟨rfl, hx8⟩
              have I1 : (fun w' : World => w'.cell? ⟨b, 0, none⟩ = some (.string x.key) ∧ w'.cell? ⟨b, 1, none⟩ = some (.int .i64 x.no) ∧ w'.cell? (ka.add j) = some (.string y.key) ∧ w'.cell? (ra.add j) = some (.int .i64 y.no)) w8 := ⟨hx8.cell I0.1, hx8.cell I0.2.1, hx8.cell I0.2.2.1, hx8.cell I0.2.2.2⟩
              replace hx9 := hid (hx9.out.trans hx8)
              clear I0 hx8
              refine hK _ _ ⟨fun _ => I1, ?_⟩
              clear hK K
              try simp only [Act.put, List.getElem_toArray, List.getElem_cons_zero, List.getElem_cons_succ, List.setIfInBounds_toArray, List.set_cons_zero, List.set_cons_succ]
              refine J_one 2 rfl (by kernel_rfl) (fun K hK => ?_)
              go_simp
              refine hK _ _ ⟨fun _ => I1, ?_⟩
              clear hK K
              try simp only [Act.put, List.setIfInBounds_toArray, List.set_cons_zero, List.set_cons_succ]
              refine J_one 3 rfl (by kernel_rfl) (fun K hK => ?_)
              go_simp
              refine hK _ _ ⟨fun _ => I1, ?_⟩
              clear hK K
              try simp only [Act.put, List.setIfInBounds_toArray, List.set_cons_zero, List.set_cons_succ]
              refine J_takeO 4 (v := ?vp84) rfl (by kernel_rfl) (by kernel_rfl) (by kernel_rfl) (by kernel_rfl) (fun _ _ _ h => h) (Or.inl ⟨by rfl, ?yp84⟩) I1 ?rp84
              case yp84 => (intro w hSw; obtain ⟨_, _, _, _⟩ := hSw; (go_simp; with_reducible rfl))
              simp only [Act.put, List.getElem_toArray, List.getElem_cons_zero, List.getElem_cons_succ, List.setIfInBounds_toArray, List.set_cons_zero, List.set_cons_succ]
              refine J_takeO 5 (v := ?vp85) rfl (by kernel_rfl) (by kernel_rfl) (by kernel_rfl) (by kernel_rfl) (fun _ _ _ h => h) (Or.inl ⟨by rfl, ?yp85⟩) I1 ?rp85
              case yp85 => (intro w hSw; obtain ⟨_, _, _, _⟩ := hSw; (go_simp; with_reducible rfl))
              simp only [Act.put, List.getElem_toArray, List.getElem_cons_zero, List.getElem_cons_succ, List.setIfInBounds_toArray, List.set_cons_zero, List.set_cons_succ]
              refine J_takeO 6 (v := ?vp86) rfl (by kernel_rfl) (by kernel_rfl) (by kernel_rfl) (by kernel_rfl) (fun _ _ _ h => h) (Or.inl ⟨by rfl, ?yp86⟩) I1 ?rp86
              case yp86 => (intro w hSw; obtain ⟨_, _, _, _⟩ := hSw; (go_simp; with_reducible rfl))
              simp only [Act.put, List.getElem_toArray, List.getElem_cons_zero, List.getElem_cons_succ, List.setIfInBounds_toArray, List.set_cons_zero, List.set_cons_succ]
              refine J_takeO 7 (v := ?vp87) rfl (by kernel_rfl) (by kernel_rfl) (by kernel_rfl) (by kernel_rfl) (fun _ _ _ h => h) (Or.inl ⟨by rfl, ?yp87⟩) I1 ?rp87
              case yp87 => (intro w hSw; obtain ⟨_, _, _, _⟩ := hSw; (go_simp; with_reducible rfl))
              simp only [Act.put, List.getElem_toArray, List.getElem_cons_zero, List.getElem_cons_succ, List.setIfInBounds_toArray, List.set_cons_zero, List.set_cons_succ]
              refine J_takeO 8 (v := ?vp88) rfl (by kernel_rfl) (by kernel_rfl) (by kernel_rfl) (by kernel_rfl) (fun _ _ _ h => h) (Or.inl ⟨by rfl, ?yp88⟩) I1 ?rp88
              case yp88 => (intro w hSw; obtain ⟨_, _, _, _⟩ := hSw; (go_simp; with_reducible rfl))
              simp only [Act.put, List.getElem_toArray, List.getElem_cons_zero, List.getElem_cons_succ, List.setIfInBounds_toArray, List.set_cons_zero, List.set_cons_succ]
              refine J_takeO 9 (v := ?vp89) rfl (by kernel_rfl) (by kernel_rfl) (by kernel_rfl) (by kernel_rfl) (fun _ _ _ h => h) (Or.inl ⟨by rfl, ?yp89⟩) I1 ?rp89
              case yp89 => (intro w hSw; obtain ⟨_, _, _, _⟩ := hSw; (go_simp; with_reducible rfl))
              simp only [Act.put, List.getElem_toArray, List.getElem_cons_zero, List.getElem_cons_succ, List.setIfInBounds_toArray, List.set_cons_zero, List.set_cons_succ]
              refine J_takeO 10 (v := ?vp810) rfl (by kernel_rfl) (by kernel_rfl) (by kernel_rfl) (by kernel_rfl) (fun _ _ _ h => h) (Or.inl ⟨by rfl, ?yp810⟩) I1 ?rp810
              case yp810 => (intro w hSw; obtain ⟨_, _, _, _⟩ := hSw; (go_simp; with_reducible rfl))
              simp only [Act.put, List.getElem_toArray, List.getElem_cons_zero, List.getElem_cons_succ, List.setIfInBounds_toArray, List.set_cons_zero, List.set_cons_succ]
              refine J_takeO 11 (v := ?vp811) rfl (by kernel_rfl) (by kernel_rfl) (by kernel_rfl) (by kernel_rfl) (fun _ _ _ h => h) (Or.inl ⟨by rfl, ?yp811⟩) I1 ?rp811
              case yp811 => (intro w hSw; obtain ⟨_, _, _, _⟩ := hSw; (go_simp; with_reducible rfl))
              simp only [Act.put, List.getElem_toArray, List.getElem_cons_zero, List.getElem_cons_succ, List.setIfInBounds_toArray, List.set_cons_zero, List.set_cons_succ]
              refine J_takeO 12 (v := ?vp812) rfl (by kernel_rfl) (by kernel_rfl) (by kernel_rfl) (by kernel_rfl) (fun _ _ _ h => h) (Or.inl ⟨by rfl, ?yp812⟩) I1 ?rp812
              case yp812 => (intro w hSw; obtain ⟨_, _, _, _⟩ := hSw; (go_simp; with_reducible rfl))
              simp only [Act.put, List.getElem_toArray, List.getElem_cons_zero, List.getElem_cons_succ, List.setIfInBounds_toArray, List.set_cons_zero, List.set_cons_succ]
              refine J_takeO 13 (v := ?vp813) rfl (by kernel_rfl) (by kernel_rfl) (by kernel_rfl) (by kernel_rfl) (fun _ _ _ h => h) (Or.inl ⟨by rfl, ?yp813⟩) I1 ?rp813
              case yp813 => (intro w hSw; obtain ⟨_, _, _, _⟩ := hSw; (go_simp; with_reducible rfl))
              simp only [Act.put, List.getElem_toArray, List.getElem_cons_zero, List.getElem_cons_succ, List.setIfInBounds_toArray, List.set_cons_zero, List.set_cons_succ]
              refine J_takeO 14 (v := ?vp814) rfl (by kernel_rfl) (by kernel_rfl) (by kernel_rfl) (by kernel_rfl) (fun _ _ _ h => h) (Or.inl ⟨by rfl, ?yp814⟩) I1 ?rp814
              case yp814 => (intro w hSw; obtain ⟨_, _, _, _⟩ := hSw; (go_simp; with_reducible rfl))
              simp only [Act.put, List.getElem_toArray, List.getElem_cons_zero, List.getElem_cons_succ, List.setIfInBounds_toArray, List.set_cons_zero, List.set_cons_succ]
              refine J_takeO 15 (v := ?vp815) rfl (by kernel_rfl) (by kernel_rfl) (by kernel_rfl) (by kernel_rfl) (fun _ _ _ h => h) (Or.inl ⟨by rfl, ?yp815⟩) I1 ?rp815
              case yp815 => (intro w hSw; obtain ⟨_, _, _, _⟩ := hSw; (go_simp; with_reducible rfl))
              simp only [Act.put, List.getElem_toArray, List.getElem_cons_zero, List.getElem_cons_succ, List.setIfInBounds_toArray, List.set_cons_zero, List.set_cons_succ]
              refine J_takeO 16 (v := ?vp816) rfl (by kernel_rfl) (by kernel_rfl) (by kernel_rfl) (by kernel_rfl) (fun _ _ _ h => h) (Or.inl ⟨by rfl, ?yp816⟩) I1 ?rp816
              case yp816 => (intro w hSw; obtain ⟨_, _, _, _⟩ := hSw; (go_simp; with_reducible rfl))
              simp only [Act.put, List.getElem_toArray, List.getElem_cons_zero, List.getElem_cons_succ, List.setIfInBounds_toArray, List.set_cons_zero, List.set_cons_succ]
              refine J_takeO 17 (v := ?vp817) rfl (by kernel_rfl) (by kernel_rfl) (by kernel_rfl) (by kernel_rfl) (fun _ _ _ h => h) (Or.inl ⟨by rfl, ?yp817⟩) I1 ?rp817
              case yp817 => (intro w hSw; obtain ⟨_, _, _, _⟩ := hSw; (go_simp; with_reducible rfl))
              simp only [Act.put, List.getElem_toArray, List.getElem_cons_zero, List.getElem_cons_succ, List.setIfInBounds_toArray, List.set_cons_zero, List.set_cons_succ]
              refine J_takeO 18 (v := ?vp818) rfl (by kernel_rfl) (by kernel_rfl) (by kernel_rfl) (by kernel_rfl) (fun _ _ _ h => h) (Or.inl ⟨by rfl, ?yp818⟩) I1 ?rp818
              case yp818 => (intro w hSw; obtain ⟨_, _, _, _⟩ := hSw; (go_simp; with_reducible rfl))
              simp only [Act.put, List.getElem_toArray, List.getElem_cons_zero, List.getElem_cons_succ, List.setIfInBounds_toArray, List.set_cons_zero, List.set_cons_succ]
              refine J_one 19 rfl (by kernel_rfl) (fun K hK => ?_)
              go_simp
              refine (hF.out _).mono ?_
              rintro e' w10 ⟨rfl, hx8⟩
              have I2 : (fun w' : World => w'.cell? ⟨b, 0, none⟩ = some (.string x.key) ∧ w'.cell? ⟨b, 1, none⟩ = some (.int .i64 x.no) ∧ w'.cell? (ka.add j) = some (.string y.key) ∧ w'.cell? (ra.add j) = some (.int .i64 y.no)) w10 := ⟨hx8.cell I1.1, hx8.cell I1.2.1, hx8.cell I1.2.2.1, hx8.cell I1.2.2.2⟩
              replace hx9 := hid (hx9.out.trans hx8)
              clear I1 hx8
              refine hK _ _ ⟨fun _ => I2, ?_⟩
              clear hK K
              try simp only [Act.put, List.getElem_toArray, List.getElem_cons_zero, List.getElem_cons_succ, List.setIfInBounds_toArray, List.set_cons_zero, List.set_cons_succ]
              refine J_one 20 rfl (by kernel_rfl) (fun K hK => ?_)
              go_simp
              refine hK _ _ ⟨fun _ => I2, ?_⟩
              clear hK K
              try simp only [Act.put, List.setIfInBounds_toArray, List.set_cons_zero, List.set_cons_succ]
              refine J_one 21 rfl (by kernel_rfl) (fun K hK => ?_)
              go_simp
              refine hK _ _ ⟨fun _ => I2, ?_⟩
              clear hK K
              try simp only [Act.put, List.setIfInBounds_toArray, List.set_cons_zero, List.set_cons_succ]
              refine J_one 22 rfl (by kernel_rfl) (fun K hK => ?_)
              go_simp
              refine hK _ _ ⟨fun _ => I2, ?_⟩
              clear hK K
              try simp only [Act.put, List.setIfInBounds_toArray, List.set_cons_zero, List.set_cons_succ]
              refine J_done (by kernel_rfl) (OnlyOn.normal ?_)
              go_wp2
              go_ret2
              exact bt_no hx9.out (by decide)
      · obtain rfl : n = k := by omega
        have hasc : Hid (ascP L) := ⟨fun x hx => by
          obtain ⟨j, hj, rfl⟩ := List.mem_iff_getElem.1 hx
          rw [← tth_get hj]
          exact (hst.out j (by rw [← hll.out]; exact hj)).1, srt_steps.2 (fun i hi => by
          have := (hst.out (i + 1) (by rw [← hll.out]; exact hi)).2 (by omega)
          exact this)⟩
        clear hst
        by_cases hbig : 1200 < n
        · have hEE := hE3.out hasc.out hbig
          subst hEE
          have hb2 : (1200 : Int) < (n : Int) := by omega
          go_wp2
          go_ret2
          exact bt_no hx.out (by decide)
        · have hEE := hE0.out hasc.out (by omega)
          subst hEE
          have hb2 : ¬ (1200 : Int) < (n : Int) := by omega
          have hn12 : n ≤ 1200 := by omega
          clear hbig hE0 hE1 hE3
          have hN := hid (New_TA w wr hx.out)
          clear hx
          go_wp2_with fail
          refine hN.out.mono ?_
          rintro e w1 ⟨t, rfl, hT, -⟩
          replace hT : Hid (TA w w1 t (L.take 0)) := by rw [List.take_zero]; exact hT
          clear hN
          go_wp2_with fail
          go_loopw [60] (fun i wr => ∃ k : Nat, k ≤ n ∧ i = .int .i64 k ∧ Hid (TA w wr t (L.take k))) (fun i _ => n - (intOf i).toNat)
          case atStart => exact ⟨0, by omega, rfl, hT⟩
          case round =>
            clear hT
            obtain ⟨k, hk, rfl, hT⟩ := hrel
            by_cases hlt : k < n
            · obtain ⟨ka, ra, rfl, rfl, z0, z1⟩ := hkey.out k hlt wr hT.out.2.1
              have hki : (k : Int) < (n : Int) := by omega
              obtain ⟨q1, q2⟩ := put_asc hasc.out (by rw [hll.out]; exact hn12) (show k < L.length by rw [hll.out]; exact hlt)
              have hP := hid (tput_TA hT.out (tth L k))
              rw [q1, q2] at hP
              clear q1 q2 hT
              generalize tth L k = x at *
              go_wp2_with fail
              refine hP.out.mono ?_
              rintro e w2 ⟨rfl, hT2⟩
              replace hT2 := hid hT2
              clear hP z0 z1
              go_wp2_with fail
              go_roundw
              case rel => exact ⟨k + 1, by omega, by go_num, hT2⟩
              case measure => simp [intOf]; omega
            · obtain rfl : n = k := by omega
              have hT3 : Hid (TA w wr t L) := by have h9 := hT.out; rw [List.take_of_length_le (by rw [hll.out]; exact Nat.le_refl _)] at h9; exact h9
              clear hT
              go_wp2
              go_ret2
              exact bt_yes hT3.out
  · have hE : Hid (bldE ks rs = 10) := by unfold Hid bldE; rw [if_pos (by omega)]
    rw [hE.out]
    have h1 : ((n : Int) != (m : Int)) = true := by simpa using (by omega : ¬ (n : Int) = m)
    clear hE
    replace ha := hid ha
    replace hb := hid hb
    clear hkn hrn
    go_enter Try.func11, Try.ntmps11
    go_wp2
    go_ret2
    exact bt_no (Ext.refl _) (by decide)
end Go.Proofs.Ytpijfiaecicpfaa
