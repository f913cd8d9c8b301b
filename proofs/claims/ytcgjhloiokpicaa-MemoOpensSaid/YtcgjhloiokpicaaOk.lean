/-
  Open of the reference.
-/
import Derived.Test.YtcgjhloiokpicaaOj
namespace Go.Proofs.Ytcgjhloiokpicaa
open Go.RowKit Go.Shelf
set_option linter.unusedVariables false
set_option linter.unusedSimpArgs false
theorem put3 {w : World} {b : Nat} (t : There w b 3) (v0 v1 v2 : Value) :
    (((w.setCell ⟨b, 0, none⟩ v0).setCell ⟨b, 1, none⟩ v1).setCell ⟨b, 2, none⟩ v2).cell? ⟨b, 0, none⟩ = some v0 ∧
    (((w.setCell ⟨b, 0, none⟩ v0).setCell ⟨b, 1, none⟩ v1).setCell ⟨b, 2, none⟩ v2).cell? ⟨b, 1, none⟩ = some v1 ∧
    (((w.setCell ⟨b, 0, none⟩ v0).setCell ⟨b, 1, none⟩ v1).setCell ⟨b, 2, none⟩ v2).cell? ⟨b, 2, none⟩ = some v2 :=
  ⟨set_keep (set_keep (set_get (t.cell (o := 0) (by omega))) (off_ne (by decide))) (off_ne (by decide)),
   set_keep (set_get ((t.set _ _).cell (o := 1) (by omega))) (off_ne (by decide)),
   set_get (((t.set _ _).set _ _).cell (o := 2) (by omega))⟩
theorem RA.putH {w : World} {r : Nat} {size : Int} {v v' : Value} {l' : List En} (h1 : w.heap[r]? = some (.cells #[.int .i64 size, v] 85 (0, 0))) (ho : w.ownsRow 0 87 3 v' l'.length (rents l')) (hne : v'.ownBlock ≠ some r) : RA (w.setCell ⟨r, 1, none⟩ v') r size v' l' :=
  ⟨by simp [World.setCell, Array.getElem?_modify, h1], own_set ho hne 1 _, hne⟩
theorem RA.other {w : World} {r b : Nat} {size : Int} {v : Value} {l : List En} (h : RA w r size v l) (hb : b ≠ r) (hv : v.ownBlock ≠ some b) (i : Nat) (u : Value) : RA (w.setCell ⟨b, i, none⟩ u) r size v l :=
  ⟨by simpa [World.setCell, Array.getElem?_modify, hb] using h.1, own_set h.2.1 hv i u, h.2.2⟩
theorem num2 {L : List Int} (h : 6 ≤ L.length) : num L 4 2 = nth L 4 + nth L 5 * 256 := by
  have e : ∀ k, nth (L.drop 4) k = nth L (4 + k) := fun k => by unfold nth; simp [List.getD, List.getElem?_drop]
  have hl : (L.drop 4).length = L.length - 4 := List.length_drop
  unfold num
  rw [leV_take (l := L.drop 4) (k := 1) (by omega), leV_take (l := L.drop 4) (k := 0) (by omega), e 0, e 1]
  simp [leV]
/-- The reference's number, of a slice from a place on. -/
theorem rnum_at (w : World) (ad : Addr) (n c : Nat) (L : List Int) (h : RdB w (some ad) n c L) (i : Nat) (hi : i + 4 ≤ n) : Calls Try.prog 39 #[.slice (some (ad.add i)) (n - i) (c - i)] w fun e w' => e = .returned (.int .i64 (num L i 4)) ∧ Dr w w' := by
  have e : num (cut L i (n - i)) 0 4 = num L i 4 := congrArg leV (cut_cut L (by omega))
  rw [← e]
  exact rnumber_any w _ _ _ _ (h.ata (by omega)) (by omega)
set_option maxRecDepth 100000 in
set_option maxHeartbeats 4000000 in
theorem rOpen_rp (A : Option Addr) (n c : Nat) (L : List Int) (w : World) (h : RdB w A n c L) (RP : Ending → World → Prop)
    (hNo : ∀ w', Ext w w' → NoFile L → RP (.returned (.tuple #[.pointer none, .int .i64 11])) w')
    (hYes : ∀ w' size l g v, Ext w w' → Opens L size l → (∀ size' l', Opens L size' l' → size' = size ∧ l' = l) → RA w' g size v l → w.heap.size ≤ g → (∀ k, v.ownBlock = some k → w.heap.size ≤ k) → RP (.returned (.tuple #[.pointer (some ⟨g, 0, none⟩), .int .i64 0])) w') :
    Calls Try.prog 13 #[.slice A n c] w RP := by
  have hlen := h.len
  have hmx := Rd.max h.1
  replace hNo := hid hNo
  replace hYes := hid hYes
  by_cases h16 : n < 16
  · have hnf := hid (op_small (L := L) (by omega))
    have d : (n : Int) < 16 := by omega
    clear h
    go_enter Try.func13, Try.ntmps13
    go_wp2
    exact hNo.out _ (Ext.refl _) hnf.out
  · obtain ⟨ad, rfl, c4⟩ := h.at_ (k := 4) (by omega)
    have d : ¬ (n : Int) < 16 := by omega
    obtain ⟨_, e5, c5⟩ := h.at_ (k := 5) (by omega)
    obtain rfl := Option.some.inj e5
    clear e5
    replace c4 := cell_k c4 (by omega)
    replace c5 := cell_k c5 (by omega)
    have hN4 := hid (rnumber_any w.drew (some ad) n c L (h.ext (Ext.refl _).drew_right) (by omega))
    have rN := num_rng h.2 0
    have b4r := nth_isB h.2 4
    have b5r := nth_isB h.2 5
    have hz2 := num2 (L := L) (by omega)
    have hhd := hid (fun h => op_head (L := L) h)
    replace hlen := hid hlen
    replace h := hid h
    generalize hn : num L 0 4 = N at *
    generalize nth L 4 = b4 at *
    generalize nth L 5 = b5 at *
    rw [hz2] at hhd
    generalize hzz : b4 + b5 * 256 = size at *
    replace hn := hid hn
    have hz : Hid (num L 4 2 = size) := hz2
    clear hz2
    have rS : 0 ≤ size ∧ size < 65536 := by omega
    have q1 : IntKind.i64.wrap (b5 * 256) = b5 * 256 := IntWalk.i64_in _ (by omega)
    have q2 : IntKind.i64.wrap (b4 + b5 * 256) = size := by rw [IntWalk.i64_in _ (by omega), hzz]
    have q3 : IntKind.i64.wrap b4 = b4 := IntWalk.i64_in _ (by omega)
    have q4 : IntKind.i64.wrap b5 = b5 := IntWalk.i64_in _ (by omega)
    have u4 : (4 : Int) < (n : Int) := by omega
    have u5 : (5 : Int) < (n : Int) := by omega
    replace hzz := hid hzz
    go_enter Try.func13, Try.ntmps13
    go_upto_region 3 with fail
    have hx0 : Hid (Ext w w.drew) := (Ext.refl _).drew_right
    have I0 : (fun w' : World => w'.cell? ⟨ad.block, ad.off + 4, none⟩ = some (.int .u8 b4) ∧ w'.cell? ⟨ad.block, ad.off + 5, none⟩ = some (.int .u8 b5)) w.drew := ⟨c4, c5⟩
    refine region_J (fun w' => w'.cell? ⟨ad.block, ad.off + 4, none⟩ = some (.int .u8 b4) ∧ w'.cell? ⟨ad.block, ad.off + 5, none⟩ = some (.int .u8 b5)) 14 (by kernel_rfl) ?_
    clear c4 c5
    generalize w.drew = w0 at *
    refine J_takeO 0 (v := ?va0) rfl (by kernel_rfl) (by kernel_rfl) (by kernel_rfl) (by kernel_rfl) (fun _ _ _ h => h) (Or.inl ⟨by rfl, ?ya0⟩) I0 ?ra0
    case ya0 => (intro w hSw; obtain ⟨_, _⟩ := hSw; (go_simp; with_reducible rfl))
    simp only [Act.put, List.getElem_toArray, List.getElem_cons_zero, List.getElem_cons_succ, List.setIfInBounds_toArray, List.set_cons_zero, List.set_cons_succ]
    refine J_takeO 2 (v := ?va2) rfl (by kernel_rfl) (by kernel_rfl) (by kernel_rfl) (by kernel_rfl) (fun _ _ _ h => h) (Or.inl ⟨by rfl, ?ya2⟩) I0 ?ra2
    case ya2 => (intro w hSw; obtain ⟨_, _⟩ := hSw; (go_simp; with_reducible rfl))
    simp only [Act.put, List.getElem_toArray, List.getElem_cons_zero, List.getElem_cons_succ, List.setIfInBounds_toArray, List.set_cons_zero, List.set_cons_succ]
    refine J_takeO 3 (v := ?va3) rfl (by kernel_rfl) (by kernel_rfl) (by kernel_rfl) (by kernel_rfl) (fun _ _ _ h => h) (Or.inl ⟨by rfl, ?ya3⟩) I0 ?ra3
    case ya3 => (intro w hSw; obtain ⟨_, _⟩ := hSw; (go_simp; with_reducible rfl))
    simp only [Act.put, List.getElem_toArray, List.getElem_cons_zero, List.getElem_cons_succ, List.setIfInBounds_toArray, List.set_cons_zero, List.set_cons_succ]
    refine J_takeO 4 (v := ?va4) rfl (by kernel_rfl) (by kernel_rfl) (by kernel_rfl) (by kernel_rfl) (fun _ _ _ h => h) (Or.inl ⟨by rfl, ?ya4⟩) I0 ?ra4
    case ya4 => (intro w hSw; obtain ⟨_, _⟩ := hSw; (go_simp; with_reducible rfl))
    simp only [Act.put, List.getElem_toArray, List.getElem_cons_zero, List.getElem_cons_succ, List.setIfInBounds_toArray, List.set_cons_zero, List.set_cons_succ]
    refine J_takeO 5 (v := ?va5) rfl (by kernel_rfl) (by kernel_rfl) (by kernel_rfl) (by kernel_rfl) (fun _ _ _ h => h) (Or.inl ⟨by rfl, ?ya5⟩) I0 ?ra5
    case ya5 => (intro w hSw; obtain ⟨_, _⟩ := hSw; (go_simp; with_reducible rfl))
    simp only [Act.put, List.getElem_toArray, List.getElem_cons_zero, List.getElem_cons_succ, List.setIfInBounds_toArray, List.set_cons_zero, List.set_cons_succ]
    refine J_takeO 6 (v := ?va6) rfl (by kernel_rfl) (by kernel_rfl) (by kernel_rfl) (by kernel_rfl) (fun _ _ _ h => h) (Or.inl ⟨by rfl, ?ya6⟩) I0 ?ra6
    case ya6 => (intro w hSw; obtain ⟨_, _⟩ := hSw; (go_simp; with_reducible rfl))
    simp only [Act.put, List.getElem_toArray, List.getElem_cons_zero, List.getElem_cons_succ, List.setIfInBounds_toArray, List.set_cons_zero, List.set_cons_succ]
    refine J_takeO 7 (v := ?va7) rfl (by kernel_rfl) (by kernel_rfl) (by kernel_rfl) (by kernel_rfl) (fun _ _ _ h => h) (Or.inl ⟨by rfl, ?ya7⟩) I0 ?ra7
    case ya7 => (intro w hSw; obtain ⟨_, _⟩ := hSw; (go_simp; with_reducible rfl))
    simp only [Act.put, List.getElem_toArray, List.getElem_cons_zero, List.getElem_cons_succ, List.setIfInBounds_toArray, List.set_cons_zero, List.set_cons_succ]
    refine J_takeO 8 (v := ?va8) rfl (by kernel_rfl) (by kernel_rfl) (by kernel_rfl) (by kernel_rfl) (fun _ _ _ h => h) (Or.inl ⟨by rfl, ?ya8⟩) I0 ?ra8
    case ya8 => (intro w hSw; obtain ⟨_, _⟩ := hSw; (go_simp; with_reducible rfl))
    simp only [Act.put, List.getElem_toArray, List.getElem_cons_zero, List.getElem_cons_succ, List.setIfInBounds_toArray, List.set_cons_zero, List.set_cons_succ]
    refine J_takeO 9 (v := ?va9) rfl (by kernel_rfl) (by kernel_rfl) (by kernel_rfl) (by kernel_rfl) (fun _ _ _ h => h) (Or.inl ⟨by rfl, ?ya9⟩) I0 ?ra9
    case ya9 => (intro w hSw; obtain ⟨_, _⟩ := hSw; (go_simp; with_reducible rfl))
    simp only [Act.put, List.getElem_toArray, List.getElem_cons_zero, List.getElem_cons_succ, List.setIfInBounds_toArray, List.set_cons_zero, List.set_cons_succ]
    refine J_takeO 10 (v := ?va10) rfl (by kernel_rfl) (by kernel_rfl) (by kernel_rfl) (by kernel_rfl) (fun _ _ _ h => h) (Or.inl ⟨by rfl, ?ya10⟩) I0 ?ra10
    case ya10 => (intro w hSw; obtain ⟨_, _⟩ := hSw; (go_simp; with_reducible rfl))
    simp only [Act.put, List.getElem_toArray, List.getElem_cons_zero, List.getElem_cons_succ, List.setIfInBounds_toArray, List.set_cons_zero, List.set_cons_succ]
    refine J_takeO 11 (v := ?va11) rfl (by kernel_rfl) (by kernel_rfl) (by kernel_rfl) (by kernel_rfl) (fun _ _ _ h => h) (Or.inl ⟨by rfl, ?ya11⟩) I0 ?ra11
    case ya11 => (intro w hSw; obtain ⟨_, _⟩ := hSw; (go_simp; with_reducible rfl))
    simp only [Act.put, List.getElem_toArray, List.getElem_cons_zero, List.getElem_cons_succ, List.setIfInBounds_toArray, List.set_cons_zero, List.set_cons_succ]
    refine J_one 1 rfl (by kernel_rfl) (fun K hK => ?_)
    go_simp
    refine hN4.out.mono ?_
    rintro e w1 ⟨rfl, hdr⟩
    have hx1 : Hid (Ext w w1) := hx0.out.trans hdr.ext
    have I1 : (fun w' : World => w'.cell? ⟨ad.block, ad.off + 4, none⟩ = some (.int .u8 b4) ∧ w'.cell? ⟨ad.block, ad.off + 5, none⟩ = some (.int .u8 b5)) w1 := ⟨hdr.ext.cell I0.1, hdr.ext.cell I0.2⟩
    refine hK _ _ ⟨fun _ => I1, ?_⟩
    clear hK K
    try simp only [Act.put, List.getElem_toArray, List.getElem_cons_zero, List.getElem_cons_succ, List.setIfInBounds_toArray, List.set_cons_zero, List.set_cons_succ]
    refine J_one 12 rfl (by kernel_rfl) (fun K hK => ?_)
    go_simp
    refine hK _ _ ⟨fun _ => I1, ?_⟩
    clear hK K
    try simp only [Act.put, List.setIfInBounds_toArray, List.set_cons_zero, List.set_cons_succ]
    refine J_one 13 rfl (by kernel_rfl) (fun K hK => ?_)
    go_simp
    refine hK _ _ ⟨fun _ => I1, ?_⟩
    clear hK K
    try simp only [Act.put, List.setIfInBounds_toArray, List.set_cons_zero, List.set_cons_succ]
    refine J_done (by kernel_rfl) (OnlyOn.normal ?_)
    have h1 : Hid (RdB w1 (some ad) n c L) := h.out.ext hx1.out
    clear hN4 I0 I1 q1 q2 q3 q4 b4r b5r hdr hx0
    by_cases hb : szB size = true
    · have hsz := sz_bd hb
      by_cases hN1 : N < 1
      · have hnf := hid (hhd.out (.inr (.inl hN1)))
        go_wp2_with fail
        refine (risSize_any size _).mono ?_
        rintro e w' ⟨rfl, rfl⟩
        rw [hb]
        go_wp2
        exact hNo.out _ hx1.out (hnf.out)
      · by_cases hN2 : 4096 < N
        · have hnf := hid (hhd.out (.inr (.inr (.inl hN2))))
          go_wp2_with fail
          refine (risSize_any size _).mono ?_
          rintro e w' ⟨rfl, rfl⟩
          rw [hb]
          go_wp2
          exact hNo.out _ hx1.out (hnf.out)
        · have hP1 : N * size ≤ 4096 * 256 := Int.mul_le_mul (by omega) (by omega) (by omega) (by omega)
          have hP0 : 0 ≤ N * size := Int.mul_nonneg (by omega) (by omega)
          have hwP : IntKind.i64.wrap (N * size) = N * size := IntWalk.i64_in _ (by omega)
          by_cases hP : (n : Int) = N * size
          · have d3 : ((n : Int) != N * size) = false := by simpa using hP
            have hP' := hid hP
            clear hP
            have hstart := hid (op_start (size := size) (L := L) (n := N) (by omega))
            go_wp2_with fail
            refine (risSize_any size _).mono ?_
            rintro e w' ⟨rfl, rfl⟩
            rw [hb]
            have hg0 := hid (RA.new w1 size)
            have hgx : Hid (Ext w (w1.alloc (.cells #[.int .i64 size, .slice none 0 0] 85))) := hx1.out.alloc_right _
            have hgw : Hid (w.heap.size ≤ w1.heap.size) := hx1.out.size
            go_wp2_with fail
            generalize w1.heap.size = g at *
            generalize w1.alloc (.cells #[.int .i64 size, .slice none 0 0] 85) = w2 at *
            go_loopw [7] (fun q wx => ∃ (a : Nat) (q' : Int) (l : List En) (v : Value), q = .int .i64 a ∧ Hid ((a : Int) = q' * size) ∧ Hid (OpInv size N L q' l) ∧ Hid (RA wx g size v l) ∧ Hid (wx.ownsRow w.heap.size 87 3 v l.length (rents l)) ∧ Hid (Ext w wx)) (fun q _ => n - (intOf q).toNat)
            case atStart => exact ⟨size.toNat, 1, [], .slice none 0 0, by rw [Int.toNat_of_nonneg (by omega)], by unfold Hid; rw [Int.toNat_of_nonneg (by omega)]; omega, hstart, hg0, World.ownsRow_nil _ _ _ _, hgx⟩
            case round =>
              obtain ⟨a, q, l, v, rfl, ha, hop, hm, ho, hx⟩ := hrel
              by_cases hq : q < N
              · have hql := op_len hop.out
                have hNq : (N - q) * size = (n : Int) - a := by rw [Int.sub_mul, hP'.out, ha.out]
                have hsl : 1 * size ≤ (N - q) * size := Int.mul_le_mul (by omega) (Int.le_refl _) (by omega) (by omega)
                have hroom : a + 16 ≤ n := by omega
                have hll : (L.length : Int) = N * size := by rw [hlen.out]; exact hP'.out
                have hnoR := hid (fun hh => op_noR hsz hop.out hq hn.out hz.out ha.out hh)
                have hgo := hid (fun hh => op_go hsz h.out.2 hll hop.out hq hn.out hz.out ha.out hh)
                have hTx := hid (fun hb ht => (rd_text hsz h.out.2 hll hql.1 hq ha.out hb ht).1)
                have hcB := hid (fun m (hm : m = a + 4) w (h : RdB w (some ad) n c L) => rnum_at w ad n c L h m (by omega))
                have hcK := hid (fun w (h : RdB w (some ad) n c L) => rnum_at w ad n c L h a (by omega))
                have hcT := hid (fun m (hm : m = a + 8) w (h : RdB w (some ad) n c L) => rnum_at w ad n c L h m (by omega))
                obtain ⟨m4, hm4⟩ : ∃ m, m = a + 4 := ⟨_, rfl⟩
                obtain ⟨m8, hm8⟩ : ∃ m, m = a + 8 := ⟨_, rfl⟩
                obtain ⟨m12, hm12⟩ : ∃ m, m = a + 12 := ⟨_, rfl⟩
                replace hcB : Hid (∀ w, RdB w (some ad) n c L → Calls Try.prog 39 #[.slice (some (ad.add m4)) (n - m4) (c - m4)] w fun e w' => e = .returned (.int .i64 (num L (a + 4) 4)) ∧ Dr w w') := fun w h => by have := hcB.out m4 hm4 w h; rwa [show num L m4 4 = num L (a + 4) 4 by rw [hm4]] at this
                replace hcT : Hid (∀ w, RdB w (some ad) n c L → Calls Try.prog 39 #[.slice (some (ad.add m8)) (n - m8) (c - m8)] w fun e w' => e = .returned (.int .i64 (num L (a + 8) 4)) ∧ Dr w w') := fun w h => by have := hcT.out m8 hm8 w h; rwa [show num L m8 4 = num L (a + 8) 4 by rw [hm8]] at this
                have hcS : Hid (∀ (k : Nat) w', a + 12 + k ≤ n → Ext w w' → (convert 27 9 (.slice (some (ad.add m12)) k (c - m12))).run Try.prog w' = .ok (.string (strI (cut L (a + 12) k))) w') := fun k w' hk hx => by
                  rw [hm12]
                  have := (h.out.ext hx).sub (i := a + 12) (m := k) (c' := c) hk (by omega) (Nat.le_refl _)
                  exact conv_rd this
                have rK := num_rng h.out.2 a
                have rB := num_rng h.out.2 (a + 4)
                have rT := num_rng h.out.2 (a + 8)
                have hrd := hid (h.out.ext hx.out)
                generalize hXX : rdE L q a = X at *
                unfold rdR at hnoR hgo
                unfold rdE at hXX
                generalize hSS : (fun k => strI (cut L (a + 12) k)) = SS at *
                replace hcS : Hid (∀ (k : Nat) w', a + 12 + k ≤ n → Ext w w' → (convert 27 9 (.slice (some (ad.add m12)) k (c - m12))).run Try.prog w' = .ok (.string (SS k)) w') := fun k w' hk hx => by rw [hcS.out k w' hk hx, ← hSS]
                rw [show strI (cut L (a + 12) (num L (a + 8) 4).toNat) = SS (num L (a + 8) 4).toNat by rw [← hSS]] at hXX
                generalize num L a 4 = K at *
                generalize num L (a + 4) 4 = B at *
                generalize num L (a + 8) 4 = T at *
                replace hXX := hid hXX
                have hgr : Hid (g < wr.heap.size) := hm.out.lt
                have hvr : Hid (∀ k, v.ownBlock = some k → k < wr.heap.size) := fun k e => (ho.out.lt k e).2
                have l0 : (a : Int) < (n : Int) := by omega
                have l1 : (a : Int) ≤ (n : Int) := by omega
                have l4 : (m4 : Int) ≤ (n : Int) := by omega
                have l8 : (m8 : Int) ≤ (n : Int) := by omega
                have k0 : ¬ c = a := by omega
                have k4 : ¬ c = m4 := by omega
                have k8 : ¬ c = m8 := by omega
                have k12 : ¬ c = m12 := by omega
                have w4 : IntKind.i64.wrap (m4 : Int) = (m4 : Int) := IntWalk.i64_in _ (by omega)
                have w8 : IntKind.i64.wrap (m8 : Int) = (m8 : Int) := IntWalk.i64_in _ (by omega)
                have w12 : IntKind.i64.wrap (m12 : Int) = (m12 : Int) := IntWalk.i64_in _ (by omega)
                have w4' : (a : Int) + 4 = (m4 : Int) := by rw [hm4]; rfl
                have w8' : (a : Int) + 8 = (m8 : Int) := by rw [hm8]; rfl
                have w12' : (a : Int) + 12 = (m12 : Int) := by rw [hm12]; rfl
                replace hm4 := hid hm4
                replace hm8 := hid hm8
                replace hm12 := hid hm12
                have hNq' := hid hNq
                clear hNq hll hSS
                go_upto_region 9 with fail
                go_cut [8] (fun x wx => ∃ p, x = .pointer (some ⟨p, 0, none⟩) ∧ wx.cell? ⟨p, 0, none⟩ = some (.int .i64 B) ∧ wx.cell? ⟨p, 1, none⟩ = some (.bool (K == 0)) ∧ wx.cell? ⟨p, 2, none⟩ = some (.string ⟨#[]⟩) ∧ Hid (There wx p 3) ∧ Hid (wr.heap.size ≤ p) ∧ Hid (Ext wr wx))
                case first =>
                  have hx_v1 : Hid (Ext wr wr.drew) := (Ext.refl _).drew_right
                  replace hrd : Hid (∀ w', Ext wr w' → RdB w' (some ad) n c L) := fun w' hx => hrd.out.ext hx
                  refine region_J (fun _ => True) 13 (by kernel_rfl) ?_
                  generalize wr.drew = v1 at *
                  refine J_takeO 0 (v := ?vb0) rfl (by kernel_rfl) (by kernel_rfl) (by kernel_rfl) (by kernel_rfl) (fun _ _ _ h => h) (Or.inl ⟨by rfl, ?yb0⟩) trivial ?rb0
                  case yb0 => (intro w hSw; obtain _ := hSw; (go_simp; with_reducible rfl))
                  simp only [Act.put, List.getElem_toArray, List.getElem_cons_zero, List.getElem_cons_succ, List.setIfInBounds_toArray, List.set_cons_zero, List.set_cons_succ]
                  refine J_takeO 1 (v := ?vb1) rfl (by kernel_rfl) (by kernel_rfl) (by kernel_rfl) (by kernel_rfl) (fun _ _ _ h => h) (Or.inl ⟨by rfl, ?yb1⟩) trivial ?rb1
                  case yb1 => (intro w hSw; obtain _ := hSw; (go_simp; with_reducible rfl))
                  simp only [Act.put, List.getElem_toArray, List.getElem_cons_zero, List.getElem_cons_succ, List.setIfInBounds_toArray, List.set_cons_zero, List.set_cons_succ]
                  refine J_takeO 2 (v := ?vb2) rfl (by kernel_rfl) (by kernel_rfl) (by kernel_rfl) (by kernel_rfl) (fun _ _ _ h => h) (Or.inl ⟨by rfl, ?yb2⟩) trivial ?rb2
                  case yb2 => (intro w hSw; obtain _ := hSw; (go_simp; with_reducible rfl))
                  simp only [Act.put, List.getElem_toArray, List.getElem_cons_zero, List.getElem_cons_succ, List.setIfInBounds_toArray, List.set_cons_zero, List.set_cons_succ]
                  refine J_takeO 3 (v := ?vb3) rfl (by kernel_rfl) (by kernel_rfl) (by kernel_rfl) (by kernel_rfl) (fun _ _ _ h => h) (Or.inl ⟨by rfl, ?yb3⟩) trivial ?rb3
                  case yb3 => (intro w hSw; obtain _ := hSw; (go_simp; with_reducible rfl))
                  simp only [Act.put, List.getElem_toArray, List.getElem_cons_zero, List.getElem_cons_succ, List.setIfInBounds_toArray, List.set_cons_zero, List.set_cons_succ]
                  refine J_takeO 5 (v := ?vb5) rfl (by kernel_rfl) (by kernel_rfl) (by kernel_rfl) (by kernel_rfl) (fun _ _ _ h => h) (Or.inl ⟨by rfl, ?yb5⟩) trivial ?rb5
                  case yb5 => (intro w hSw; obtain _ := hSw; (go_simp; with_reducible rfl))
                  simp only [Act.put, List.getElem_toArray, List.getElem_cons_zero, List.getElem_cons_succ, List.setIfInBounds_toArray, List.set_cons_zero, List.set_cons_succ]
                  refine J_takeO 6 (v := ?vb6) rfl (by kernel_rfl) (by kernel_rfl) (by kernel_rfl) (by kernel_rfl) (fun _ _ _ h => h) (Or.inl ⟨by rfl, ?yb6⟩) trivial ?rb6
                  case yb6 => (intro w hSw; obtain _ := hSw; (go_simp; with_reducible rfl))
                  simp only [Act.put, List.getElem_toArray, List.getElem_cons_zero, List.getElem_cons_succ, List.setIfInBounds_toArray, List.set_cons_zero, List.set_cons_succ]
                  refine J_takeO 7 (v := ?vb7) rfl (by kernel_rfl) (by kernel_rfl) (by kernel_rfl) (by kernel_rfl) (fun _ _ _ h => h) (Or.inl ⟨by rfl, ?yb7⟩) trivial ?rb7
                  case yb7 => (intro w hSw; obtain _ := hSw; (go_simp; with_reducible rfl))
                  simp only [Act.put, List.getElem_toArray, List.getElem_cons_zero, List.getElem_cons_succ, List.setIfInBounds_toArray, List.set_cons_zero, List.set_cons_succ]
                  refine J_two 4 11 rfl rfl (by kernel_rfl) (fun KK hK => ?_) (fun KK hK => ?_)
                  · go_simp
                    refine (hcB.out _ (hrd.out _ hx_v1.out)).mono ?_
                    rintro e v2 ⟨rfl, hdr⟩
                    have hx_v2 : Hid (Ext wr v2) := hx_v1.out.trans hdr.ext
                    clear hdr
                    refine hK _ _ ⟨fun _ => trivial, ?_⟩
                    clear hK KK
                    try simp only [Act.put, List.getElem_toArray, List.getElem_cons_zero, List.getElem_cons_succ, List.setIfInBounds_toArray, List.set_cons_zero, List.set_cons_succ]
                    refine J_two 8 11 rfl rfl (by kernel_rfl) (fun KK hK => ?_) (fun KK hK => ?_)
                    · go_simp
                      refine (hcK.out _ (hrd.out _ hx_v2.out)).mono ?_
                      rintro e v3 ⟨rfl, hdr⟩
                      have hx_v3 : Hid (Ext wr v3) := hx_v2.out.trans hdr.ext
                      clear hdr
                      refine hK _ _ ⟨fun _ => trivial, ?_⟩
                      clear hK KK
                      try simp only [Act.put, List.getElem_toArray, List.getElem_cons_zero, List.getElem_cons_succ, List.setIfInBounds_toArray, List.set_cons_zero, List.set_cons_succ]
                      refine J_takeO 9 (v := ?vc19) rfl (by kernel_rfl) (by kernel_rfl) (by kernel_rfl) (by kernel_rfl) (fun _ _ _ h => h) (Or.inl ⟨by rfl, ?yc19⟩) trivial ?rc19
                      case yc19 => (intro w hSw; obtain _ := hSw; (go_simp; with_reducible rfl))
                      simp only [Act.put, List.getElem_toArray, List.getElem_cons_zero, List.getElem_cons_succ, List.setIfInBounds_toArray, List.set_cons_zero, List.set_cons_succ]
                      refine J_takeO 10 (v := ?vc110) rfl (by kernel_rfl) (by kernel_rfl) (by kernel_rfl) (by kernel_rfl) (fun _ _ _ h => h) (Or.inl ⟨by rfl, ?yc110⟩) trivial ?rc110
                      case yc110 => (intro w hSw; obtain _ := hSw; (go_simp; with_reducible rfl))
                      simp only [Act.put, List.getElem_toArray, List.getElem_cons_zero, List.getElem_cons_succ, List.setIfInBounds_toArray, List.set_cons_zero, List.set_cons_succ]
                      refine J_one 11 rfl (by kernel_rfl) (fun KK hK => ?_)
                      go_simp
                      refine hK _ _ ⟨fun _ => trivial, ?_⟩
                      clear hK KK
                      try simp only [Act.put, List.getElem_toArray, List.getElem_cons_zero, List.getElem_cons_succ, List.setIfInBounds_toArray, List.set_cons_zero, List.set_cons_succ]
                      have hp := hid (There.new v3 #[.int .i64 0, .bool false, .string { data := #[] }] 87 (n := 3) (by simp))
                      have hx_v4 : Hid (Ext wr (v3.alloc (.cells #[.int .i64 0, .bool false, .string { data := #[] }] 87))) := hx_v3.out.alloc_right _
                      have hwp : Hid (wr.heap.size ≤ v3.heap.size) := hx_v3.out.size
                      generalize v3.heap.size = p at *
                      generalize v3.alloc (.cells #[.int .i64 0, .bool false, .string { data := #[] }] 87) = v4 at *
                      refine J_one 12 rfl (by kernel_rfl) (fun KK hK => ?_)
                      have e0 := hp.out.cell (o := 0) (by omega)
                      have f0 := hp.out.free (o := 0) (by omega)
                      have e1 := hp.out.cell (o := 1) (by omega)
                      have f1 := hp.out.free (o := 1) (by omega)
                      have e2 := hp.out.cell (o := 2) (by omega)
                      have f2 := hp.out.free (o := 2) (by omega)
                      go_simp
                      refine hK _ _ ⟨fun _ => trivial, ?_⟩
                      clear hK e0 e1 e2 f0 f1 f2
                      try simp only [Act.put, List.getElem_toArray, List.getElem_cons_zero, List.getElem_cons_succ, List.setIfInBounds_toArray, List.set_cons_zero, List.set_cons_succ]
                      refine J_done (by kernel_rfl) (OnlyOn.normal ?_)
                      have hk := put3 hp.out (.int .i64 B) (.bool (K == 0)) (.string { data := #[] })
                      have hxe := (Ext.set (Ext.set (Ext.set hx_v4.out (p := ⟨p, 0, none⟩) hwp.out (.int .i64 B)) (p := ⟨p, 1, none⟩) hwp.out (.bool (K == 0))) (p := ⟨p, 2, none⟩) hwp.out (.string { data := #[] }))
                      go_wp2_with fail
                      go_meet
                      exact ⟨p, rfl, hk.1, hk.2.1, hk.2.2, (((hp.out.set _ _).set _ _).set _ _), hwp, hxe⟩
                    · go_simp
                      refine hK _ _ ⟨fun _ => trivial, ?_⟩
                      clear hK KK
                      try simp only [Act.put, List.getElem_toArray, List.getElem_cons_zero, List.getElem_cons_succ, List.setIfInBounds_toArray, List.set_cons_zero, List.set_cons_succ]
                      have hp := hid (There.new v2 #[.int .i64 0, .bool false, .string { data := #[] }] 87 (n := 3) (by simp))
                      have hx_v5 : Hid (Ext wr (v2.alloc (.cells #[.int .i64 0, .bool false, .string { data := #[] }] 87))) := hx_v2.out.alloc_right _
                      have hwp : Hid (wr.heap.size ≤ v2.heap.size) := hx_v2.out.size
                      generalize v2.heap.size = p at *
                      generalize v2.alloc (.cells #[.int .i64 0, .bool false, .string { data := #[] }] 87) = v5 at *
                      refine J_one 8 rfl (by kernel_rfl) (fun KK hK => ?_)
                      go_simp
                      refine (hcK.out _ (hrd.out _ hx_v5.out)).mono ?_
                      rintro e v6 ⟨rfl, hdr⟩
                      have hx_v6 : Hid (Ext wr v6) := hx_v5.out.trans hdr.ext
                      replace hp := hid (hp.out.ext hdr.ext)
                      clear hdr
                      refine hK _ _ ⟨fun _ => trivial, ?_⟩
                      clear hK KK
                      try simp only [Act.put, List.getElem_toArray, List.getElem_cons_zero, List.getElem_cons_succ, List.setIfInBounds_toArray, List.set_cons_zero, List.set_cons_succ]
                      refine J_takeO 9 (v := ?vc29) rfl (by kernel_rfl) (by kernel_rfl) (by kernel_rfl) (by kernel_rfl) (fun _ _ _ h => h) (Or.inl ⟨by rfl, ?yc29⟩) trivial ?rc29
                      case yc29 => (intro w hSw; obtain _ := hSw; (go_simp; with_reducible rfl))
                      simp only [Act.put, List.getElem_toArray, List.getElem_cons_zero, List.getElem_cons_succ, List.setIfInBounds_toArray, List.set_cons_zero, List.set_cons_succ]
                      refine J_takeO 10 (v := ?vc210) rfl (by kernel_rfl) (by kernel_rfl) (by kernel_rfl) (by kernel_rfl) (fun _ _ _ h => h) (Or.inl ⟨by rfl, ?yc210⟩) trivial ?rc210
                      case yc210 => (intro w hSw; obtain _ := hSw; (go_simp; with_reducible rfl))
                      simp only [Act.put, List.getElem_toArray, List.getElem_cons_zero, List.getElem_cons_succ, List.setIfInBounds_toArray, List.set_cons_zero, List.set_cons_succ]
                      refine J_one 12 rfl (by kernel_rfl) (fun KK hK => ?_)
                      have e0 := hp.out.cell (o := 0) (by omega)
                      have f0 := hp.out.free (o := 0) (by omega)
                      have e1 := hp.out.cell (o := 1) (by omega)
                      have f1 := hp.out.free (o := 1) (by omega)
                      have e2 := hp.out.cell (o := 2) (by omega)
                      have f2 := hp.out.free (o := 2) (by omega)
                      go_simp
                      refine hK _ _ ⟨fun _ => trivial, ?_⟩
                      clear hK e0 e1 e2 f0 f1 f2
                      try simp only [Act.put, List.getElem_toArray, List.getElem_cons_zero, List.getElem_cons_succ, List.setIfInBounds_toArray, List.set_cons_zero, List.set_cons_succ]
                      refine J_done (by kernel_rfl) (OnlyOn.normal ?_)
                      have hk := put3 hp.out (.int .i64 B) (.bool (K == 0)) (.string { data := #[] })
                      have hxe := (Ext.set (Ext.set (Ext.set hx_v6.out (p := ⟨p, 0, none⟩) hwp.out (.int .i64 B)) (p := ⟨p, 1, none⟩) hwp.out (.bool (K == 0))) (p := ⟨p, 2, none⟩) hwp.out (.string { data := #[] }))
                      go_wp2_with fail
                      go_meet
                      exact ⟨p, rfl, hk.1, hk.2.1, hk.2.2, (((hp.out.set _ _).set _ _).set _ _), hwp, hxe⟩
                  · go_simp
                    refine hK _ _ ⟨fun _ => trivial, ?_⟩
                    clear hK KK
                    try simp only [Act.put, List.getElem_toArray, List.getElem_cons_zero, List.getElem_cons_succ, List.setIfInBounds_toArray, List.set_cons_zero, List.set_cons_succ]
                    have hp := hid (There.new v1 #[.int .i64 0, .bool false, .string { data := #[] }] 87 (n := 3) (by simp))
                    have hx_v7 : Hid (Ext wr (v1.alloc (.cells #[.int .i64 0, .bool false, .string { data := #[] }] 87))) := hx_v1.out.alloc_right _
                    have hwp : Hid (wr.heap.size ≤ v1.heap.size) := hx_v1.out.size
                    generalize v1.heap.size = p at *
                    generalize v1.alloc (.cells #[.int .i64 0, .bool false, .string { data := #[] }] 87) = v7 at *
                    refine J_one 4 rfl (by kernel_rfl) (fun KK hK => ?_)
                    go_simp
                    refine (hcB.out _ (hrd.out _ hx_v7.out)).mono ?_
                    rintro e v8 ⟨rfl, hdr⟩
                    have hx_v8 : Hid (Ext wr v8) := hx_v7.out.trans hdr.ext
                    replace hp := hid (hp.out.ext hdr.ext)
                    clear hdr
                    refine hK _ _ ⟨fun _ => trivial, ?_⟩
                    clear hK KK
                    try simp only [Act.put, List.getElem_toArray, List.getElem_cons_zero, List.getElem_cons_succ, List.setIfInBounds_toArray, List.set_cons_zero, List.set_cons_succ]
                    refine J_one 8 rfl (by kernel_rfl) (fun KK hK => ?_)
                    go_simp
                    refine (hcK.out _ (hrd.out _ hx_v8.out)).mono ?_
                    rintro e v9 ⟨rfl, hdr⟩
                    have hx_v9 : Hid (Ext wr v9) := hx_v8.out.trans hdr.ext
                    replace hp := hid (hp.out.ext hdr.ext)
                    clear hdr
                    refine hK _ _ ⟨fun _ => trivial, ?_⟩
                    clear hK KK
                    try simp only [Act.put, List.getElem_toArray, List.getElem_cons_zero, List.getElem_cons_succ, List.setIfInBounds_toArray, List.set_cons_zero, List.set_cons_succ]
                    refine J_takeO 9 (v := ?vc39) rfl (by kernel_rfl) (by kernel_rfl) (by kernel_rfl) (by kernel_rfl) (fun _ _ _ h => h) (Or.inl ⟨by rfl, ?yc39⟩) trivial ?rc39
                    case yc39 => (intro w hSw; obtain _ := hSw; (go_simp; with_reducible rfl))
                    simp only [Act.put, List.getElem_toArray, List.getElem_cons_zero, List.getElem_cons_succ, List.setIfInBounds_toArray, List.set_cons_zero, List.set_cons_succ]
                    refine J_takeO 10 (v := ?vc310) rfl (by kernel_rfl) (by kernel_rfl) (by kernel_rfl) (by kernel_rfl) (fun _ _ _ h => h) (Or.inl ⟨by rfl, ?yc310⟩) trivial ?rc310
                    case yc310 => (intro w hSw; obtain _ := hSw; (go_simp; with_reducible rfl))
                    simp only [Act.put, List.getElem_toArray, List.getElem_cons_zero, List.getElem_cons_succ, List.setIfInBounds_toArray, List.set_cons_zero, List.set_cons_succ]
                    refine J_one 12 rfl (by kernel_rfl) (fun KK hK => ?_)
                    have e0 := hp.out.cell (o := 0) (by omega)
                    have f0 := hp.out.free (o := 0) (by omega)
                    have e1 := hp.out.cell (o := 1) (by omega)
                    have f1 := hp.out.free (o := 1) (by omega)
                    have e2 := hp.out.cell (o := 2) (by omega)
                    have f2 := hp.out.free (o := 2) (by omega)
                    go_simp
                    refine hK _ _ ⟨fun _ => trivial, ?_⟩
                    clear hK e0 e1 e2 f0 f1 f2
                    try simp only [Act.put, List.getElem_toArray, List.getElem_cons_zero, List.getElem_cons_succ, List.setIfInBounds_toArray, List.set_cons_zero, List.set_cons_succ]
                    refine J_done (by kernel_rfl) (OnlyOn.normal ?_)
                    have hk := put3 hp.out (.int .i64 B) (.bool (K == 0)) (.string { data := #[] })
                    have hxe := (Ext.set (Ext.set (Ext.set hx_v9.out (p := ⟨p, 0, none⟩) hwp.out (.int .i64 B)) (p := ⟨p, 1, none⟩) hwp.out (.bool (K == 0))) (p := ⟨p, 2, none⟩) hwp.out (.string { data := #[] }))
                    go_wp2_with fail
                    go_meet
                    exact ⟨p, rfl, hk.1, hk.2.1, hk.2.2, (((hp.out.set _ _).set _ _).set _ _), hwp, hxe⟩
                case rest =>
                  obtain ⟨p, rfl, e0, e1, e2, hp, hwp, hx6⟩ := hcut
                  generalize wc = w6 at *
                  have hgp : Hid (g < p) := Nat.lt_of_lt_of_le hgr.out hwp.out
                  have hvp : Hid (∀ k, v.ownBlock = some k → k < p) := fun k e => Nat.lt_of_lt_of_le (hvr.out k e) hwp.out
                  replace hm := hid (hm.out.ext hx6.out)
                  replace ho := hid (hx6.out.own ho.out)
                  replace hx := hid (hx.out.trans hx6.out)
                  clear hgr hvr hx6 hrd hcB hcK
                  have hY0 : 0 ≤ B * size := Int.mul_nonneg (by omega) (by omega)
                  have hY1 : B * size ≤ 4294967296 * 256 := Int.mul_le_mul (by omega) (by omega) (by omega) (by omega)
                  have hYb : Hid (B ≤ N - q → (a : Int) + B * size ≤ n) := fun h => by
                    have h2 : B * size ≤ (N - q) * size := Int.mul_le_mul h (Int.le_refl _) (by omega) (by omega)
                    have h3 := hNq'.out
                    omega
                  have hYc : Hid (¬ B ≤ N - q → ¬ (a : Int) + B * size ≤ n) := fun h => by
                    have h2 : (N - q + 1) * size ≤ B * size := Int.mul_le_mul (by omega) (Int.le_refl _) (by omega) (by omega)
                    rw [Int.add_mul] at h2
                    have h3 := hNq'.out
                    omega
                  have hYe : Hid (B = N - q ↔ (a : Int) + B * size = n) := by
                    have h3 := hNq'.out
                    constructor
                    · intro e; rw [e]; omega
                    · intro e
                      have : B * size = (N - q) * size := by omega
                      exact Int.eq_of_mul_eq_mul_right (by omega) this
                  have hYn : Hid ((q + B) * size = a + B * size) := by unfold Hid; rw [Int.add_mul, ha.out]
                  have wY : IntKind.i64.wrap (B * size) = B * size := IntWalk.i64_in _ (by omega)
                  have hnn : (n : Int) ≤ 4096 * 256 := by have := hP'.out; omega
                  have wY2 : IntKind.i64.wrap ((a : Int) + B * size) = (a : Int) + B * size := IntWalk.i64_in _ (by omega)
                  by_cases hb1 : B < 1
                  · have hfin := hid (hNo.out _ hx.out (hnoR.out (fun h => by omega)))
                    clear hnoR hgo
                    go_wp2
                    exact hfin.out
                  · by_cases hb2 : N < B
                    · have hfin := hid (hNo.out _ hx.out (hnoR.out (fun h => by omega)))
                      clear hnoR hgo
                      go_wp2
                      exact hfin.out
                    · by_cases hb3 : (n : Int) < (a : Int) + B * size
                      · have hfin := hid (hNo.out _ hx.out (hnoR.out (fun h => by have := hYb.out h.2.1; omega)))
                        clear hnoR hgo
                        go_wp2
                        exact hfin.out
                      · have hBq : B ≤ N - q := by
                          rcases Int.lt_or_le (N - q) B with h | h
                          · exact absurd (show (a : Int) + B * size ≤ n by omega) (hYc.out (by omega))
                          · exact h
                        have hBq' := hid hBq
                        by_cases hK : K = 0
                        · subst hK
                          rw [if_pos rfl] at hXX
                          have hr0 : Hid (1 ≤ B ∧ B ≤ N - q ∧ ((0 : Int) = 0 ∨ (T ≤ 2048 ∧ needS size T = B))) := ⟨by omega, hBq, .inl rfl⟩
                          obtain ⟨-, -, -, -, hgo1, hgo2⟩ := hgo.out hr0.out
                          obtain rfl := hXX.out
                          dsimp only at hgo1 hgo2
                          replace hgo1 := hid hgo1
                          replace hgo2 := hid hgo2
                          clear hnoR hgo hr0 hXX hcT hcS hTx
                          have hE : Hid (q + B = N ↔ (a : Int) + B * size = n) := ⟨fun h => hYe.out.1 (by omega), fun h => by have := hYe.out.2 h; omega⟩
                          clear hYb hYc hYe
                          go_upto_region 17 with fail
                          go_cut [146] (fun b wx => ∃ cb : Bool, b = .bool cb ∧ Hid (cb = (lastF l || ((a : Int) + B * size == n))) ∧ Hid (Ext w6 wx))
                          case first =>
                            have c1 := hm.out.c1
                            obtain ⟨A, cl, rfl, hr⟩ := hm.out.rd
                            have hml := Rd.max hr
                            have hlast := hid (fun k (hk : l.length = k + 1) => lastF_at hk)
                            have hnil : Hid (l.length = 0 → lastF l = false) := fun h0 => by rw [List.length_eq_zero_iff.1 h0]; rfl
                            generalize lastF l = lf at *
                            generalize hll : l.length = ll at *
                            cases ll with
                            | zero =>
                              have hlf := hnil.out rfl
                              subst hlf
                              clear hlast hnil
                              by_cases hend : (a : Int) + B * size = n
                              · have d5 : ((a : Int) + B * size == (n : Int)) = true := by simpa using hend
                                have hcb : Hid (true = (false || ((a : Int) + B * size == n))) := by unfold Hid; rw [d5]; rfl
                                clear hend hE
                                go_quiet (fail)
                                go_wp2_with fail
                                go_meet
                                exact ⟨true, rfl, hcb, Ext.drewN _ _⟩
                              · have d5 : ((a : Int) + B * size == (n : Int)) = false := by simpa using hend
                                have hcb : Hid (false = (false || ((a : Int) + B * size == n))) := by unfold Hid; rw [d5]; rfl
                                clear hend hE
                                go_quiet (fail)
                                go_wp2_with fail
                                go_meet
                                exact ⟨false, rfl, hcb, Ext.drewN _ _⟩
                            | succ k =>
                              obtain ⟨al, rfl, x0, x1, x2⟩ := hr.at_ (Nat.lt_succ_self k)
                              have hk : IntKind.i64.wrap (k : Int) = (k : Int) := IntWalk.i64_in _ (by omega)
                              have hk1 : (k : Int) < (k : Int) + 1 := by omega
                              have hlf := hlast.out k rfl
                              generalize ((eth l k).kind == 0) = zb at *
                              subst hlf
                              clear hlast hnil
                              cases lf with
                              | true =>
                                have hcb : Hid (true = (true || ((a : Int) + B * size == n))) := by unfold Hid; rfl
                                clear hE
                                go_quiet (fail)
                                go_wp2_with fail
                                go_meet
                                exact ⟨true, rfl, hcb, Ext.drewN _ _⟩
                              | false =>
                                by_cases hend : (a : Int) + B * size = n
                                · have d5 : ((a : Int) + B * size == (n : Int)) = true := by simpa using hend
                                  have hcb : Hid (true = (false || ((a : Int) + B * size == n))) := by unfold Hid; rw [d5]; rfl
                                  clear hend hE
                                  go_quiet (fail)
                                  go_wp2_with fail
                                  go_meet
                                  exact ⟨true, rfl, hcb, Ext.drewN _ _⟩
                                · have d5 : ((a : Int) + B * size == (n : Int)) = false := by simpa using hend
                                  have hcb : Hid (false = (false || ((a : Int) + B * size == n))) := by unfold Hid; rw [d5]; rfl
                                  clear hend hE
                                  go_quiet (fail)
                                  go_wp2_with fail
                                  go_meet
                                  exact ⟨false, rfl, hcb, Ext.drewN _ _⟩
                          case rest =>
                            obtain ⟨cb, rfl, hcb, hx7⟩ := hcut
                            generalize wc = w7 at *
                            replace e0 := hx7.out.cell e0
                            replace e1 := hx7.out.cell e1
                            replace e2 := hx7.out.cell e2
                            replace hm := hid (hm.out.ext hx7.out)
                            replace ho := hid (hx7.out.own ho.out)
                            replace hx := hid (hx.out.trans hx7.out)
                            clear hp hx7
                            cases cb with
                            | true =>
                              have hnf : Hid (NoFile L) := by
                                have hh := hcb.out
                                refine hgo2.out (by simp) ?_
                                cases hl : lastF l with
                                | true => exact .inl rfl
                                | false => rw [hl] at hh; exact .inr (hE.out.2 (by simpa using hh.symm))
                              have hfin := hid (hNo.out _ hx.out hnf.out)
                              clear hcb hE
                              go_wp2
                              exact hfin.out
                            | false =>
                              have hcc : lastF l = false ∧ q + B ≠ N := by
                                have hh := hcb.out
                                constructor
                                · cases hl : lastF l with
                                  | true => rw [hl] at hh; cases hh
                                  | false => rfl
                                · intro e
                                  have e2 := hE.out.1 e
                                  have : ((a : Int) + B * size == (n : Int)) = true := by simpa using e2
                                  rw [this] at hh
                                  simp at hh
                              have hop2 := hid (hgo1.out (fun _ => hcc))
                              clear hcc hgo1 hgo2 hcb hE
                              obtain ⟨i0, hi0, hz0, hz1, hz2⟩ := info_parts infoRe
                              have c1 := hm.out.c1
                              have hown := hid (fun (cs : Array Value) => ((Ext.refl w7).drew_right.alloc_right (.cells cs 87)).own ho.out)
                              have hnews : Hid (∀ j u, (rcells (En.mk q B 0 ⟨#[]⟩))[j]? = some u → (w7.drew.alloc (.cells #[.int .i64 B, .bool true, .string ⟨#[]⟩] 87)).cell? ((⟨w7.heap.size, 0, none⟩ : Addr).add j) = some u) := World.news_of_block (heap_alloc_new w7.drew _)
                              have hw7 : Hid (w.heap.size ≤ w7.heap.size) := hx.out.size
                              have hpost : Hid (∀ (ga ca : Nat) (w8 : World), w8.ownsRow w.heap.size 87 3 (Value.slice (some ⟨ga, 0, none⟩) (l.length + 1) ca) (l.length + 1) (rents l ++ rcells (En.mk q B 0 ⟨#[]⟩)) → (w7.drew.alloc (.cells #[.int .i64 B, .bool true, .string ⟨#[]⟩] 87)).grownBy w8 v.ownBlock → (v.ownBlock = some ga ∨ ga = w7.heap.size + 1) → ((fun w' : World => w'.cell? ⟨g, 1, none⟩ = some v ∧ w'.cell? ⟨p, 0, none⟩ = some (.int .i64 B) ∧ w'.cell? ⟨p, 1, none⟩ = some (.bool true) ∧ w'.cell? ⟨p, 2, none⟩ = some (.string ⟨#[]⟩)) w8 ∧ w8.frozen? ⟨g, 1, none⟩ = false ∧ Hid (RA (w8.setCell ⟨g, 1, none⟩ (Value.slice (some ⟨ga, 0, none⟩) (l.length + 1) ca)) g size (Value.slice (some ⟨ga, 0, none⟩) (l.length + 1) ca) (l ++ [(En.mk q B 0 ⟨#[]⟩)])) ∧ Hid ((w8.setCell ⟨g, 1, none⟩ (Value.slice (some ⟨ga, 0, none⟩) (l.length + 1) ca)).ownsRow w.heap.size 87 3 (Value.slice (some ⟨ga, 0, none⟩) (l.length + 1) ca) (l ++ [(En.mk q B 0 ⟨#[]⟩)]).length (rents (l ++ [(En.mk q B 0 ⟨#[]⟩)]))) ∧ Hid (Ext w (w8.setCell ⟨g, 1, none⟩ (Value.slice (some ⟨ga, 0, none⟩) (l.length + 1) ca))))) := by
                                intro ga ca w8 ho8 hgr hga
                                have hxe : Ext w7 (w7.drew.alloc (.cells #[.int .i64 B, .bool true, .string ⟨#[]⟩] 87)) := (Ext.refl w7).drew_right.alloc_right _
                                have hgr2 := (Ext.grown hxe v.ownBlock).trans hgr
                                have hl1 : (l ++ [(En.mk q B 0 ⟨#[]⟩)]).length = l.length + 1 := by simp
                                have ho9 : w8.ownsRow w.heap.size 87 3 (Value.slice (some ⟨ga, 0, none⟩) (l.length + 1) ca) (l ++ [(En.mk q B 0 ⟨#[]⟩)]).length (rents (l ++ [(En.mk q B 0 ⟨#[]⟩)])) := by rw [hl1, rents_append]; simpa [rents] using ho8
                                have hpv : v.ownBlock ≠ some p := fun e => by have := hvp.out p e; omega
                                have hgv := hm.out.ne
                                have hglt := hm.out.lt
                                have hne : (Value.slice (some ⟨ga, 0, none⟩) (l.length + 1) ca).ownBlock ≠ some g := fun e => by
                                  have e2 : ga = g := by simpa [Value.ownBlock] using e
                                  rcases hga with e3 | e3
                                  · exact hgv (by rw [e3, e2])
                                  · omega
                                have hm8 := (hgr2.block g hglt (fun e => hgv e.symm)).trans hm.out.1
                                refine ⟨⟨hgr2.cell c1 (fun e => hgv e.symm), hgr2.cell e0 (fun e => hpv e.symm), hgr2.cell e1 (fun e => hpv e.symm), hgr2.cell e2 (fun e => hpv e.symm)⟩, Lib.frozen_of_heap hm8 1, RA.putH hm8 (own_baseK ho9 (Nat.zero_le _)) hne, own_set ho9 hne 1 _, ?_⟩
                                exact Ext.set (ext_push (hx.out.trans hxe) (hown.out _) hgr) (p := ⟨g, 1, none⟩) hgw.out _
                              have I0 : (fun w' : World => w'.cell? ⟨g, 1, none⟩ = some v ∧ w'.cell? ⟨p, 0, none⟩ = some (.int .i64 B) ∧ w'.cell? ⟨p, 1, none⟩ = some (.bool true) ∧ w'.cell? ⟨p, 2, none⟩ = some (.string ⟨#[]⟩)) w7.drew := ⟨c1, e0, e1, e2⟩
                              have I1 : (fun w' : World => w'.cell? ⟨g, 1, none⟩ = some v ∧ w'.cell? ⟨p, 0, none⟩ = some (.int .i64 B) ∧ w'.cell? ⟨p, 1, none⟩ = some (.bool true) ∧ w'.cell? ⟨p, 2, none⟩ = some (.string ⟨#[]⟩)) (w7.drew.alloc (.cells #[.int .i64 B, .bool true, .string ⟨#[]⟩] 87)) := by
                                have hxe : Ext w7 (w7.drew.alloc (.cells #[.int .i64 B, .bool true, .string ⟨#[]⟩] 87)) := (Ext.refl w7).drew_right.alloc_right _
                                exact ⟨hxe.cell c1, hxe.cell e0, hxe.cell e1, hxe.cell e2⟩
                              have hlen4 : l.length + 1 ≤ 5000 := by omega
                              go_upto_region 19 with fail
                              refine region_J (fun w' => w'.cell? ⟨g, 1, none⟩ = some v ∧ w'.cell? ⟨p, 0, none⟩ = some (.int .i64 B) ∧ w'.cell? ⟨p, 1, none⟩ = some (.bool true) ∧ w'.cell? ⟨p, 2, none⟩ = some (.string ⟨#[]⟩)) 10 (by kernel_rfl) ?_
                              refine J_take 0 (v := ?vz00) rfl (by kernel_rfl) (by kernel_rfl) (by kernel_rfl) (by kernel_rfl) (fun _ _ _ h => h) (Or.inl ⟨by rfl, ?yz00⟩) I0 ?rz00
                              case yz00 => (intro w hSw; obtain ⟨_, _, _, _⟩ := hSw; (go_simp; with_reducible rfl))
                              simp only [Act.put, List.getElem_toArray, List.getElem_cons_zero, List.getElem_cons_succ, List.setIfInBounds_toArray, List.set_cons_zero, List.set_cons_succ]
                              refine J_take 1 (v := ?vz01) rfl (by kernel_rfl) (by kernel_rfl) (by kernel_rfl) (by kernel_rfl) (fun _ _ _ h => h) (Or.inl ⟨by rfl, ?yz01⟩) I0 ?rz01
                              case yz01 => (intro w hSw; obtain ⟨_, _, _, _⟩ := hSw; (go_simp; with_reducible rfl))
                              simp only [Act.put, List.getElem_toArray, List.getElem_cons_zero, List.getElem_cons_succ, List.setIfInBounds_toArray, List.set_cons_zero, List.set_cons_succ]
                              refine J_take 2 (v := ?vz02) rfl (by kernel_rfl) (by kernel_rfl) (by kernel_rfl) (by kernel_rfl) (fun _ _ _ h => h) (Or.inl ⟨by rfl, ?yz02⟩) I0 ?rz02
                              case yz02 => (intro w hSw; obtain ⟨_, _, _, _⟩ := hSw; (go_simp; with_reducible rfl))
                              simp only [Act.put, List.getElem_toArray, List.getElem_cons_zero, List.getElem_cons_succ, List.setIfInBounds_toArray, List.set_cons_zero, List.set_cons_succ]
                              refine J_take 3 (v := ?vz03) rfl (by kernel_rfl) (by kernel_rfl) (by kernel_rfl) (by kernel_rfl) (fun _ _ _ h => h) (Or.inl ⟨by rfl, ?yz03⟩) I0 ?rz03
                              case yz03 => (intro w hSw; obtain ⟨_, _, _, _⟩ := hSw; (go_simp; with_reducible rfl))
                              simp only [Act.put, List.getElem_toArray, List.getElem_cons_zero, List.getElem_cons_succ, List.setIfInBounds_toArray, List.set_cons_zero, List.set_cons_succ]
                              refine J_take 4 (v := ?vz04) rfl (by kernel_rfl) (by kernel_rfl) (by kernel_rfl) (by kernel_rfl) (fun _ _ _ h => h) (Or.inl ⟨by rfl, ?yz04⟩) I0 ?rz04
                              case yz04 => (intro w hSw; obtain ⟨_, _, _, _⟩ := hSw; (go_simp; with_reducible rfl))
                              simp only [Act.put, List.getElem_toArray, List.getElem_cons_zero, List.getElem_cons_succ, List.setIfInBounds_toArray, List.set_cons_zero, List.set_cons_succ]
                              refine J_take 5 (v := ?vz05) rfl (by kernel_rfl) (by kernel_rfl) (by kernel_rfl) (by kernel_rfl) (fun _ _ _ h => h) (Or.inl ⟨by rfl, ?yz05⟩) I0 ?rz05
                              case yz05 => (intro w hSw; obtain ⟨_, _, _, _⟩ := hSw; (go_simp; with_reducible rfl))
                              simp only [Act.put, List.getElem_toArray, List.getElem_cons_zero, List.getElem_cons_succ, List.setIfInBounds_toArray, List.set_cons_zero, List.set_cons_succ]
                              refine J_one 6 rfl (by kernel_rfl) (fun K hK => ?_)
                              go_simp
                              refine hK _ _ ⟨fun _ => I1, ?_⟩
                              clear hK K
                              try simp only [Act.put, List.setIfInBounds_toArray, List.set_cons_zero, List.set_cons_succ]
                              refine J_one 7 rfl (by kernel_rfl) (fun K hK => ?_)
                              refine step_append_lies _ rfl _ _ 83 rfl w.heap.size 87 i0 _ 3 32 Try.underlying83 hi0 hz0 hz1 hz2 rfl (by decide) v l.length (rents l) (by simp [Act.eval, Act.put]) (hown.out _) ⟨w7.heap.size, 0, none⟩ 1 1 (rcells (En.mk q B 0 ⟨#[]⟩)) (by simp [Act.eval, Act.put]) rfl hnews.out (by simp [rcells, Value.oneCell']) (by decide) (by unfold maxLen; omega) (by omega) (by have := hw7.out; simp; omega) (w7.heap.size + 1) (by simp) ?_
                              intro ga ca w8 ho8 hgr8 hga8 _
                              obtain ⟨I3, m4, hM, hO9, hX9⟩ := hpost.out ga ca w8 ho8 hgr8 hga8
                              clear ho8 hgr8 hpost I0 I1 hnews
                              have m3 := I3.1
                              have m5 := I3.2.1
                              refine hK _ _ ⟨fun _ => I3, ?_⟩
                              clear hK K
                              try simp only [Act.put, List.getElem_toArray, List.getElem_cons_zero, List.getElem_cons_succ, List.setIfInBounds_toArray, List.set_cons_zero, List.set_cons_succ]
                              refine J_one 8 rfl (by kernel_rfl) (fun K hK => ?_)
                              go_simp
                              refine hK _ _ ⟨fun _ => I3, ?_⟩
                              clear hK K
                              try simp only [Act.put, List.setIfInBounds_toArray, List.set_cons_zero, List.set_cons_succ]
                              refine J_one 9 rfl (by kernel_rfl) (fun K hK => ?_)
                              go_simp
                              refine hK _ _ ⟨fun _ => I3, ?_⟩
                              clear hK K
                              try simp only [Act.put, List.setIfInBounds_toArray, List.set_cons_zero, List.set_cons_succ]
                              refine J_one 10 rfl (by kernel_rfl) (fun K hK => ?_)
                              go_simp
                              refine hK _ _ ⟨fun h => absurd rfl h, ?_⟩
                              clear hK K
                              refine J_done (by kernel_rfl) (OnlyOn.normal ?_)
                              have hgpN : Hid (g ≠ p) := by have := hgp.out; unfold Hid; omega
                              have hm3 : (w8.setCell ⟨g, 1, none⟩ (Value.slice (some ⟨ga, 0, none⟩) (l.length + 1) ca)).cell? ⟨p, 0, none⟩ = some (.int .i64 B) := set_keep m5 (fun e => hgpN.out (congrArg Addr.block e))
                              generalize (Value.slice (some ⟨ga, 0, none⟩) (l.length + 1) ca) = v' at *
                              generalize w8.setCell ⟨g, 1, none⟩ v' = w9 at *
                              have hYpos := hid (show 1 * size ≤ B * size from Int.mul_le_mul (by omega) (Int.le_refl _) (by omega) (by omega))
                              clear I3 m3 m4 m5 c1 e0 e1 e2 hm ho hown hvp
                              go_wp2
                              go_round
                              case rel => exact ⟨((a : Int) + B * size).toNat, q + B, l ++ [(En.mk q B 0 ⟨#[]⟩)], v', by rw [Int.toNat_of_nonneg (by omega)], by unfold Hid; rw [Int.toNat_of_nonneg (by omega), hYn.out], hop2, hM, hO9, hX9⟩
                              case measure => have := hYpos.out; simp [intOf]; omega
                        · rw [if_neg hK] at hXX
                          have dK : (K == 0) = false := by simpa using hK
                          rw [dK] at e1
                          have hE : Hid (q + B = N ↔ (a : Int) + B * size = n) := ⟨fun h => hYe.out.1 (by omega), fun h => by have := hYe.out.2 h; omega⟩
                          clear hYb hYc hYe
                          by_cases hT : 2048 < T
                          · have hnf := hid (hnoR.out (fun h => by omega))
                            clear hnoR hgo hE hTx hXX hcS
                            go_upto_region 14 with (go_at_call 39; refine (hcT.out _ (h.out.ext hx.out)).mono ?_; rintro e u1 ⟨rfl, hdr⟩)
                            have hfin : Hid (∀ w', Ext w w' → RP (.returned (.tuple #[.pointer none, .int .i64 11])) w') := fun w' hx' => hNo.out w' hx' hnf.out
                            have hx7 := hid (hx.out.trans hdr.ext)
                            replace e0 := hdr.ext.cell e0
                            clear hp hm ho hcT h1 hdr
                            go_quiet (fail)
                            go_wp2
                            exact hfin.out _ (hx7.out.drewN_right _)
                          · have hN := hid (fun w => rneeds_any size T w hsz.1 hsz.2 (by omega) (by omega))
                            by_cases hnb : needS size T = B
                            · have hTx2 : a + 12 + T.toNat ≤ n := by have := hTx.out hBq hnb; rw [hlen.out] at this; exact this
                              have hr0 : Hid (1 ≤ B ∧ B ≤ N - q ∧ (K = 0 ∨ (T ≤ 2048 ∧ needS size T = B))) := ⟨by omega, hBq, .inr ⟨by omega, hnb⟩⟩
                              obtain ⟨-, -, -, -, hgo1, hgo2⟩ := hgo.out hr0.out
                              obtain rfl := hXX.out
                              dsimp only at hgo1 hgo2
                              have hop2 := hid (hgo1 (fun h0 => absurd h0 (by decide)))
                              clear hgo1 hgo2 hnoR hgo hr0 hXX hTx
                              have d2 : (B != needS size T) = false := by rw [hnb]; simp
                              clear hnb
                              generalize needS size T = ns at *
                              obtain ⟨k, rfl⟩ : ∃ k : Nat, T = k := ⟨T.toNat, by omega⟩
                              rw [Int.toNat_natCast] at hTx2 hop2
                              have hgr0 := hid (h.out.ext hx.out)
                              go_upto_region 14 with (go_at_call 39; refine (hcT.out _ hgr0.out).mono ?_; rintro e u1 ⟨rfl, hdr⟩)
                              replace e0 := hdr.ext.cell e0
                              replace e1 := hdr.ext.cell e1
                              replace e2 := hdr.ext.cell e2
                              replace hp := hid (hp.out.ext hdr.ext)
                              replace hm := hid (hm.out.ext hdr.ext)
                              replace ho := hid (hdr.ext.own ho.out)
                              replace hx := hid (hx.out.trans hdr.ext)
                              clear hdr hcT hgr0 h1
                              go_quiet ((go_at_call 35; exact quiet_left (hN.out _)))
                              replace e0 : (u1.drewN nq).cell? ⟨p, 0, none⟩ = some (.int .i64 B) := e0
                              replace e1 : (u1.drewN nq).cell? ⟨p, 1, none⟩ = some (.bool false) := e1
                              replace e2 : (u1.drewN nq).cell? ⟨p, 2, none⟩ = some (.string ⟨#[]⟩) := e2
                              replace hp : Hid (There (u1.drewN nq) p 3) := hp.out
                              replace hm := hid (hm.out.ext (Ext.drewN u1 nq))
                              replace ho := hid ((Ext.drewN u1 nq).own ho.out)
                              replace hx := hid (hx.out.drewN_right nq)
                              generalize u1.drewN nq = u2 at *
                              have hcv := hcS.out k u2 hTx2 hx.out
                              have e4 := hp.out.free (o := 2) (by omega)
                              have z0 : (m12 : Int) ≤ (m12 : Int) + (k : Int) := by omega
                              have z1 : IntKind.i64.wrap ((m12 : Int) + (k : Int)) = (m12 : Int) + (k : Int) := IntWalk.i64_in _ (by have := hm12.out; omega)
                              have z2 : ((m12 : Int) + (k : Int)).toNat - m12 = k := by omega
                              have z3 : (m12 : Int) + (k : Int) ≤ (c : Int) := by have := hm12.out; omega
                              clear hN d2 hcS
                              go_upto_region 17 with fail
                              have hwpw : w.heap.size ≤ p := by have := hgp.out; have := hgw.out; omega
                              have hgpn : p ≠ g := by have := hgp.out; omega
                              have hvpn : v.ownBlock ≠ some p := fun e => by have := hvp.out p e; omega
                              replace e0 := set_keep (p := ⟨p, 2, none⟩) (v := .string (SS k)) e0 (off_ne (by decide))
                              replace e1 := set_keep (p := ⟨p, 2, none⟩) (v := .string (SS k)) e1 (off_ne (by decide))
                              replace e2 := set_get (p := ⟨p, 2, none⟩) (v := .string (SS k)) e2
                              replace hm := hid (hm.out.other hgpn hvpn 2 (.string (SS k)))
                              replace ho := hid (own_set ho.out hvpn 2 (.string (SS k)))
                              replace hx := hid (Ext.set hx.out (p := ⟨p, 2, none⟩) hwpw (.string (SS k)))
                              clear e4 hcv hp hwpw hgpn hvpn z0 z1 z2 z3
                              generalize u2.setCell ⟨p, 2, none⟩ (.string (SS k)) = u3 at *
                              clear hE
                              go_quiet (fail)
                              replace e0 : (u3.drewN nq).cell? ⟨p, 0, none⟩ = some (.int .i64 B) := e0
                              replace e1 : (u3.drewN nq).cell? ⟨p, 1, none⟩ = some (.bool false) := e1
                              replace e2 : (u3.drewN nq).cell? ⟨p, 2, none⟩ = some (.string (SS k)) := e2
                              replace hm := hid (hm.out.ext (Ext.drewN u3 nq))
                              replace ho := hid ((Ext.drewN u3 nq).own ho.out)
                              replace hx := hid (hx.out.drewN_right nq)
                              generalize u3.drewN nq = w7 at *
                              obtain ⟨i0, hi0, hz0, hz1, hz2⟩ := info_parts infoRe
                              have c1 := hm.out.c1
                              have hown := hid (fun (cs : Array Value) => ((Ext.refl w7).drew_right.alloc_right (.cells cs 87)).own ho.out)
                              have hnews : Hid (∀ j u, (rcells (En.mk q B 1 (SS k)))[j]? = some u → (w7.drew.alloc (.cells #[.int .i64 B, .bool false, .string (SS k)] 87)).cell? ((⟨w7.heap.size, 0, none⟩ : Addr).add j) = some u) := World.news_of_block (heap_alloc_new w7.drew _)
                              have hw7 : Hid (w.heap.size ≤ w7.heap.size) := hx.out.size
                              have hpost : Hid (∀ (ga ca : Nat) (w8 : World), w8.ownsRow w.heap.size 87 3 (Value.slice (some ⟨ga, 0, none⟩) (l.length + 1) ca) (l.length + 1) (rents l ++ rcells (En.mk q B 1 (SS k))) → (w7.drew.alloc (.cells #[.int .i64 B, .bool false, .string (SS k)] 87)).grownBy w8 v.ownBlock → (v.ownBlock = some ga ∨ ga = w7.heap.size + 1) → ((fun w' : World => w'.cell? ⟨g, 1, none⟩ = some v ∧ w'.cell? ⟨p, 0, none⟩ = some (.int .i64 B) ∧ w'.cell? ⟨p, 1, none⟩ = some (.bool false) ∧ w'.cell? ⟨p, 2, none⟩ = some (.string (SS k))) w8 ∧ w8.frozen? ⟨g, 1, none⟩ = false ∧ Hid (RA (w8.setCell ⟨g, 1, none⟩ (Value.slice (some ⟨ga, 0, none⟩) (l.length + 1) ca)) g size (Value.slice (some ⟨ga, 0, none⟩) (l.length + 1) ca) (l ++ [(En.mk q B 1 (SS k))])) ∧ Hid ((w8.setCell ⟨g, 1, none⟩ (Value.slice (some ⟨ga, 0, none⟩) (l.length + 1) ca)).ownsRow w.heap.size 87 3 (Value.slice (some ⟨ga, 0, none⟩) (l.length + 1) ca) (l ++ [(En.mk q B 1 (SS k))]).length (rents (l ++ [(En.mk q B 1 (SS k))]))) ∧ Hid (Ext w (w8.setCell ⟨g, 1, none⟩ (Value.slice (some ⟨ga, 0, none⟩) (l.length + 1) ca))))) := by
                                intro ga ca w8 ho8 hgr hga
                                have hxe : Ext w7 (w7.drew.alloc (.cells #[.int .i64 B, .bool false, .string (SS k)] 87)) := (Ext.refl w7).drew_right.alloc_right _
                                have hgr2 := (Ext.grown hxe v.ownBlock).trans hgr
                                have hl1 : (l ++ [(En.mk q B 1 (SS k))]).length = l.length + 1 := by simp
                                have ho9 : w8.ownsRow w.heap.size 87 3 (Value.slice (some ⟨ga, 0, none⟩) (l.length + 1) ca) (l ++ [(En.mk q B 1 (SS k))]).length (rents (l ++ [(En.mk q B 1 (SS k))])) := by rw [hl1, rents_append]; simpa [rents] using ho8
                                have hpv : v.ownBlock ≠ some p := fun e => by have := hvp.out p e; omega
                                have hgv := hm.out.ne
                                have hglt := hm.out.lt
                                have hne : (Value.slice (some ⟨ga, 0, none⟩) (l.length + 1) ca).ownBlock ≠ some g := fun e => by
                                  have e2 : ga = g := by simpa [Value.ownBlock] using e
                                  rcases hga with e3 | e3
                                  · exact hgv (by rw [e3, e2])
                                  · omega
                                have hm8 := (hgr2.block g hglt (fun e => hgv e.symm)).trans hm.out.1
                                refine ⟨⟨hgr2.cell c1 (fun e => hgv e.symm), hgr2.cell e0 (fun e => hpv e.symm), hgr2.cell e1 (fun e => hpv e.symm), hgr2.cell e2 (fun e => hpv e.symm)⟩, Lib.frozen_of_heap hm8 1, RA.putH hm8 (own_baseK ho9 (Nat.zero_le _)) hne, own_set ho9 hne 1 _, ?_⟩
                                exact Ext.set (ext_push (hx.out.trans hxe) (hown.out _) hgr) (p := ⟨g, 1, none⟩) hgw.out _
                              have I0 : (fun w' : World => w'.cell? ⟨g, 1, none⟩ = some v ∧ w'.cell? ⟨p, 0, none⟩ = some (.int .i64 B) ∧ w'.cell? ⟨p, 1, none⟩ = some (.bool false) ∧ w'.cell? ⟨p, 2, none⟩ = some (.string (SS k))) w7.drew := ⟨c1, e0, e1, e2⟩
                              have I1 : (fun w' : World => w'.cell? ⟨g, 1, none⟩ = some v ∧ w'.cell? ⟨p, 0, none⟩ = some (.int .i64 B) ∧ w'.cell? ⟨p, 1, none⟩ = some (.bool false) ∧ w'.cell? ⟨p, 2, none⟩ = some (.string (SS k))) (w7.drew.alloc (.cells #[.int .i64 B, .bool false, .string (SS k)] 87)) := by
                                have hxe : Ext w7 (w7.drew.alloc (.cells #[.int .i64 B, .bool false, .string (SS k)] 87)) := (Ext.refl w7).drew_right.alloc_right _
                                exact ⟨hxe.cell c1, hxe.cell e0, hxe.cell e1, hxe.cell e2⟩
                              have hlen4 : l.length + 1 ≤ 5000 := by omega
                              go_upto_region 19 with fail
                              refine region_J (fun w' => w'.cell? ⟨g, 1, none⟩ = some v ∧ w'.cell? ⟨p, 0, none⟩ = some (.int .i64 B) ∧ w'.cell? ⟨p, 1, none⟩ = some (.bool false) ∧ w'.cell? ⟨p, 2, none⟩ = some (.string (SS k))) 10 (by kernel_rfl) ?_
                              refine J_take 0 (v := ?vz10) rfl (by kernel_rfl) (by kernel_rfl) (by kernel_rfl) (by kernel_rfl) (fun _ _ _ h => h) (Or.inl ⟨by rfl, ?yz10⟩) I0 ?rz10
                              case yz10 => (intro w hSw; obtain ⟨_, _, _, _⟩ := hSw; (go_simp; with_reducible rfl))
                              simp only [Act.put, List.getElem_toArray, List.getElem_cons_zero, List.getElem_cons_succ, List.setIfInBounds_toArray, List.set_cons_zero, List.set_cons_succ]
                              refine J_take 1 (v := ?vz11) rfl (by kernel_rfl) (by kernel_rfl) (by kernel_rfl) (by kernel_rfl) (fun _ _ _ h => h) (Or.inl ⟨by rfl, ?yz11⟩) I0 ?rz11
                              case yz11 => (intro w hSw; obtain ⟨_, _, _, _⟩ := hSw; (go_simp; with_reducible rfl))
                              simp only [Act.put, List.getElem_toArray, List.getElem_cons_zero, List.getElem_cons_succ, List.setIfInBounds_toArray, List.set_cons_zero, List.set_cons_succ]
                              refine J_take 2 (v := ?vz12) rfl (by kernel_rfl) (by kernel_rfl) (by kernel_rfl) (by kernel_rfl) (fun _ _ _ h => h) (Or.inl ⟨by rfl, ?yz12⟩) I0 ?rz12
                              case yz12 => (intro w hSw; obtain ⟨_, _, _, _⟩ := hSw; (go_simp; with_reducible rfl))
                              simp only [Act.put, List.getElem_toArray, List.getElem_cons_zero, List.getElem_cons_succ, List.setIfInBounds_toArray, List.set_cons_zero, List.set_cons_succ]
                              refine J_take 3 (v := ?vz13) rfl (by kernel_rfl) (by kernel_rfl) (by kernel_rfl) (by kernel_rfl) (fun _ _ _ h => h) (Or.inl ⟨by rfl, ?yz13⟩) I0 ?rz13
                              case yz13 => (intro w hSw; obtain ⟨_, _, _, _⟩ := hSw; (go_simp; with_reducible rfl))
                              simp only [Act.put, List.getElem_toArray, List.getElem_cons_zero, List.getElem_cons_succ, List.setIfInBounds_toArray, List.set_cons_zero, List.set_cons_succ]
                              refine J_take 4 (v := ?vz14) rfl (by kernel_rfl) (by kernel_rfl) (by kernel_rfl) (by kernel_rfl) (fun _ _ _ h => h) (Or.inl ⟨by rfl, ?yz14⟩) I0 ?rz14
                              case yz14 => (intro w hSw; obtain ⟨_, _, _, _⟩ := hSw; (go_simp; with_reducible rfl))
                              simp only [Act.put, List.getElem_toArray, List.getElem_cons_zero, List.getElem_cons_succ, List.setIfInBounds_toArray, List.set_cons_zero, List.set_cons_succ]
                              refine J_take 5 (v := ?vz15) rfl (by kernel_rfl) (by kernel_rfl) (by kernel_rfl) (by kernel_rfl) (fun _ _ _ h => h) (Or.inl ⟨by rfl, ?yz15⟩) I0 ?rz15
                              case yz15 => (intro w hSw; obtain ⟨_, _, _, _⟩ := hSw; (go_simp; with_reducible rfl))
                              simp only [Act.put, List.getElem_toArray, List.getElem_cons_zero, List.getElem_cons_succ, List.setIfInBounds_toArray, List.set_cons_zero, List.set_cons_succ]
                              refine J_one 6 rfl (by kernel_rfl) (fun K hK => ?_)
                              go_simp
                              refine hK _ _ ⟨fun _ => I1, ?_⟩
                              clear hK K
                              try simp only [Act.put, List.setIfInBounds_toArray, List.set_cons_zero, List.set_cons_succ]
                              refine J_one 7 rfl (by kernel_rfl) (fun K hK => ?_)
                              refine step_append_lies _ rfl _ _ 83 rfl w.heap.size 87 i0 _ 3 32 Try.underlying83 hi0 hz0 hz1 hz2 rfl (by decide) v l.length (rents l) (by simp [Act.eval, Act.put]) (hown.out _) ⟨w7.heap.size, 0, none⟩ 1 1 (rcells (En.mk q B 1 (SS k))) (by simp [Act.eval, Act.put]) rfl hnews.out (by simp [rcells, Value.oneCell']) (by decide) (by unfold maxLen; omega) (by omega) (by have := hw7.out; simp; omega) (w7.heap.size + 1) (by simp) ?_
                              intro ga ca w8 ho8 hgr8 hga8 _
                              obtain ⟨I3, m4, hM, hO9, hX9⟩ := hpost.out ga ca w8 ho8 hgr8 hga8
                              clear ho8 hgr8 hpost I0 I1 hnews
                              have m3 := I3.1
                              have m5 := I3.2.1
                              refine hK _ _ ⟨fun _ => I3, ?_⟩
                              clear hK K
                              try simp only [Act.put, List.getElem_toArray, List.getElem_cons_zero, List.getElem_cons_succ, List.setIfInBounds_toArray, List.set_cons_zero, List.set_cons_succ]
                              refine J_one 8 rfl (by kernel_rfl) (fun K hK => ?_)
                              go_simp
                              refine hK _ _ ⟨fun _ => I3, ?_⟩
                              clear hK K
                              try simp only [Act.put, List.setIfInBounds_toArray, List.set_cons_zero, List.set_cons_succ]
                              refine J_one 9 rfl (by kernel_rfl) (fun K hK => ?_)
                              go_simp
                              refine hK _ _ ⟨fun _ => I3, ?_⟩
                              clear hK K
                              try simp only [Act.put, List.setIfInBounds_toArray, List.set_cons_zero, List.set_cons_succ]
                              refine J_one 10 rfl (by kernel_rfl) (fun K hK => ?_)
                              go_simp
                              refine hK _ _ ⟨fun h => absurd rfl h, ?_⟩
                              clear hK K
                              refine J_done (by kernel_rfl) (OnlyOn.normal ?_)
                              have hgpN : Hid (g ≠ p) := by have := hgp.out; unfold Hid; omega
                              have hm3 : (w8.setCell ⟨g, 1, none⟩ (Value.slice (some ⟨ga, 0, none⟩) (l.length + 1) ca)).cell? ⟨p, 0, none⟩ = some (.int .i64 B) := set_keep m5 (fun e => hgpN.out (congrArg Addr.block e))
                              generalize (Value.slice (some ⟨ga, 0, none⟩) (l.length + 1) ca) = v' at *
                              generalize w8.setCell ⟨g, 1, none⟩ v' = w9 at *
                              have hYpos := hid (show 1 * size ≤ B * size from Int.mul_le_mul (by omega) (Int.le_refl _) (by omega) (by omega))
                              clear I3 m3 m4 m5 c1 e0 e1 e2 hm ho hown hvp
                              go_wp2
                              go_round
                              case rel => exact ⟨((a : Int) + B * size).toNat, q + B, l ++ [(En.mk q B 1 (SS k))], v', by rw [Int.toNat_of_nonneg (by omega)], by unfold Hid; rw [Int.toNat_of_nonneg (by omega), hYn.out], hop2, hM, hO9, hX9⟩
                              case measure => have := hYpos.out; simp [intOf]; omega
                            · have hnf := hid (hnoR.out (fun h => hnb (by omega)))
                              have d2 : (B != needS size T) = true := by simpa using fun e => hnb e.symm
                              clear hnoR hgo hE hTx hXX hcS
                              have hfin : Hid (∀ w', Ext w w' → RP (.returned (.tuple #[.pointer none, .int .i64 11])) w') := fun w' hx' => hNo.out w' hx' hnf.out
                              clear hnb
                              generalize needS size T = ns at *
                              go_upto_region 14 with (go_at_call 39; refine (hcT.out _ (h.out.ext hx.out)).mono ?_; rintro e u1 ⟨rfl, hdr⟩)
                              have hx7 := hid (hx.out.trans hdr.ext)
                              replace e0 := hdr.ext.cell e0
                              clear hp hm ho hcT h1 hdr
                              go_quiet ((go_at_call 35; exact quiet_left (hN.out _)))
                              go_wp2
                              exact hfin.out _ (hx7.out.drewN_right _)
              · have hq1 := (op_len hop.out).2.1
                obtain rfl : q = N := by omega
                obtain rfl : a = n := by have := ha.out; have := hP'.out; omega
                obtain ⟨hG, hy, hn'⟩ := op_all hb hop.out hn.out hz.out (by omega)
                have hBy := hid (rBytes_any size g v l wr.drew (hm.out.ext (Ext.refl _).drew_right) hG hsz.1 hsz.2)
                have hfr : Hid (∀ k, v.ownBlock = some k → w.heap.size ≤ k) := fun k e => own_freshB ho.out k e
                have heb := hid (eqB_iff (isB_file size l) h.out.2)
                replace heb : Hid (((strI (fileB size l)).toList == (strI L).toList) = true ↔ fileB size l = L) := heb
                replace hy := hid hy
                replace hn' := hid hn'
                clear hG
                generalize fileB size l = F at *
                have hcL : Hid (∀ w', Ext w w' → (convert 27 9 (.slice (some ad) a c)).run Try.prog w' = .ok (.string (strI L)) w') := fun w' hx => conv_rd (h.out.ext hx)
                have hcF : Hid (∀ (w' : World) (B m : Nat) (v' : Value), w'.ownsRow B 5 1 v' m (bys F) → (convert 27 9 v').run Try.prog w' = .ok (.string (strI F)) w') := fun w' B m v' h => conv_own h
                generalize strI F = sF at *
                generalize strI L = sL at *
                go_upto_region 21 with fail
                have hx4 : Hid (Ext w wr.drew) := hx.out.drew_right
                have hm4 : Hid (RA wr.drew g size v l) := hm.out.ext (Ext.refl _).drew_right
                refine region_J (fun w' => Ext w w') 6 (by kernel_rfl) ?_
                generalize wr.drew = w4 at *
                refine J_takeO 0 (v := ?vu0) rfl (by kernel_rfl) (by kernel_rfl) (by kernel_rfl) (by kernel_rfl) (fun _ _ _ h => h) (Or.inl ⟨by rfl, ?yu0⟩) hx4.out ?ru0
                case yu0 => (intro w hSw; obtain _ := hSw; (go_simp; with_reducible rfl))
                simp only [Act.put, List.getElem_toArray, List.getElem_cons_zero, List.getElem_cons_succ, List.setIfInBounds_toArray, List.set_cons_zero, List.set_cons_succ]
                refine J_takeO 3 (v := ?vu3) rfl (by kernel_rfl) (by kernel_rfl) (by kernel_rfl) (by kernel_rfl) (fun _ _ _ h => h) (Or.inl ⟨by rfl, ?yu3⟩) hx4.out ?ru3
                case yu3 => (intro w hSw; obtain _ := hSw; (go_simp; with_reducible rfl))
                simp only [Act.put, List.getElem_toArray, List.getElem_cons_zero, List.getElem_cons_succ, List.setIfInBounds_toArray, List.set_cons_zero, List.set_cons_succ]
                refine J_takeO 4 (v := ?vu4) rfl (by kernel_rfl) (by kernel_rfl) (by kernel_rfl) (by kernel_rfl) (fun _ _ _ h => h) (Or.inl ⟨by rfl, ?yu4⟩) hx4.out ?ru4
                case yu4 => (intro w hSw; obtain hSw := hSw; (have hcv := hcL.out _ hSw; go_simp; with_reducible rfl))
                simp only [Act.put, List.getElem_toArray, List.getElem_cons_zero, List.getElem_cons_succ, List.setIfInBounds_toArray, List.set_cons_zero, List.set_cons_succ]
                refine J_one 1 rfl (by kernel_rfl) (fun K hK => ?_)
                go_simp
                refine hBy.out.mono ?_
                rintro e w5 ⟨v2, rfl, o2, hx45⟩
                have hx5 : Hid (Ext w w5) := hx4.out.trans hx45
                have hm5 := hid (hm4.out.ext hx45)
                have hcv := hcF.out _ _ _ _ o2
                obtain ⟨A2, c2, rfl, -⟩ := own_form o2
                clear o2 hBy
                refine hK _ _ ⟨fun _ => hx5.out, ?_⟩
                clear hK K
                try simp only [Act.put, List.getElem_toArray, List.getElem_cons_zero, List.getElem_cons_succ, List.setIfInBounds_toArray, List.set_cons_zero, List.set_cons_succ]
                refine J_one 2 rfl (by kernel_rfl) (fun K hK => ?_)
                go_simp
                refine hK _ _ ⟨fun _ => hx5.out, ?_⟩
                clear hK K
                try simp only [Act.put, List.setIfInBounds_toArray, List.set_cons_zero, List.set_cons_succ]
                refine J_one 5 rfl (by kernel_rfl) (fun K hK => ?_)
                go_simp
                refine hK _ _ ⟨fun _ => hx5.out, ?_⟩
                clear hK K
                try simp only [Act.put, List.setIfInBounds_toArray, List.set_cons_zero, List.set_cons_succ]
                refine J_done (by kernel_rfl) (OnlyOn.normal ?_)
                clear hcv hcL hcF
                cases hbe : (sF.toList == sL.toList) with
                | true =>
                  have hFL := heb.out.1 hbe
                  obtain ⟨hO, hu⟩ := hy.out hFL
                  have hfin := hid (hYes.out _ size l g v hx5.out hO hu hm5.out hgw.out hfr.out)
                  have d8 : (sF.toList != sL.toList) = false := by unfold bne; rw [hbe]; rfl
                  clear hFL hO hu hn' hy heb
                  go_wp2
                  exact hfin.out
                | false =>
                  have hnf := hid (hn'.out (fun e => by rw [heb.out.2 e] at hbe; cases hbe))
                  have hfin := hid (hNo.out _ hx5.out hnf.out)
                  have d8 : (sF.toList != sL.toList) = true := by unfold bne; rw [hbe]; rfl
                  clear hn' hy heb hnf
                  go_wp2
                  exact hfin.out
          · have hnf := hid (hhd.out (.inr (.inr (.inr (by rw [hlen.out]; exact hP)))))
            have d3 : ((n : Int) != N * size) = true := by simpa using hP
            clear hP
            go_wp2_with fail
            refine (risSize_any size _).mono ?_
            rintro e w' ⟨rfl, rfl⟩
            rw [hb]
            go_wp2
            exact hNo.out _ hx1.out (hnf.out)
    · have hbf : szB size = false := by simpa using hb
      have hnf := hid (hhd.out (.inl hbf))
      clear hb
      go_wp2_with fail
      refine (risSize_any size _).mono ?_
      rintro e w' ⟨rfl, rfl⟩
      rw [hbf]
      go_wp2
      exact hNo.out _ hx1.out (hnf.out)
end Go.Proofs.Ytcgjhloiokpicaa
