/-
  The law of any row of puts and takes.
-/
import Derived.Test.YtpijfiaecicpfaaEn
namespace Go.Proofs.Ytpijfiaecicpfaa
open Go.RowKit Go.Shelf
set_option linter.unusedVariables false
set_option linter.unusedSimpArgs false
set_option maxRecDepth 100000 in
set_option maxHeartbeats 4000000 in
theorem anyrow_law (A : Option Addr) (n c : Nat) (l : List Ac) (w : World) (hl : RdA w A n c l) : Calls Try.prog 7 #[.slice A n c] w (Give (.bool true) w) := by
  have hmx := Rd.max hl.1
  have hO := hid (over_any A n c l w hl)
  go_enter Try.func7, Try.ntmps7
  go_wp2_with fail
  refine hO.out.mono ?_
  rintro e w1 ⟨b, rfl, hb, hx1⟩
  replace hx1 := hid hx1
  replace hb := hid hb
  clear hO
  cases b with
  | true =>
    go_wp2_with fail
    refine (known_any _).mono ?_
    rintro e w2 ⟨rfl, hx⟩
    go_wp2
    go_ret
    exact ⟨rfl, hx1.out.trans hx⟩
  | false =>
    have hn := hb.out rfl
    go_wp2_with fail
    refine (New_TA w w1 hx1.out).mono ?_
    rintro e w2 ⟨t, rfl, hT, -⟩
    replace hT := hid hT
    clear hx1 hb
    go_wp2_with fail
    go_loopw [4] (fun i wr => ∃ (k : Nat) (L : List Te), k ≤ n ∧ i = .int .i64 k ∧ L.length ≤ 1200 ∧ Hid (TA w wr t L)) (fun i _ => n - (intOf i).toNat)
    case atStart => exact ⟨0, [], by omega, rfl, Nat.zero_le _, hT⟩
    case round =>
      obtain ⟨k, L, hk, rfl, hL12, hT⟩ := hrel
      by_cases hlt : k < n
      · obtain ⟨ad, rfl, z0, z1, -, z4, -, -⟩ := (hl.ext hT.out.2.1).at_ hlt
        have hki : (k : Int) < (n : Int) := by omega
        have hcl : Hid (∀ w', Ext w w' → w'.cell? (ad.add (k * 6)) = some (.int .i64 (ath l k).op) ∧ w'.cell? ⟨(ad.add (k * 6)).block, (ad.add (k * 6)).off + 1, none⟩ = some (.int .i64 (ath l k).a) ∧ w'.cell? ⟨(ad.add (k * 6)).block, (ad.add (k * 6)).off + 4, none⟩ = some (.string (ath l k).s)) := fun w' hx => by
          obtain ⟨ad', e, z0, z1, -, z4, -, -⟩ := (hl.ext hx).at_ hlt
          obtain rfl := Option.some.inj e
          exact ⟨z0, z1, z4⟩
        generalize ath l k = x at *
        by_cases hop : x.op = 1
        · have hop2 : (x.op == 1) = true := by rw [hop]; rfl
          clear hop
          go_upto_region 8 with fail
          have I0 : (fun w' : World => w'.cell? (ad.add (k * 6)) = some (.int .i64 x.op) ∧ w'.cell? ⟨(ad.add (k * 6)).block, (ad.add (k * 6)).off + 1, none⟩ = some (.int .i64 x.a) ∧ w'.cell? ⟨(ad.add (k * 6)).block, (ad.add (k * 6)).off + 4, none⟩ = some (.string x.s)) wr.drew := ⟨z0, z1, z4⟩
          refine region_J (fun w' : World => w'.cell? (ad.add (k * 6)) = some (.int .i64 x.op) ∧ w'.cell? ⟨(ad.add (k * 6)).block, (ad.add (k * 6)).off + 1, none⟩ = some (.int .i64 x.a) ∧ w'.cell? ⟨(ad.add (k * 6)).block, (ad.add (k * 6)).off + 4, none⟩ = some (.string x.s)) 12 (by kernel_rfl) ?_
          replace hT : Hid (TA w wr.drew t L) := hT.out.ext (Ext.drewN wr 1)
          clear z0 z1 z4
          generalize wr.drew = wr at *
          refine J_takeO 0 (v := ?vt0) rfl (by kernel_rfl) (by kernel_rfl) (by kernel_rfl) (by kernel_rfl) (fun _ _ _ h => h) (Or.inl ⟨by rfl, ?yt0⟩) I0 ?rt0
          case yt0 => (intro w hSw; obtain ⟨_, _, _⟩ := hSw; (go_simp; with_reducible rfl))
          simp only [Act.put, List.getElem_toArray, List.getElem_cons_zero, List.getElem_cons_succ, List.setIfInBounds_toArray, List.set_cons_zero, List.set_cons_succ]
          refine J_takeO 1 (v := ?vt1) rfl (by kernel_rfl) (by kernel_rfl) (by kernel_rfl) (by kernel_rfl) (fun _ _ _ h => h) (Or.inl ⟨by rfl, ?yt1⟩) I0 ?rt1
          case yt1 => (intro w hSw; obtain ⟨_, _, _⟩ := hSw; (go_simp; with_reducible rfl))
          simp only [Act.put, List.getElem_toArray, List.getElem_cons_zero, List.getElem_cons_succ, List.setIfInBounds_toArray, List.set_cons_zero, List.set_cons_succ]
          refine J_takeO 2 (v := ?vt2) rfl (by kernel_rfl) (by kernel_rfl) (by kernel_rfl) (by kernel_rfl) (fun _ _ _ h => h) (Or.inl ⟨by rfl, ?yt2⟩) I0 ?rt2
          case yt2 => (intro w hSw; obtain ⟨_, _, _⟩ := hSw; (go_simp; with_reducible rfl))
          simp only [Act.put, List.getElem_toArray, List.getElem_cons_zero, List.getElem_cons_succ, List.setIfInBounds_toArray, List.set_cons_zero, List.set_cons_succ]
          refine J_takeO 3 (v := ?vt3) rfl (by kernel_rfl) (by kernel_rfl) (by kernel_rfl) (by kernel_rfl) (fun _ _ _ h => h) (Or.inl ⟨by rfl, ?yt3⟩) I0 ?rt3
          case yt3 => (intro w hSw; obtain ⟨_, _, _⟩ := hSw; (go_simp; with_reducible rfl))
          simp only [Act.put, List.getElem_toArray, List.getElem_cons_zero, List.getElem_cons_succ, List.setIfInBounds_toArray, List.set_cons_zero, List.set_cons_succ]
          refine J_takeO 4 (v := ?vt4) rfl (by kernel_rfl) (by kernel_rfl) (by kernel_rfl) (by kernel_rfl) (fun _ _ _ h => h) (Or.inl ⟨by rfl, ?yt4⟩) I0 ?rt4
          case yt4 => (intro w hSw; obtain ⟨_, _, _⟩ := hSw; (go_simp; with_reducible rfl))
          simp only [Act.put, List.getElem_toArray, List.getElem_cons_zero, List.getElem_cons_succ, List.setIfInBounds_toArray, List.set_cons_zero, List.set_cons_succ]
          refine J_takeO 5 (v := ?vt5) rfl (by kernel_rfl) (by kernel_rfl) (by kernel_rfl) (by kernel_rfl) (fun _ _ _ h => h) (Or.inl ⟨by rfl, ?yt5⟩) I0 ?rt5
          case yt5 => (intro w hSw; obtain ⟨_, _, _⟩ := hSw; (go_simp; with_reducible rfl))
          simp only [Act.put, List.getElem_toArray, List.getElem_cons_zero, List.getElem_cons_succ, List.setIfInBounds_toArray, List.set_cons_zero, List.set_cons_succ]
          refine J_takeO 6 (v := ?vt6) rfl (by kernel_rfl) (by kernel_rfl) (by kernel_rfl) (by kernel_rfl) (fun _ _ _ h => h) (Or.inl ⟨by rfl, ?yt6⟩) I0 ?rt6
          case yt6 => (intro w hSw; obtain ⟨_, _, _⟩ := hSw; (go_simp; with_reducible rfl))
          simp only [Act.put, List.getElem_toArray, List.getElem_cons_zero, List.getElem_cons_succ, List.setIfInBounds_toArray, List.set_cons_zero, List.set_cons_succ]
          refine J_takeO 7 (v := ?vt7) rfl (by kernel_rfl) (by kernel_rfl) (by kernel_rfl) (by kernel_rfl) (fun _ _ _ h => h) (Or.inl ⟨by rfl, ?yt7⟩) I0 ?rt7
          case yt7 => (intro w hSw; obtain ⟨_, _, _⟩ := hSw; (go_simp; with_reducible rfl))
          simp only [Act.put, List.getElem_toArray, List.getElem_cons_zero, List.getElem_cons_succ, List.setIfInBounds_toArray, List.set_cons_zero, List.set_cons_succ]
          refine J_takeO 8 (v := ?vt8) rfl (by kernel_rfl) (by kernel_rfl) (by kernel_rfl) (by kernel_rfl) (fun _ _ _ h => h) (Or.inl ⟨by rfl, ?yt8⟩) I0 ?rt8
          case yt8 => (intro w hSw; obtain ⟨_, _, _⟩ := hSw; (go_simp; with_reducible rfl))
          simp only [Act.put, List.getElem_toArray, List.getElem_cons_zero, List.getElem_cons_succ, List.setIfInBounds_toArray, List.set_cons_zero, List.set_cons_succ]
          refine J_takeO 9 (v := ?vt9) rfl (by kernel_rfl) (by kernel_rfl) (by kernel_rfl) (by kernel_rfl) (fun _ _ _ h => h) (Or.inl ⟨by rfl, ?yt9⟩) I0 ?rt9
          case yt9 => (intro w hSw; obtain ⟨_, _, _⟩ := hSw; (go_simp; with_reducible rfl))
          simp only [Act.put, List.getElem_toArray, List.getElem_cons_zero, List.getElem_cons_succ, List.setIfInBounds_toArray, List.set_cons_zero, List.set_cons_succ]
          refine J_takeO 10 (v := ?vt10) rfl (by kernel_rfl) (by kernel_rfl) (by kernel_rfl) (by kernel_rfl) (fun _ _ _ h => h) (Or.inl ⟨by rfl, ?yt10⟩) I0 ?rt10
          case yt10 => (intro w hSw; obtain ⟨_, _, _⟩ := hSw; (go_simp; with_reducible rfl))
          simp only [Act.put, List.getElem_toArray, List.getElem_cons_zero, List.getElem_cons_succ, List.setIfInBounds_toArray, List.set_cons_zero, List.set_cons_succ]
          refine J_one 11 rfl (by kernel_rfl) (fun K hK => ?_)
          go_simp
          refine (Take_TA hT.out x.s x.a).mono ?_
          rintro e w7 ⟨rfl, hT7⟩
          replace hT7 := hid hT7
          have I7 : (fun w' : World => w'.cell? (ad.add (k * 6)) = some (.int .i64 x.op) ∧ w'.cell? ⟨(ad.add (k * 6)).block, (ad.add (k * 6)).off + 1, none⟩ = some (.int .i64 x.a) ∧ w'.cell? ⟨(ad.add (k * 6)).block, (ad.add (k * 6)).off + 4, none⟩ = some (.string x.s)) w7 := hcl.out w7 hT7.out.2.1
          refine hK _ _ ⟨fun _ => I7, ?_⟩
          clear hK K
          try simp only [Act.put, List.getElem_toArray, List.getElem_cons_zero, List.getElem_cons_succ, List.setIfInBounds_toArray, List.set_cons_zero, List.set_cons_succ]
          refine J_done (by kernel_rfl) (OnlyOn.normal ?_)
          go_wp2_with fail
          go_roundw
          case rel => exact ⟨k + 1, takeLs L ⟨x.s, x.a⟩, by omega, by go_num, take_le hL12, hT7⟩
          case measure => simp [intOf]; omega
        · have hop2 : (x.op == 1) = false := by rw [beq_eq_false_iff_ne]; exact hop
          clear hop
          go_upto_region 9 with fail
          have I0 : (fun w' : World => w'.cell? (ad.add (k * 6)) = some (.int .i64 x.op) ∧ w'.cell? ⟨(ad.add (k * 6)).block, (ad.add (k * 6)).off + 1, none⟩ = some (.int .i64 x.a) ∧ w'.cell? ⟨(ad.add (k * 6)).block, (ad.add (k * 6)).off + 4, none⟩ = some (.string x.s)) wr.drew := ⟨z0, z1, z4⟩
          refine region_J (fun w' : World => w'.cell? (ad.add (k * 6)) = some (.int .i64 x.op) ∧ w'.cell? ⟨(ad.add (k * 6)).block, (ad.add (k * 6)).off + 1, none⟩ = some (.int .i64 x.a) ∧ w'.cell? ⟨(ad.add (k * 6)).block, (ad.add (k * 6)).off + 4, none⟩ = some (.string x.s)) 12 (by kernel_rfl) ?_
          replace hT : Hid (TA w wr.drew t L) := hT.out.ext (Ext.drewN wr 1)
          clear z0 z1 z4
          generalize wr.drew = wr at *
          refine J_takeO 0 (v := ?vp0) rfl (by kernel_rfl) (by kernel_rfl) (by kernel_rfl) (by kernel_rfl) (fun _ _ _ h => h) (Or.inl ⟨by rfl, ?yp0⟩) I0 ?rp0
          case yp0 => (intro w hSw; obtain ⟨_, _, _⟩ := hSw; (go_simp; with_reducible rfl))
          simp only [Act.put, List.getElem_toArray, List.getElem_cons_zero, List.getElem_cons_succ, List.setIfInBounds_toArray, List.set_cons_zero, List.set_cons_succ]
          refine J_takeO 1 (v := ?vp1) rfl (by kernel_rfl) (by kernel_rfl) (by kernel_rfl) (by kernel_rfl) (fun _ _ _ h => h) (Or.inl ⟨by rfl, ?yp1⟩) I0 ?rp1
          case yp1 => (intro w hSw; obtain ⟨_, _, _⟩ := hSw; (go_simp; with_reducible rfl))
          simp only [Act.put, List.getElem_toArray, List.getElem_cons_zero, List.getElem_cons_succ, List.setIfInBounds_toArray, List.set_cons_zero, List.set_cons_succ]
          refine J_takeO 2 (v := ?vp2) rfl (by kernel_rfl) (by kernel_rfl) (by kernel_rfl) (by kernel_rfl) (fun _ _ _ h => h) (Or.inl ⟨by rfl, ?yp2⟩) I0 ?rp2
          case yp2 => (intro w hSw; obtain ⟨_, _, _⟩ := hSw; (go_simp; with_reducible rfl))
          simp only [Act.put, List.getElem_toArray, List.getElem_cons_zero, List.getElem_cons_succ, List.setIfInBounds_toArray, List.set_cons_zero, List.set_cons_succ]
          refine J_takeO 3 (v := ?vp3) rfl (by kernel_rfl) (by kernel_rfl) (by kernel_rfl) (by kernel_rfl) (fun _ _ _ h => h) (Or.inl ⟨by rfl, ?yp3⟩) I0 ?rp3
          case yp3 => (intro w hSw; obtain ⟨_, _, _⟩ := hSw; (go_simp; with_reducible rfl))
          simp only [Act.put, List.getElem_toArray, List.getElem_cons_zero, List.getElem_cons_succ, List.setIfInBounds_toArray, List.set_cons_zero, List.set_cons_succ]
          refine J_takeO 4 (v := ?vp4) rfl (by kernel_rfl) (by kernel_rfl) (by kernel_rfl) (by kernel_rfl) (fun _ _ _ h => h) (Or.inl ⟨by rfl, ?yp4⟩) I0 ?rp4
          case yp4 => (intro w hSw; obtain ⟨_, _, _⟩ := hSw; (go_simp; with_reducible rfl))
          simp only [Act.put, List.getElem_toArray, List.getElem_cons_zero, List.getElem_cons_succ, List.setIfInBounds_toArray, List.set_cons_zero, List.set_cons_succ]
          refine J_takeO 5 (v := ?vp5) rfl (by kernel_rfl) (by kernel_rfl) (by kernel_rfl) (by kernel_rfl) (fun _ _ _ h => h) (Or.inl ⟨by rfl, ?yp5⟩) I0 ?rp5
          case yp5 => (intro w hSw; obtain ⟨_, _, _⟩ := hSw; (go_simp; with_reducible rfl))
          simp only [Act.put, List.getElem_toArray, List.getElem_cons_zero, List.getElem_cons_succ, List.setIfInBounds_toArray, List.set_cons_zero, List.set_cons_succ]
          refine J_takeO 6 (v := ?vp6) rfl (by kernel_rfl) (by kernel_rfl) (by kernel_rfl) (by kernel_rfl) (fun _ _ _ h => h) (Or.inl ⟨by rfl, ?yp6⟩) I0 ?rp6
          case yp6 => (intro w hSw; obtain ⟨_, _, _⟩ := hSw; (go_simp; with_reducible rfl))
          simp only [Act.put, List.getElem_toArray, List.getElem_cons_zero, List.getElem_cons_succ, List.setIfInBounds_toArray, List.set_cons_zero, List.set_cons_succ]
          refine J_takeO 7 (v := ?vp7) rfl (by kernel_rfl) (by kernel_rfl) (by kernel_rfl) (by kernel_rfl) (fun _ _ _ h => h) (Or.inl ⟨by rfl, ?yp7⟩) I0 ?rp7
          case yp7 => (intro w hSw; obtain ⟨_, _, _⟩ := hSw; (go_simp; with_reducible rfl))
          simp only [Act.put, List.getElem_toArray, List.getElem_cons_zero, List.getElem_cons_succ, List.setIfInBounds_toArray, List.set_cons_zero, List.set_cons_succ]
          refine J_takeO 8 (v := ?vp8) rfl (by kernel_rfl) (by kernel_rfl) (by kernel_rfl) (by kernel_rfl) (fun _ _ _ h => h) (Or.inl ⟨by rfl, ?yp8⟩) I0 ?rp8
          case yp8 => (intro w hSw; obtain ⟨_, _, _⟩ := hSw; (go_simp; with_reducible rfl))
          simp only [Act.put, List.getElem_toArray, List.getElem_cons_zero, List.getElem_cons_succ, List.setIfInBounds_toArray, List.set_cons_zero, List.set_cons_succ]
          refine J_takeO 9 (v := ?vp9) rfl (by kernel_rfl) (by kernel_rfl) (by kernel_rfl) (by kernel_rfl) (fun _ _ _ h => h) (Or.inl ⟨by rfl, ?yp9⟩) I0 ?rp9
          case yp9 => (intro w hSw; obtain ⟨_, _, _⟩ := hSw; (go_simp; with_reducible rfl))
          simp only [Act.put, List.getElem_toArray, List.getElem_cons_zero, List.getElem_cons_succ, List.setIfInBounds_toArray, List.set_cons_zero, List.set_cons_succ]
          refine J_takeO 10 (v := ?vp10) rfl (by kernel_rfl) (by kernel_rfl) (by kernel_rfl) (by kernel_rfl) (fun _ _ _ h => h) (Or.inl ⟨by rfl, ?yp10⟩) I0 ?rp10
          case yp10 => (intro w hSw; obtain ⟨_, _, _⟩ := hSw; (go_simp; with_reducible rfl))
          simp only [Act.put, List.getElem_toArray, List.getElem_cons_zero, List.getElem_cons_succ, List.setIfInBounds_toArray, List.set_cons_zero, List.set_cons_succ]
          refine J_one 11 rfl (by kernel_rfl) (fun K hK => ?_)
          go_simp
          refine (Put_TA hT.out x.s x.a).mono ?_
          rintro e w7 ⟨rfl, hT7⟩
          replace hT7 := hid hT7
          have I7 : (fun w' : World => w'.cell? (ad.add (k * 6)) = some (.int .i64 x.op) ∧ w'.cell? ⟨(ad.add (k * 6)).block, (ad.add (k * 6)).off + 1, none⟩ = some (.int .i64 x.a) ∧ w'.cell? ⟨(ad.add (k * 6)).block, (ad.add (k * 6)).off + 4, none⟩ = some (.string x.s)) w7 := hcl.out w7 hT7.out.2.1
          refine hK _ _ ⟨fun _ => I7, ?_⟩
          clear hK K
          try simp only [Act.put, List.getElem_toArray, List.getElem_cons_zero, List.getElem_cons_succ, List.setIfInBounds_toArray, List.set_cons_zero, List.set_cons_succ]
          refine J_done (by kernel_rfl) (OnlyOn.normal ?_)
          go_wp2_with fail
          go_roundw
          case rel => exact ⟨k + 1, putLs L ⟨x.s, x.a⟩, by omega, by go_num, put_le hL12, hT7⟩
          case measure => simp [intOf]; omega
      · obtain rfl : k = n := by omega
        have hRg := hid (Range_TA hT.out ⟨#[]⟩ ⟨#[]⟩ (-1) L (range_all L).symm)
        have hsr := hid hT.out.sr
        have hok := hid hT.out.oks
        go_wp2_with fail
        refine hRg.out.mono ?_
        rintro e w3 ⟨A1, c1, A2, c2, rfl, hk1, hr1, hx3, hf1, hf2⟩
        have hmk := Rd.max hk1
        have hmr := RdI.max hr1
        have hba := hid (build_all hsr.out hok.out hL12)
        have hBd := hid (fun w' (hx : Ext w3 w') => Build_any A1 L.length c1 A2 L.length c2 (L.map Te.key) (L.map Te.no) w' (hk1.ext hx) (hr1.ext hx) (by omega))
        replace hk1 := hid hk1
        replace hr1 := hid hr1
        replace hf1 := hid hf1
        replace hf2 := hid hf2
        replace hx3 := hid hx3
        have hT3 := hid (hT.out.ext hx3.out)
        rw [hba.out.1, hba.out.2] at hBd
        clear hRg hba
        go_wp2_with fail
        refine (hBd.out w3 (Ext.refl _)).mono ?_
        rintro e w4 ⟨v, E', rfl, hx4, hyes, -, hE'⟩
        obtain rfl := hE'
        obtain ⟨u, rfl, hU⟩ := hyes rfl
        replace hU := hid hU
        replace hx4 := hid hx4
        have hT4 := hid (hT3.out.ext hx4.out)
        have hS4 := hid (Same_TA hT4.out hU.out true (by exact ⟨fun _ => rfl, fun _ => rfl⟩))
        have hLn := hid (fun w' (hx : Ext w4 w') => Len_TA (hT4.out.ext hx))
        clear hBd hyes
        go_wp2_with fail
        refine hS4.out.mono ?_
        rintro e w5 ⟨rfl, hx5⟩
        replace hx5 := hid hx5
        clear hS4
        go_wp2_with fail
        refine (hLn.out w5 hx5.out).mono ?_
        rintro e w6 ⟨rfl, hx6⟩
        have hx36 := hid (hx4.out.trans (hx5.out.trans hx6))
        have hK6 := hid (TK.start hT.out (hx3.out.trans hx36.out))
        have hk6 := hid (hk1.out.ext hx36.out)
        have hr6 := hid (hr1.out.ext hx36.out)
        clear hLn hx5 hx4 hx6 hU hT4 hT3 hk1 hr1
        go_wp2_with fail
        obtain ⟨wz, hwz⟩ : ∃ wz, wz = wr := ⟨_, rfl⟩
        subst hwz
        go_loopw [9] (fun i wr => ∃ (q : Nat), q ≤ L.length ∧ i = .int .i64 q ∧ Hid (TK w wz w6 wr t L)) (fun i _ => L.length - (intOf i).toNat)
        case atStart => exact ⟨0, Nat.zero_le _, rfl, hK6⟩
        case round =>
          obtain ⟨q, hq, rfl, hK⟩ := hrel
          by_cases hqt : q < L.length
          · have hat := hid (At_TA hK.out.ta (q : Int) (some (tth L q)) (by unfold Hid; rw [atT_nat, tth_get hqt, List.getElem?_eq_getElem hqt]))
            have hrk := hid (fun w' (hx : Ext wr w') => Rank_TA (hK.out.ext hx).ta (tth L q).key (tth L q).no)
            have e1 : rankT L ⟨(tth L q).key, (tth L q).no⟩ = q := rank_at hsr.out hqt
            rw [e1] at hrk
            have hpt := hid (fun w' (hx : Ext wr w') => (hK.out.ext hx).put (tth L q).key (tth L q).no)
            have hmem : tth L q ∈ L := by rw [tth_get hqt]; exact List.getElem_mem hqt
            have e2 := put_there (hok.out _ hmem) hmem
            have e3 : (⟨(tth L q).key, (tth L q).no⟩ : Te) = tth L q := rfl
            rw [e3, e2.1, e2.2] at hpt
            obtain ⟨a1, rfl, d1⟩ := rds_at (hK.out.rd hk6.out hf1.out) hqt
            obtain ⟨a2, rfl, d2⟩ := rdi_at (hK.out.rd hr6.out hf2.out) hqt
            have e4 : sth (L.map Te.key) q = (tth L q).key := by rw [sth_get (by rw [List.length_map]; exact hqt), List.getElem_map, tth_get hqt]
            have e5 : ith (L.map Te.no) q = (tth L q).no := by rw [ith_get (by rw [List.length_map]; exact hqt), List.getElem_map, tth_get hqt]
            rw [e4] at d1
            rw [e5] at d2
            have hqi : (q : Int) < (L.length : Int) := by omega
            clear e1 e2 e3 e4 e5 hmem hK
            generalize tth L q = x at *
            go_wp2_with fail
            refine hat.out.mono ?_
            rintro e w9 ⟨rfl, hx9⟩
            replace d1 := hx9.cell d1
            replace d2 := hx9.cell d2
            replace hx9 := hid hx9
            clear hat
            simp only [TV]
            go_wp2_with fail
            refine (hrk.out w9 hx9.out).mono ?_
            rintro e w10 ⟨rfl, hx10⟩
            replace hx10 := hid (hx9.out.trans hx10)
            clear hrk d1 d2
            go_wp2_with fail
            refine (hpt.out w10 hx10.out).mono ?_
            rintro e w11 ⟨rfl, hK11⟩
            replace hK11 := hid hK11
            clear hpt
            go_wp2_with fail
            go_roundw
            case rel => exact ⟨q + 1, by omega, by go_num, hK11⟩
            case measure => simp [intOf]; omega
          · obtain rfl : q = L.length := by omega
            have hfx := hid hK.out.2.1
            go_wp2_with fail
            refine (known_any _).mono ?_
            rintro e w9 ⟨rfl, hx9⟩
            go_wp2
            go_ret
            exact ⟨rfl, hfx.out.trans hx9⟩
end Go.Proofs.Ytpijfiaecicpfaa
