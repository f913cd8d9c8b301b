/-
  MemoOpens: the walk of the law.
-/
import Derived.Test.YtcgjhloiokpicaaOk
import Derived.Test.YtcgjhloiokpicaaOl
namespace Go.Proofs.Ytcgjhloiokpicaa
open Go.RowKit Go.Shelf
set_option linter.unusedVariables false
set_option linter.unusedSimpArgs false
set_option maxRecDepth 100000 in
set_option maxHeartbeats 4000000 in
theorem opens_law (A : Option Addr) (n c : Nat) (L : List Int) (w : World) (h : RdB w A n c L) : Calls Try.prog 4 #[.slice A n c] w (Give (.bool true) w) := by
  have hlen := h.len
  have hmx := Rd.max h.1
  by_cases hz : 2097152 < n
  · have dz : (2097152 : Int) < (n : Int) := by omega
    clear hz h
    go_enter Try.func4, Try.ntmps4
    go_wp2_with fail
    refine (known_any _).mono ?_
    rintro e w1 ⟨rfl, hx1⟩
    go_wp2
    go_ret
    exact ⟨rfl, hx1⟩
  · have dz : ¬ (2097152 : Int) < (n : Int) := by omega
    clear hz
    replace hlen := hid hlen
    have ho := hid (fun RP => Open_rp A n c L w h RP)
    have hro := hid (fun w' (hx : Ext w w') RP => rOpen_rp A n c L w' (h.ext hx) RP)
    replace h := hid h
    go_enter Try.func4, Try.ntmps4
    go_wp2_with fail
    refine ho.out _ ?_ ?_
    · intro w1 hx1 hnf
      replace hx1 := hid hx1
      replace hnf := hid hnf
      go_wp2_with fail
      refine hro.out _ hx1.out _ ?_ (fun w' size l g v _ hO => absurd hO (hnf.out _ _))
      intro w2 hx2 _
      replace hx2 := hid (hx1.out.trans hx2)
      go_wp2_with fail
      refine (known_any _).mono ?_
      rintro e w3 ⟨rfl, hx3⟩
      go_wp2
      go_ret
      exact ⟨rfl, hx2.out.trans hx3⟩
    · intro w1 size l g v hx1 hO hu hm hg hv
      replace hx1 := hid hx1
      replace hO := hid hO
      replace hu := hid hu
      replace hm := hid hm
      replace hg := hid hg
      replace hv := hid hv
      go_wp2_with fail
      refine hro.out _ hx1.out _ (fun w' _ hnf => absurd hO.out (hnf _ _)) ?_
      intro w2 size' l' r vr hx2 hO2 _ hr hgr hvr
      obtain ⟨rfl, rfl⟩ := hu.out _ _ hO2
      have hx4 := hid (hx1.out.trans hx2)
      have hn16 : ¬ L.length < 16 := fun h => op_small h _ _ hO2
      obtain ⟨ad, rfl, -⟩ := h.out.at_ (k := 0) (by have := hlen.out; omega)
      have hcL : Hid (∀ w', Ext w w' → (convert 27 9 (.slice (some ad) n c)).run Try.prog w' = .ok (.string (strI L)) w') := fun w' hx => conv_rd (h.out.ext hx)
      clear hn16 hlen
      have hm4 := hid (hm.out.ext hx2)
      have hap : Hid (Apart g v r vr) := ⟨by have := hm.out.lt; omega, fun e => by have := (hm.out.own.lt r e).2; omega, fun e => by have := hvr g e; have := hm.out.lt; omega, fun k e e2 => by have := (hm.out.own.lt k e).2; have := hvr k e2; omega⟩
      have hr4 := hid hr
      have hb := sz_bd hO2.1
      have hG := hO2.2.1
      have hF := hO2.2.2
      have gf := good_facts hG
      have hBy := hid (fun w (h : MA 0 w g size' v l') => Bytes_any size' g v l' w h hG hb.1 hb.2)
      have hEn := hid (fun w (h : MA 0 w g size' v l') => Entries_any size' g v l' w h (by omega))
      have hrE := hid (fun w (h : RA w r size' vr l') => rEntries_any size' r vr l' w h hG)
      have hcF : Hid (∀ (w' : World) (B m : Nat) (v' : Value), w'.ownsRow B 5 1 v' m (bys (fileB size' l')) → (convert 27 9 v').run Try.prog w' = .ok (.string (strI L)) w') := fun w' B m v' h => by rw [← hF]; exact conv_own h
      generalize strI L = sL at *
      have hss : Hid ((sL.toList == sL.toList) = true) := by unfold Hid; simp
      clear hF hG gf hb hO2 hr hgr hvr hx2 hm hO hu hx1 hro ho
      go_upto_region 9 with fail
      replace hx4 := hid (hx4.out.drew_right)
      replace hm4 := hid (hm4.out.ext (Ext.refl _).drew_right)
      replace hr4 := hid (hr4.out.ext (Ext.refl _).drew_right)
      refine region_J (fun w' => Ext w w') 17 (by kernel_rfl) ?_
      generalize w2.drew = w4 at *
      refine J_takeO 0 (v := ?va0) rfl (by kernel_rfl) (by kernel_rfl) (by kernel_rfl) (by kernel_rfl) (fun _ _ _ h => h) (Or.inl ⟨by rfl, ?ya0⟩) hx4.out ?ra0
      case ya0 => (intro w hSw; obtain _ := hSw; (go_simp; with_reducible rfl))
      simp only [Act.put, List.getElem_toArray, List.getElem_cons_zero, List.getElem_cons_succ, List.setIfInBounds_toArray, List.set_cons_zero, List.set_cons_succ]
      refine J_takeO 3 (v := ?va3) rfl (by kernel_rfl) (by kernel_rfl) (by kernel_rfl) (by kernel_rfl) (fun _ _ _ h => h) (Or.inl ⟨by rfl, ?ya3⟩) hx4.out ?ra3
      case ya3 => (intro w hSw; obtain _ := hSw; (go_simp; with_reducible rfl))
      simp only [Act.put, List.getElem_toArray, List.getElem_cons_zero, List.getElem_cons_succ, List.setIfInBounds_toArray, List.set_cons_zero, List.set_cons_succ]
      refine J_takeO 4 (v := ?va4) rfl (by kernel_rfl) (by kernel_rfl) (by kernel_rfl) (by kernel_rfl) (fun _ _ _ h => h) (Or.inl ⟨by rfl, ?ya4⟩) hx4.out ?ra4
      case ya4 => (intro w hSw; obtain hSw := hSw; (have hcv := hcL.out _ hSw; go_simp; with_reducible rfl))
      simp only [Act.put, List.getElem_toArray, List.getElem_cons_zero, List.getElem_cons_succ, List.setIfInBounds_toArray, List.set_cons_zero, List.set_cons_succ]
      refine J_one 1 rfl (by kernel_rfl) (fun K hK => ?_)
      go_simp
      refine (hBy.out _ hm4.out).mono ?_
      rintro e w5 ⟨v2, rfl, o2, hm5, hmt⟩
      have hx5 : Hid (Ext w w5) := hmt.extF hx4.out hg.out hv.out
      have hr5 := hid (hmt.ra hr4.out hap.out)
      have hcv := hcF.out _ _ _ _ o2
      obtain ⟨A2, c2, rfl, -⟩ := own_form o2
      replace hm5 := hid hm5
      clear o2 hmt hBy hm4 hr4
      refine hK _ _ ⟨fun _ => hx5.out, ?_⟩
      clear hK K
      try simp only [Act.put, List.getElem_toArray, List.getElem_cons_zero, List.getElem_cons_succ, List.setIfInBounds_toArray, List.set_cons_zero, List.set_cons_succ]
      refine J_one 2 rfl (by kernel_rfl) (fun K hK => ?_)
      go_simp
      refine hK _ _ ⟨fun _ => hx5.out, ?_⟩
      clear hK K
      try simp only [Act.put, List.setIfInBounds_toArray, List.set_cons_zero, List.set_cons_succ]
      clear hcv hcF hcL
      refine J_one 5 rfl (by kernel_rfl) (fun K hK => ?_)
      go_simp
      refine hK _ _ ⟨fun _ => hx5.out, ?_⟩
      clear hK K
      try simp only [Act.put, List.setIfInBounds_toArray, List.set_cons_zero, List.set_cons_succ]
      refine J_one 6 rfl (by kernel_rfl) (fun K hK => ?_)
      go_simp
      refine hK _ _ ⟨fun _ => hx5.out, ?_⟩
      clear hK K
      try simp only [Act.put, List.setIfInBounds_toArray, List.set_cons_zero, List.set_cons_succ]
      refine J_takeO 7 (v := ?vb7) rfl (by kernel_rfl) (by kernel_rfl) (by kernel_rfl) (by kernel_rfl) (fun _ _ _ h => h) (Or.inl ⟨by rfl, ?yb7⟩) hx5.out ?rb7
      case yb7 => (intro w hSw; obtain _ := hSw; (go_simp; with_reducible rfl))
      simp only [Act.put, List.getElem_toArray, List.getElem_cons_zero, List.getElem_cons_succ, List.setIfInBounds_toArray, List.set_cons_zero, List.set_cons_succ]
      refine J_takeO 9 (v := ?vb9) rfl (by kernel_rfl) (by kernel_rfl) (by kernel_rfl) (by kernel_rfl) (fun _ _ _ h => h) (Or.inl ⟨by rfl, ?yb9⟩) hx5.out ?rb9
      case yb9 => (intro w hSw; obtain _ := hSw; (go_simp; with_reducible rfl))
      simp only [Act.put, List.getElem_toArray, List.getElem_cons_zero, List.getElem_cons_succ, List.setIfInBounds_toArray, List.set_cons_zero, List.set_cons_succ]
      refine J_one 8 rfl (by kernel_rfl) (fun K hK => ?_)
      go_simp
      refine (hEn.out _ hm5.out).mono ?_
      rintro e w6 ⟨v3, rfl, o3, hm6, hmt⟩
      have hx6 : Hid (Ext w w6) := hmt.extF hx5.out hg.out hv.out
      have hr6 := hid (hmt.ra hr5.out hap.out)
      obtain ⟨A3, c3, rfl, -⟩ := own_form o3
      have hT3 := hid (Rd.of_own o3)
      clear o3 hmt hm6 hm5 hr5 hEn
      refine hK _ _ ⟨fun _ => hx6.out, ?_⟩
      clear hK K
      try simp only [Act.put, List.getElem_toArray, List.getElem_cons_zero, List.getElem_cons_succ, List.setIfInBounds_toArray, List.set_cons_zero, List.set_cons_succ]
      refine J_one 10 rfl (by kernel_rfl) (fun K hK => ?_)
      go_simp
      refine (hrE.out _ hr6.out).mono ?_
      rintro e w7 ⟨v4, rfl, o4, hxr⟩
      have hx7 := hid (hx6.out.trans hxr)
      obtain ⟨A4, c4, rfl, -⟩ := own_form o4
      have hT4 := hid (Rd.of_own o4)
      replace hT3 := hid (hT3.out.ext hxr)
      clear o4 hxr hr6 hrE
      refine hK _ _ ⟨fun _ => hx7.out, ?_⟩
      clear hK K
      try simp only [Act.put, List.getElem_toArray, List.getElem_cons_zero, List.getElem_cons_succ, List.setIfInBounds_toArray, List.set_cons_zero, List.set_cons_succ]
      refine J_one 11 rfl (by kernel_rfl) (fun K hK => ?_)
      go_simp
      refine (entries_any _ _ _ _ _ l' w7 hT3.out hT4.out).mono ?_
      rintro e w8 ⟨rfl, hdr⟩
      have hx8 := hid (hx7.out.trans hdr.ext)
      clear hdr hT3 hT4
      refine hK _ _ ⟨fun _ => hx8.out, ?_⟩
      clear hK K
      try simp only [Act.put, List.getElem_toArray, List.getElem_cons_zero, List.getElem_cons_succ, List.setIfInBounds_toArray, List.set_cons_zero, List.set_cons_succ]
      refine J_one 12 rfl (by kernel_rfl) (fun K hK => ?_)
      go_simp
      refine hK _ _ ⟨fun _ => hx8.out, ?_⟩
      clear hK K
      try simp only [Act.put, List.setIfInBounds_toArray, List.set_cons_zero, List.set_cons_succ]
      refine J_one 13 rfl (by kernel_rfl) (fun K hK => ?_)
      go_simp
      refine hK _ _ ⟨fun _ => hx8.out, ?_⟩
      clear hK K
      try simp only [Act.put, List.setIfInBounds_toArray, List.set_cons_zero, List.set_cons_succ]
      refine J_one 14 rfl (by kernel_rfl) (fun K hK => ?_)
      go_simp
      refine (known_any _).mono ?_
      rintro e w9 ⟨rfl, hxk⟩
      have hx9 := hid (hx8.out.trans hxk)
      clear hxk
      refine hK _ _ ⟨fun _ => hx9.out, ?_⟩
      clear hK K
      try simp only [Act.put, List.getElem_toArray, List.getElem_cons_zero, List.getElem_cons_succ, List.setIfInBounds_toArray, List.set_cons_zero, List.set_cons_succ]
      refine J_one 15 rfl (by kernel_rfl) (fun K hK => ?_)
      go_simp
      refine hK _ _ ⟨fun _ => hx9.out, ?_⟩
      clear hK K
      try simp only [Act.put, List.setIfInBounds_toArray, List.set_cons_zero, List.set_cons_succ]
      refine J_one 16 rfl (by kernel_rfl) (fun K hK => ?_)
      go_simp
      refine hK _ _ ⟨fun _ => hx9.out, ?_⟩
      clear hK K
      try simp only [Act.put, List.setIfInBounds_toArray, List.set_cons_zero, List.set_cons_succ]
      refine J_done (by kernel_rfl) (OnlyOn.normal ?_)
      go_wp2
      go_ret
      exact ⟨rfl, hx9.out⟩
end Go.Proofs.Ytcgjhloiokpicaa
