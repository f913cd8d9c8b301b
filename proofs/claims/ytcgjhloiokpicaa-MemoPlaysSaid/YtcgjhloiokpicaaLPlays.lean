/-
  MemoPlays: the walk of the law.
-/
import Derived.Test.YtcgjhloiokpicaaPw
namespace Go.Proofs.Ytcgjhloiokpicaa
open Go.RowKit Go.MuLone Go.Shelf
set_option linter.unusedVariables false
set_option linter.unusedSimpArgs false
section
variable {P : Program} {ops : Array Oper} {Q : Exit → Act → World → Prop} {md : Region.Mode} {S S' : World → Prop} {last : Nat}
/-- What is asked of the world may be made more on the way. -/
theorem J_strong (hS : ∀ w, S' w → S w) : ∀ {fuel : Nat} {listed : Array Bool} {a : Act} {w : World}, wpAnyJ P md ops Q S' last fuel listed a w → wpAnyJ P md ops Q S last fuel listed a w
  | 0, _, _, _, h => h
  | fuel + 1, _, _, _, h => ⟨h.1, fun i hi => wpOp_mono (fun a' w' h' => ⟨fun hn => hS _ (h'.1 hn), J_strong hS h'.2⟩) (h.2 i hi)⟩
end
theorem good_nil (size : Int) : Good size [] := ⟨1, ⟨rfl, rfl⟩, by decide⟩
set_option maxRecDepth 100000 in
set_option maxHeartbeats 4000000 in
theorem plays_law (size : Int) (A : Option Addr) (n c : Nat) (l : List Ac) (w : World) (_ : (Lit.int IntKind.i64 size).wf = true) (h : RdA w A n c l) : Calls Try.prog 5 #[.int .i64 size, .slice A n c] w (Give (.bool true) w) := by
  have hO := hid (over_any A n c l w h)
  have hmx := Rd.max h.1
  replace h := hid h
  have hnew := hid (fun w => New_any size w)
  have hrnew := hid (fun w => rNew_any size w)
  go_enter Try.func5, Try.ntmps5
  go_wp2_with fail
  refine hO.out.mono ?_
  rintro e w1 ⟨b, rfl, hb, hx1⟩
  replace hb := hid hb
  replace hx1 := hid hx1
  clear hO
  cases b with
  | true =>
    go_wp2_with fail
    refine (known_any _).mono ?_
    rintro e w2 ⟨rfl, hx⟩
    go_wp2
    go_ret
    exact ⟨rfl, hx1.out.trans hx⟩
  | false =>
    have hn4 := hb.out rfl
    go_wp2_with fail
    refine (hnew.out _).mono ?_
    rintro e w2 (⟨hb1, rfl, rfl⟩ | ⟨hb1, rfl, hm, hx⟩)
    · replace hb1 := hid hb1
      go_wp2_with fail
      refine (hrnew.out _).mono ?_
      rintro e w3 (⟨hb2, rfl, rfl⟩ | ⟨hb2, rfl, hm, hx⟩)
      · go_wp2_with fail
        refine (known_any _).mono ?_
        rintro e w2 ⟨rfl, hx⟩
        go_wp2
        go_ret
        exact ⟨rfl, hx1.out.trans hx⟩
      · rw [hb1.out] at hb2
        cases hb2
    · replace hb1 := hid hb1
      replace hm := hid hm
      have hx2 := hid (hx1.out.trans hx)
      have hg1 := hid hx1.out.size
      have lg := hm.out.lt
      generalize w1.heap.size = g at *
      clear hx
      go_wp2_with fail
      refine (hrnew.out _).mono ?_
      rintro e w3 (⟨hb2, rfl, rfl⟩ | ⟨hb2, rfl, hr, hx⟩)
      · rw [hb1.out] at hb2
        cases hb2
      · have hs := sz_bd hb2
        have hd : Hid (Duo w w3 g w2.heap.size size [] (.slice none 0 0) (.slice none 0 0)) := ⟨hm.out.ext hx, hr, ⟨by omega, fun e => (by cases e), fun e => (by cases e), fun k e => (by cases e)⟩, hx2.out.trans hx, hg1.out, fun k e => (by cases e), hx2.out.size, fun k e => (by cases e)⟩
        generalize w2.heap.size = r at *
        clear hr hx hm hb1 hb2 hnew hrnew hx1 hx2 lg hg1
        go_wp2_with fail
        go_loopw [9] (fun i wr => ∃ (k : Nat) (l' : List En), k ≤ n ∧ i = .int .i64 k ∧ Hid (Good size l') ∧ Hid (Duos w wr g r size l')) (fun i _ => n - (intOf i).toNat)
        case atStart => exact ⟨0, [], by omega, rfl, good_nil size, hd.out.any⟩
        case round =>
          clear hd
          obtain ⟨k, l', hk, rfl, hG, v, vr, hd⟩ := hrel
          replace hd := hid hd
          by_cases hlt : k < n
          · obtain ⟨ad, x, rfl, hxl, hok, -⟩ := h.out.at_ hlt
            have hcs : Hid (∀ w', Ext w w' → w'.cell? (ad.add (k * 6)) = some (.int .i64 x.op) ∧ w'.cell? ⟨(ad.add (k * 6)).block, (ad.add (k * 6)).off + 1, none⟩ = some (.int .i64 x.a) ∧ w'.cell? ⟨(ad.add (k * 6)).block, (ad.add (k * 6)).off + 2, none⟩ = some (.int .i64 x.b) ∧ w'.cell? ⟨(ad.add (k * 6)).block, (ad.add (k * 6)).off + 3, none⟩ = some (.int .i64 x.c) ∧ w'.cell? ⟨(ad.add (k * 6)).block, (ad.add (k * 6)).off + 4, none⟩ = some (.string x.s) ∧ w'.cell? ⟨(ad.add (k * 6)).block, (ad.add (k * 6)).off + 5, none⟩ = some (.string x.t)) := fun w' hx => by
              obtain ⟨ad', x', q1, q2, -, q3⟩ := (h.out.ext hx).at_ hlt
              obtain rfl := Option.some.inj q1
              obtain rfl := Option.some.inj (hxl.symm.trans q2)
              exact q3
            have hPl := hid (fun w' (hd' : Duo w w' g r size l' v vr) => played_any w size g r v vr l' x w' hd' hG.out hs hok)
            obtain ⟨xo, xa, xb, xc, xs, xt⟩ := x
            dsimp only at hcs hPl
            have hkk : (k : Int) < (n : Int) := by omega
            have hk32 : IntKind.i64.wrap ((k : Int).tmod 32) = (k : Int).tmod 32 := IntWalk.i64_in _ (by rw [Int.tmod_eq_emod_of_nonneg (by omega)]; omega)
            clear hxl hok hb hn4
            cases d31 : ((k : Int).tmod 32 == 31) with
            | false =>
              go_upto_region 10 with fail
              have I0 : Ext w wr.drew := hd.out.ex.drew_right
              have dd := hid (hd.out.ext (Ext.refl wr).drew_right)
              refine region_J (fun w' => Ext w w') 22 (by kernel_rfl) ?_
              generalize wr.drew = w4 at *
              clear hd
              refine J_takeO 0 (v := ?vd0) rfl (by kernel_rfl) (by kernel_rfl) (by kernel_rfl) (by kernel_rfl) (fun _ _ _ h => h) (Or.inl ⟨by rfl, ?yd0⟩) I0 ?rd0
              case yd0 => (intro w hSw; (go_simp; with_reducible rfl))
              simp only [Act.put, List.getElem_toArray, List.getElem_cons_zero, List.getElem_cons_succ, List.setIfInBounds_toArray, List.set_cons_zero, List.set_cons_succ]
              refine J_takeO 1 (v := ?vd1) rfl (by kernel_rfl) (by kernel_rfl) (by kernel_rfl) (by kernel_rfl) (fun _ _ _ h => h) (Or.inl ⟨by rfl, ?yd1⟩) I0 ?rd1
              case yd1 => (intro w hSw; (go_simp; with_reducible rfl))
              simp only [Act.put, List.getElem_toArray, List.getElem_cons_zero, List.getElem_cons_succ, List.setIfInBounds_toArray, List.set_cons_zero, List.set_cons_succ]
              refine J_takeO 2 (v := ?vd2) rfl (by kernel_rfl) (by kernel_rfl) (by kernel_rfl) (by kernel_rfl) (fun _ _ _ h => h) (Or.inl ⟨by rfl, ?yd2⟩) I0 ?rd2
              case yd2 => (intro w hSw; (go_simp; with_reducible rfl))
              simp only [Act.put, List.getElem_toArray, List.getElem_cons_zero, List.getElem_cons_succ, List.setIfInBounds_toArray, List.set_cons_zero, List.set_cons_succ]
              refine J_takeO 3 (v := ?vd3) rfl (by kernel_rfl) (by kernel_rfl) (by kernel_rfl) (by kernel_rfl) (fun _ _ _ h => h) (Or.inl ⟨by rfl, ?yd3⟩) I0 ?rd3
              case yd3 => (intro w hSw; (go_simp; with_reducible rfl))
              simp only [Act.put, List.getElem_toArray, List.getElem_cons_zero, List.getElem_cons_succ, List.setIfInBounds_toArray, List.set_cons_zero, List.set_cons_succ]
              refine J_takeO 4 (v := ?vd4) rfl (by kernel_rfl) (by kernel_rfl) (by kernel_rfl) (by kernel_rfl) (fun _ _ _ h => h) (Or.inl ⟨by rfl, ?yd4⟩) I0 ?rd4
              case yd4 => (intro w hSw; (go_simp; with_reducible rfl))
              simp only [Act.put, List.getElem_toArray, List.getElem_cons_zero, List.getElem_cons_succ, List.setIfInBounds_toArray, List.set_cons_zero, List.set_cons_succ]
              refine J_takeO 5 (v := ?vd5) rfl (by kernel_rfl) (by kernel_rfl) (by kernel_rfl) (by kernel_rfl) (fun _ _ _ h => h) (Or.inl ⟨by rfl, ?yd5⟩) I0 ?rd5
              case yd5 => (intro w hSw; (obtain ⟨c0, c1, c2, c3, c4, c5⟩ := hcs.out _ hSw; go_simp; with_reducible rfl))
              simp only [Act.put, List.getElem_toArray, List.getElem_cons_zero, List.getElem_cons_succ, List.setIfInBounds_toArray, List.set_cons_zero, List.set_cons_succ]
              refine J_one 6 rfl (by kernel_rfl) (fun K hK => ?_)
              go_simp
              refine (hPl.out _ dd.out).mono ?_
              rintro e w5 ⟨rfl, l2, hG2, v5, vr5, d5⟩
              have I5 : Ext w w5 := d5.ex
              replace hG2 := hid hG2
              replace d5 := hid d5
              clear dd hPl I0
              refine hK _ _ ⟨fun _ => I5, ?_⟩
              clear hK K
              try simp only [Act.put, List.getElem_toArray, List.getElem_cons_zero, List.getElem_cons_succ, List.setIfInBounds_toArray, List.set_cons_zero, List.set_cons_succ]
              refine J_one 7 rfl (by kernel_rfl) (fun K hK => ?_)
              go_simp
              refine hK _ _ ⟨fun _ => I5, ?_⟩
              clear hK K
              try simp only [Act.put, List.setIfInBounds_toArray, List.set_cons_zero, List.set_cons_succ]
              refine J_one 8 rfl (by kernel_rfl) (fun K hK => ?_)
              go_simp
              refine hK _ _ ⟨fun _ => I5, ?_⟩
              clear hK K
              try simp only [Act.put, List.setIfInBounds_toArray, List.set_cons_zero, List.set_cons_succ]
              refine J_takeO 9 (v := ?vd9) rfl (by kernel_rfl) (by kernel_rfl) (by kernel_rfl) (by kernel_rfl) (fun _ _ _ h => h) (Or.inl ⟨by rfl, ?yd9⟩) I5 ?rd9
              case yd9 => (intro w hSw; (go_simp; with_reducible rfl))
              simp only [Act.put, List.getElem_toArray, List.getElem_cons_zero, List.getElem_cons_succ, List.setIfInBounds_toArray, List.set_cons_zero, List.set_cons_succ]
              refine J_one 10 rfl (by kernel_rfl) (fun K hK => ?_)
              go_simp
              refine hK _ _ ⟨fun _ => I5, ?_⟩
              clear hK K
              try simp only [Act.put, List.setIfInBounds_toArray, List.set_cons_zero, List.set_cons_succ]
              refine J_one 11 rfl (by kernel_rfl) (fun K hK => ?_)
              go_simp
              try rw [d31]
              refine hK _ _ ⟨fun _ => I5, ?_⟩
              clear hK K
              try simp only [Act.put, List.getElem_toArray, List.getElem_cons_zero, List.getElem_cons_succ, List.setIfInBounds_toArray, List.set_cons_zero, List.set_cons_succ]
              refine J_one 12 rfl (by kernel_rfl) (fun K hK => ?_)
              go_simp
              refine hK _ _ ⟨fun _ => I5, ?_⟩
              clear hK K
              try simp only [Act.put, List.setIfInBounds_toArray, List.set_cons_zero, List.set_cons_succ]
              refine J_takeO 13 rfl (by kernel_rfl) (by kernel_rfl) (by kernel_rfl) (by kernel_rfl) (fun _ _ _ h => h) (Or.inr ⟨by rfl, rfl⟩) I5 ?_
              simp only [Act.put, List.getElem_toArray, List.getElem_cons_zero, List.getElem_cons_succ, List.setIfInBounds_toArray, List.set_cons_zero, List.set_cons_succ]
              refine J_takeO 16 rfl (by kernel_rfl) (by kernel_rfl) (by kernel_rfl) (by kernel_rfl) (fun _ _ _ h => h) (Or.inr ⟨by rfl, rfl⟩) I5 ?_
              simp only [Act.put, List.getElem_toArray, List.getElem_cons_zero, List.getElem_cons_succ, List.setIfInBounds_toArray, List.set_cons_zero, List.set_cons_succ]
              refine J_one 14 rfl (by kernel_rfl) (fun K hK => ?_)
              go_simp
              refine hK _ _ ⟨fun _ => I5, ?_⟩
              clear hK K
              try simp only [Act.put, List.setIfInBounds_toArray, List.set_cons_zero, List.set_cons_succ]
              refine J_takeO 15 rfl (by kernel_rfl) (by kernel_rfl) (by kernel_rfl) (by kernel_rfl) (fun _ _ _ h => h) (Or.inr ⟨by rfl, rfl⟩) I5 ?_
              simp only [Act.put, List.getElem_toArray, List.getElem_cons_zero, List.getElem_cons_succ, List.setIfInBounds_toArray, List.set_cons_zero, List.set_cons_succ]
              refine J_one 17 rfl (by kernel_rfl) (fun K hK => ?_)
              go_simp
              refine hK _ _ ⟨fun _ => I5, ?_⟩
              clear hK K
              try simp only [Act.put, List.setIfInBounds_toArray, List.set_cons_zero, List.set_cons_succ]
              refine J_one 18 rfl (by kernel_rfl) (fun K hK => ?_)
              go_simp
              refine hK _ _ ⟨fun _ => I5, ?_⟩
              clear hK K
              try simp only [Act.put, List.setIfInBounds_toArray, List.set_cons_zero, List.set_cons_succ]
              refine J_one 19 rfl (by kernel_rfl) (fun K hK => ?_)
              go_simp
              refine hK _ _ ⟨fun _ => I5, ?_⟩
              clear hK K
              try simp only [Act.put, List.setIfInBounds_toArray, List.set_cons_zero, List.set_cons_succ]
              refine J_one 20 rfl (by kernel_rfl) (fun K hK => ?_)
              go_simp
              refine hK _ _ ⟨fun _ => I5, ?_⟩
              clear hK K
              try simp only [Act.put, List.setIfInBounds_toArray, List.set_cons_zero, List.set_cons_succ]
              refine J_one 21 rfl (by kernel_rfl) (fun K hK => ?_)
              go_simp
              refine hK _ _ ⟨fun _ => I5, ?_⟩
              clear hK K
              try simp only [Act.put, List.setIfInBounds_toArray, List.set_cons_zero, List.set_cons_succ]
              refine J_done (by kernel_rfl) (OnlyOn.normal ?_)
              go_wp2_with fail
              go_roundw
              case rel => exact ⟨k + 1, l2, by omega, by go_num, hG2, d5.out.any⟩
              case measure => simp [intOf]; omega
            | true =>
              go_upto_region 10 with fail
              have I0 : Ext w wr.drew := hd.out.ex.drew_right
              have dd := hid (hd.out.ext (Ext.refl wr).drew_right)
              refine region_J (fun w' => Ext w w') 22 (by kernel_rfl) ?_
              generalize wr.drew = w4 at *
              clear hd
              refine J_takeO 0 (v := ?vc0) rfl (by kernel_rfl) (by kernel_rfl) (by kernel_rfl) (by kernel_rfl) (fun _ _ _ h => h) (Or.inl ⟨by rfl, ?yc0⟩) I0 ?rc0
              case yc0 => (intro w hSw; (go_simp; with_reducible rfl))
              simp only [Act.put, List.getElem_toArray, List.getElem_cons_zero, List.getElem_cons_succ, List.setIfInBounds_toArray, List.set_cons_zero, List.set_cons_succ]
              refine J_takeO 1 (v := ?vc1) rfl (by kernel_rfl) (by kernel_rfl) (by kernel_rfl) (by kernel_rfl) (fun _ _ _ h => h) (Or.inl ⟨by rfl, ?yc1⟩) I0 ?rc1
              case yc1 => (intro w hSw; (go_simp; with_reducible rfl))
              simp only [Act.put, List.getElem_toArray, List.getElem_cons_zero, List.getElem_cons_succ, List.setIfInBounds_toArray, List.set_cons_zero, List.set_cons_succ]
              refine J_takeO 2 (v := ?vc2) rfl (by kernel_rfl) (by kernel_rfl) (by kernel_rfl) (by kernel_rfl) (fun _ _ _ h => h) (Or.inl ⟨by rfl, ?yc2⟩) I0 ?rc2
              case yc2 => (intro w hSw; (go_simp; with_reducible rfl))
              simp only [Act.put, List.getElem_toArray, List.getElem_cons_zero, List.getElem_cons_succ, List.setIfInBounds_toArray, List.set_cons_zero, List.set_cons_succ]
              refine J_takeO 3 (v := ?vc3) rfl (by kernel_rfl) (by kernel_rfl) (by kernel_rfl) (by kernel_rfl) (fun _ _ _ h => h) (Or.inl ⟨by rfl, ?yc3⟩) I0 ?rc3
              case yc3 => (intro w hSw; (go_simp; with_reducible rfl))
              simp only [Act.put, List.getElem_toArray, List.getElem_cons_zero, List.getElem_cons_succ, List.setIfInBounds_toArray, List.set_cons_zero, List.set_cons_succ]
              refine J_takeO 4 (v := ?vc4) rfl (by kernel_rfl) (by kernel_rfl) (by kernel_rfl) (by kernel_rfl) (fun _ _ _ h => h) (Or.inl ⟨by rfl, ?yc4⟩) I0 ?rc4
              case yc4 => (intro w hSw; (go_simp; with_reducible rfl))
              simp only [Act.put, List.getElem_toArray, List.getElem_cons_zero, List.getElem_cons_succ, List.setIfInBounds_toArray, List.set_cons_zero, List.set_cons_succ]
              refine J_takeO 5 (v := ?vc5) rfl (by kernel_rfl) (by kernel_rfl) (by kernel_rfl) (by kernel_rfl) (fun _ _ _ h => h) (Or.inl ⟨by rfl, ?yc5⟩) I0 ?rc5
              case yc5 => (intro w hSw; (obtain ⟨c0, c1, c2, c3, c4, c5⟩ := hcs.out _ hSw; go_simp; with_reducible rfl))
              simp only [Act.put, List.getElem_toArray, List.getElem_cons_zero, List.getElem_cons_succ, List.setIfInBounds_toArray, List.set_cons_zero, List.set_cons_succ]
              refine J_one 6 rfl (by kernel_rfl) (fun K hK => ?_)
              go_simp
              refine (hPl.out _ dd.out).mono ?_
              rintro e w5 ⟨rfl, l2, hG2, v5, vr5, d5⟩
              have I5 : Ext w w5 := d5.ex
              replace hG2 := hid hG2
              replace d5 := hid d5
              clear dd hPl I0
              refine hK _ _ ⟨fun _ => I5, ?_⟩
              clear hK K
              try simp only [Act.put, List.getElem_toArray, List.getElem_cons_zero, List.getElem_cons_succ, List.setIfInBounds_toArray, List.set_cons_zero, List.set_cons_succ]
              refine J_one 7 rfl (by kernel_rfl) (fun K hK => ?_)
              go_simp
              refine hK _ _ ⟨fun _ => I5, ?_⟩
              clear hK K
              try simp only [Act.put, List.setIfInBounds_toArray, List.set_cons_zero, List.set_cons_succ]
              refine J_one 8 rfl (by kernel_rfl) (fun K hK => ?_)
              go_simp
              refine hK _ _ ⟨fun _ => I5, ?_⟩
              clear hK K
              try simp only [Act.put, List.setIfInBounds_toArray, List.set_cons_zero, List.set_cons_succ]
              refine J_takeO 9 (v := ?vc9) rfl (by kernel_rfl) (by kernel_rfl) (by kernel_rfl) (by kernel_rfl) (fun _ _ _ h => h) (Or.inl ⟨by rfl, ?yc9⟩) I5 ?rc9
              case yc9 => (intro w hSw; (go_simp; with_reducible rfl))
              simp only [Act.put, List.getElem_toArray, List.getElem_cons_zero, List.getElem_cons_succ, List.setIfInBounds_toArray, List.set_cons_zero, List.set_cons_succ]
              refine J_one 10 rfl (by kernel_rfl) (fun K hK => ?_)
              go_simp
              refine hK _ _ ⟨fun _ => I5, ?_⟩
              clear hK K
              try simp only [Act.put, List.setIfInBounds_toArray, List.set_cons_zero, List.set_cons_succ]
              refine J_one 11 rfl (by kernel_rfl) (fun K hK => ?_)
              go_simp
              try rw [d31]
              refine hK _ _ ⟨fun _ => I5, ?_⟩
              clear hK K
              try simp only [Act.put, List.getElem_toArray, List.getElem_cons_zero, List.getElem_cons_succ, List.setIfInBounds_toArray, List.set_cons_zero, List.set_cons_succ]
              refine J_one 12 rfl (by kernel_rfl) (fun K hK => ?_)
              go_simp
              refine hK _ _ ⟨fun _ => I5, ?_⟩
              clear hK K
              try simp only [Act.put, List.setIfInBounds_toArray, List.set_cons_zero, List.set_cons_succ]
              refine J_takeO 13 (v := ?vc13) rfl (by kernel_rfl) (by kernel_rfl) (by kernel_rfl) (by kernel_rfl) (fun _ _ _ h => h) (Or.inl ⟨by rfl, ?yc13⟩) I5 ?rc13
              case yc13 => (intro w hSw; (go_simp; with_reducible rfl))
              simp only [Act.put, List.getElem_toArray, List.getElem_cons_zero, List.getElem_cons_succ, List.setIfInBounds_toArray, List.set_cons_zero, List.set_cons_succ]
              refine J_takeO 16 (v := ?vc16) rfl (by kernel_rfl) (by kernel_rfl) (by kernel_rfl) (by kernel_rfl) (fun _ _ _ h => h) (Or.inl ⟨by rfl, ?yc16⟩) I5 ?rc16
              case yc16 => (intro w hSw; (go_simp; with_reducible rfl))
              simp only [Act.put, List.getElem_toArray, List.getElem_cons_zero, List.getElem_cons_succ, List.setIfInBounds_toArray, List.set_cons_zero, List.set_cons_succ]
              refine J_one 14 rfl (by kernel_rfl) (fun K hK => ?_)
              go_simp
              refine (Bytes_any size g v5 l2 w5 d5.out.ma hG2.out hs.1 hs.2).mono ?_
              rintro e w6 ⟨v6, rfl, o6, hm6, ht6⟩
              have d6 := hid (d5.out.leftS hm6 ht6)
              have I6x : Ext w w6 := d6.out.ex
              clear d5 hm6 ht6
              generalize w5.heap.size = B5 at *
              generalize (fileB size l2).length = n5 at *
              obtain ⟨A5, c5, rfl, -⟩ := own_form o6
              have hBr := hid (fun w (h : RA w r size vr5 l2) => rBytes_any size r vr5 l2 w h hG2.out hs.1 hs.2)
              generalize fileB size l2 = F at *
              have I6 : (fun w' : World => Ext w w' ∧ w'.ownsRow B5 5 1 (.slice A5 n5 c5) n5 (bys F)) w6 := ⟨I6x, o6⟩
              refine hK _ _ ⟨fun _ => I6x, ?_⟩
              clear hK K
              try simp only [Act.put, List.getElem_toArray, List.getElem_cons_zero, List.getElem_cons_succ, List.setIfInBounds_toArray, List.set_cons_zero, List.set_cons_succ]
              refine J_strong (S' := (fun w' : World => Ext w w' ∧ w'.ownsRow B5 5 1 (.slice A5 n5 c5) n5 (bys F))) (fun w h => h.1) ?_
              refine J_takeO 15 (v := ?vc15) rfl (by kernel_rfl) (by kernel_rfl) (by kernel_rfl) (by kernel_rfl) (fun _ _ _ h => h) (Or.inl ⟨by rfl, ?yc15⟩) I6 ?rc15
              case yc15 => (intro w hSw; (have hcv := conv_own hSw.2; go_simp; with_reducible rfl))
              simp only [Act.put, List.getElem_toArray, List.getElem_cons_zero, List.getElem_cons_succ, List.setIfInBounds_toArray, List.set_cons_zero, List.set_cons_succ]
              refine J_one 17 rfl (by kernel_rfl) (fun K hK => ?_)
              go_simp
              refine (hBr.out _ d6.out.ra).mono ?_
              rintro e w7 ⟨v7, rfl, o7, hx7⟩
              have d7 := hid (d6.out.ext hx7)
              have I7 : (fun w' : World => Ext w w' ∧ w'.ownsRow B5 5 1 (.slice A5 n5 c5) n5 (bys F)) w7 := ⟨d7.out.ex, hx7.own I6.2⟩
              have hcv := conv_own o7
              obtain ⟨A7, c7, rfl, -⟩ := own_form o7
              clear d6 hx7 I6 I6x hBr o7 o6
              refine hK _ _ ⟨fun _ => I7, ?_⟩
              clear hK K
              try simp only [Act.put, List.getElem_toArray, List.getElem_cons_zero, List.getElem_cons_succ, List.setIfInBounds_toArray, List.set_cons_zero, List.set_cons_succ]
              refine J_one 18 rfl (by kernel_rfl) (fun K hK => ?_)
              go_simp
              refine hK _ _ ⟨fun _ => I7, ?_⟩
              clear hK K
              try simp only [Act.put, List.setIfInBounds_toArray, List.set_cons_zero, List.set_cons_succ]
              clear hcv
              generalize strI F = sF at *
              refine J_one 19 rfl (by kernel_rfl) (fun K hK => ?_)
              go_simp
              refine hK _ _ ⟨fun _ => I7, ?_⟩
              clear hK K
              try simp only [Act.put, List.setIfInBounds_toArray, List.set_cons_zero, List.set_cons_succ]
              refine J_one 20 rfl (by kernel_rfl) (fun K hK => ?_)
              go_simp
              refine hK _ _ ⟨fun _ => I7, ?_⟩
              clear hK K
              try simp only [Act.put, List.setIfInBounds_toArray, List.set_cons_zero, List.set_cons_succ]
              refine J_one 21 rfl (by kernel_rfl) (fun K hK => ?_)
              go_simp
              refine hK _ _ ⟨fun _ => I7, ?_⟩
              clear hK K
              try simp only [Act.put, List.setIfInBounds_toArray, List.set_cons_zero, List.set_cons_succ]
              refine J_done (by kernel_rfl) (OnlyOn.normal ?_)
              clear I7 I5
              go_wp2_with fail
              go_roundw
              case rel => exact ⟨k + 1, l2, by omega, by go_num, hG2, d7.out.any⟩
              case measure => simp [intOf]; omega
          · obtain rfl : k = n := by omega
            have hkn : ¬ (k : Int) < (k : Int) := by omega
            clear hb hn4
            go_upto_region 12 with fail
            have I0 : Ext w wr.drew := hd.out.ex.drew_right
            have d4 := hid (hd.out.ext (Ext.refl wr).drew_right)
            refine region_J (fun w' => Ext w w') 18 (by kernel_rfl) ?_
            generalize wr.drew = w4 at *
            clear hd
            refine J_takeO 0 (v := ?ve0) rfl (by kernel_rfl) (by kernel_rfl) (by kernel_rfl) (by kernel_rfl) (fun _ _ _ h => h) (Or.inl ⟨by rfl, ?ye0⟩) I0 ?re0
            case ye0 => (intro w hSw; (go_simp; with_reducible rfl))
            simp only [Act.put, List.getElem_toArray, List.getElem_cons_zero, List.getElem_cons_succ, List.setIfInBounds_toArray, List.set_cons_zero, List.set_cons_succ]
            refine J_takeO 3 (v := ?ve3) rfl (by kernel_rfl) (by kernel_rfl) (by kernel_rfl) (by kernel_rfl) (fun _ _ _ h => h) (Or.inl ⟨by rfl, ?ye3⟩) I0 ?re3
            case ye3 => (intro w hSw; (go_simp; with_reducible rfl))
            simp only [Act.put, List.getElem_toArray, List.getElem_cons_zero, List.getElem_cons_succ, List.setIfInBounds_toArray, List.set_cons_zero, List.set_cons_succ]
            refine J_one 1 rfl (by kernel_rfl) (fun K hK => ?_)
            go_simp
            refine (Bytes_any size g v l' w4 d4.out.ma hG.out hs.1 hs.2).mono ?_
            rintro e w5 ⟨v5, rfl, o5, hm5, ht5⟩
            have hgl := d4.out.ma.lt
            have hvl := hid d4.out.ma.ownlt
            have d5 := hid (d4.out.leftS hm5 ht5)
            have I5x : Ext w w5 := d5.out.ex
            clear d4 hm5 ht5
            have hB5 : Hid (g < w4.heap.size ∧ ∀ k, v.ownBlock = some k → k < w4.heap.size) := ⟨hgl, hvl.out⟩
            clear hgl hvl
            generalize w4.heap.size = B5 at *
            generalize (fileB size l').length = n5 at *
            obtain ⟨A5, c5, rfl, -⟩ := own_form o5
            have hBr := hid (fun w (h : RA w r size vr l') => rBytes_any size r vr l' w h hG.out hs.1 hs.2)
            generalize fileB size l' = F at *
            have I5 : (fun w' : World => Ext w w' ∧ w'.ownsRow B5 5 1 (.slice A5 n5 c5) n5 (bys F)) w5 := ⟨I5x, o5⟩
            refine hK _ _ ⟨fun _ => I5x, ?_⟩
            clear hK K
            try simp only [Act.put, List.getElem_toArray, List.getElem_cons_zero, List.getElem_cons_succ, List.setIfInBounds_toArray, List.set_cons_zero, List.set_cons_succ]
            refine J_strong (S' := (fun w' : World => Ext w w' ∧ w'.ownsRow B5 5 1 (.slice A5 n5 c5) n5 (bys F))) (fun w h => h.1) ?_
            refine J_takeO 2 (v := ?ve2) rfl (by kernel_rfl) (by kernel_rfl) (by kernel_rfl) (by kernel_rfl) (fun _ _ _ h => h) (Or.inl ⟨by rfl, ?ye2⟩) I5 ?re2
            case ye2 => (intro w hSw; (have hcv := conv_own hSw.2; go_simp; with_reducible rfl))
            simp only [Act.put, List.getElem_toArray, List.getElem_cons_zero, List.getElem_cons_succ, List.setIfInBounds_toArray, List.set_cons_zero, List.set_cons_succ]
            refine J_one 4 rfl (by kernel_rfl) (fun K hK => ?_)
            go_simp
            refine (hBr.out _ d5.out.ra).mono ?_
            rintro e w6 ⟨v6, rfl, o6, hx6⟩
            have d6 := hid (d5.out.ext hx6)
            have I6 : (fun w' : World => Ext w w' ∧ w'.ownsRow B5 5 1 (.slice A5 n5 c5) n5 (bys F)) w6 := ⟨d6.out.ex, hx6.own I5.2⟩
            have hcv := conv_own o6
            obtain ⟨A6, c6, rfl, -⟩ := own_form o6
            clear d5 hx6 I5 I5x hBr o6 o5
            refine hK _ _ ⟨fun _ => I6, ?_⟩
            clear hK K
            try simp only [Act.put, List.getElem_toArray, List.getElem_cons_zero, List.getElem_cons_succ, List.setIfInBounds_toArray, List.set_cons_zero, List.set_cons_succ]
            refine J_one 5 rfl (by kernel_rfl) (fun K hK => ?_)
            go_simp
            refine hK _ _ ⟨fun _ => I6, ?_⟩
            clear hK K
            try simp only [Act.put, List.setIfInBounds_toArray, List.set_cons_zero, List.set_cons_succ]
            clear hcv
            generalize strI F = sF at *
            refine J_one 6 rfl (by kernel_rfl) (fun K hK => ?_)
            go_simp
            refine hK _ _ ⟨fun _ => I6, ?_⟩
            clear hK K
            try simp only [Act.put, List.setIfInBounds_toArray, List.set_cons_zero, List.set_cons_succ]
            refine J_one 7 rfl (by kernel_rfl) (fun K hK => ?_)
            go_simp
            refine hK _ _ ⟨fun _ => I6, ?_⟩
            clear hK K
            try simp only [Act.put, List.setIfInBounds_toArray, List.set_cons_zero, List.set_cons_succ]
            refine J_takeO 8 (v := ?ve8) rfl (by kernel_rfl) (by kernel_rfl) (by kernel_rfl) (by kernel_rfl) (fun _ _ _ h => h) (Or.inl ⟨by rfl, ?ye8⟩) I6 ?re8
            case ye8 => (intro w hSw; (go_simp; with_reducible rfl))
            simp only [Act.put, List.getElem_toArray, List.getElem_cons_zero, List.getElem_cons_succ, List.setIfInBounds_toArray, List.set_cons_zero, List.set_cons_succ]
            refine J_takeO 10 (v := ?ve10) rfl (by kernel_rfl) (by kernel_rfl) (by kernel_rfl) (by kernel_rfl) (fun _ _ _ h => h) (Or.inl ⟨by rfl, ?ye10⟩) I6 ?re10
            case ye10 => (intro w hSw; (go_simp; with_reducible rfl))
            simp only [Act.put, List.getElem_toArray, List.getElem_cons_zero, List.getElem_cons_succ, List.setIfInBounds_toArray, List.set_cons_zero, List.set_cons_succ]
            refine J_one 9 rfl (by kernel_rfl) (fun K hK => ?_)
            go_simp
            refine (Entries_any size g v l' w6 d6.out.ma (by have := (good_facts hG.out).1; omega)).mono ?_
            rintro e w7 ⟨v7, rfl, o7, hm7, ht7⟩
            have d7 := hid (d6.out.leftS hm7 ht7)
            have I7 : (fun w' : World => Ext w w' ∧ w'.ownsRow B5 5 1 (.slice A5 n5 c5) n5 (bys F)) w7 := ⟨d7.out.ex, ht7.rowG I6.2 (fun e => by have := own_freshB I6.2 _ e; have := hB5.out.1; omega) (fun j e e2 => by have := own_freshB I6.2 _ e; have := hB5.out.2 j e2; omega)⟩
            obtain ⟨A7, c7, rfl, -⟩ := own_form o7
            have hT7 := hid (Rd.of_own o7)
            clear d6 hm7 ht7 I6 o7
            refine hK _ _ ⟨fun _ => I7, ?_⟩
            clear hK K
            try simp only [Act.put, List.getElem_toArray, List.getElem_cons_zero, List.getElem_cons_succ, List.setIfInBounds_toArray, List.set_cons_zero, List.set_cons_succ]
            refine J_one 11 rfl (by kernel_rfl) (fun K hK => ?_)
            go_simp
            refine (rEntries_any size r vr l' w7 d7.out.ra hG.out).mono ?_
            rintro e w8 ⟨v8, rfl, o8, hx8⟩
            have I8 : (fun w' : World => Ext w w' ∧ w'.ownsRow B5 5 1 (.slice A5 n5 c5) n5 (bys F)) w8 := ⟨I7.1.trans hx8, hx8.own I7.2⟩
            obtain ⟨A8, c8, rfl, -⟩ := own_form o8
            have hT8 := hid (Rd.of_own o8)
            replace hT7 := hid (hT7.out.ext hx8)
            clear hx8 I7 o8 d7
            refine hK _ _ ⟨fun _ => I8, ?_⟩
            clear hK K
            try simp only [Act.put, List.getElem_toArray, List.getElem_cons_zero, List.getElem_cons_succ, List.setIfInBounds_toArray, List.set_cons_zero, List.set_cons_succ]
            refine J_one 12 rfl (by kernel_rfl) (fun K hK => ?_)
            go_simp
            refine (entries_any _ _ _ _ _ l' w8 hT7.out hT8.out).mono ?_
            rintro e w9 ⟨rfl, hdr⟩
            have I9 : (fun w' : World => Ext w w' ∧ w'.ownsRow B5 5 1 (.slice A5 n5 c5) n5 (bys F)) w9 := ⟨I8.1.trans hdr.ext, hdr.ext.own I8.2⟩
            clear hdr I8 hT7 hT8
            refine hK _ _ ⟨fun _ => I9, ?_⟩
            clear hK K
            try simp only [Act.put, List.getElem_toArray, List.getElem_cons_zero, List.getElem_cons_succ, List.setIfInBounds_toArray, List.set_cons_zero, List.set_cons_succ]
            refine J_one 13 rfl (by kernel_rfl) (fun K hK => ?_)
            go_simp
            refine hK _ _ ⟨fun _ => I9, ?_⟩
            clear hK K
            try simp only [Act.put, List.setIfInBounds_toArray, List.set_cons_zero, List.set_cons_succ]
            refine J_one 14 rfl (by kernel_rfl) (fun K hK => ?_)
            go_simp
            refine hK _ _ ⟨fun _ => I9, ?_⟩
            clear hK K
            try simp only [Act.put, List.setIfInBounds_toArray, List.set_cons_zero, List.set_cons_succ]
            refine J_one 15 rfl (by kernel_rfl) (fun K hK => ?_)
            go_simp
            refine (known_any _).mono ?_
            rintro e w10 ⟨rfl, hxk⟩
            have I10 : (fun w' : World => Ext w w' ∧ w'.ownsRow B5 5 1 (.slice A5 n5 c5) n5 (bys F)) w10 := ⟨I9.1.trans hxk, hxk.own I9.2⟩
            clear hxk I9
            refine hK _ _ ⟨fun _ => I10, ?_⟩
            clear hK K
            try simp only [Act.put, List.getElem_toArray, List.getElem_cons_zero, List.getElem_cons_succ, List.setIfInBounds_toArray, List.set_cons_zero, List.set_cons_succ]
            refine J_one 16 rfl (by kernel_rfl) (fun K hK => ?_)
            go_simp
            refine hK _ _ ⟨fun _ => I10, ?_⟩
            clear hK K
            try simp only [Act.put, List.setIfInBounds_toArray, List.set_cons_zero, List.set_cons_succ]
            refine J_one 17 rfl (by kernel_rfl) (fun K hK => ?_)
            go_simp
            refine hK _ _ ⟨fun _ => I10, ?_⟩
            clear hK K
            try simp only [Act.put, List.setIfInBounds_toArray, List.set_cons_zero, List.set_cons_succ]
            refine J_done (by kernel_rfl) (OnlyOn.normal ?_)
            have hfin := hid I10.1
            clear I10
            go_wp2
            go_ret
            exact ⟨rfl, hfin.out⟩
end Go.Proofs.Ytcgjhloiokpicaa
