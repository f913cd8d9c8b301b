/-
  slices.Equal of entries; whether two indexes are the same.
-/
import Derived.Test.YtpijfiaecicpfaaEj
import Derived.Laws.StructEq
namespace Go.Proofs.Ytpijfiaecicpfaa
open Go.RowKit Go.Shelf
set_option linter.unusedVariables false
set_option linter.unusedSimpArgs false
theorem all_tth {l l' : List Te} (hl : l.length = l'.length) (h : ∀ t, t < l.length → tth l t = tth l' t) : l = l' := by
  refine List.ext_getElem hl (fun i h1 h2 => ?_)
  have := h i h1
  rwa [tth_get h1, tth_get h2] at this
set_option maxRecDepth 100000 in
set_option maxHeartbeats 4000000 in
theorem eqE_any (A B : Option Addr) (n c m d : Nat) (l l' : List Te) (w : World) (hl : RdN w A n c l) (hl' : RdN w B m d l') (R : Bool) (hR : Hid (R = true ↔ l = l')) : Calls Try.prog 64 #[.slice A n c, .slice B m d] w (Give (.bool R) w) := by
  have hmx := Rd.max hl
  have hmy := Rd.max hl'
  have hn := hl.len
  have hm := hl'.len
  by_cases hnm : n = m
  · subst hnm
    replace hn := hid hn
    replace hm := hid hm
    go_enter Try.func64, Try.ntmps64
    go_wp2_with fail
    go_loopw [13] (fun i wr => ∃ k : Nat, k ≤ n ∧ i = .int .i64 k ∧ Hid (Ext w wr) ∧ Hid (∀ t, t < k → tth l t = tth l' t)) (fun i _ => n - (intOf i).toNat)
    case atStart => exact ⟨0, by omega, rfl, Ext.refl w, fun t h => absurd h (Nat.not_lt_zero _)⟩
    case round =>
      obtain ⟨k, hk, rfl, hx, hall⟩ := hrel
      by_cases hlt : k < n
      · obtain ⟨ad, rfl, x0, x1⟩ := (hl.ext hx.out).at_ hlt
        obtain ⟨bd, rfl, y0, y1⟩ := (hl'.ext hx.out).at_ hlt
        have hki : (k : Int) < (n : Int) := by omega
        by_cases hxy : tth l k = tth l' k
        · have hall2 : Hid (∀ t, t < k + 1 → tth l t = tth l' t) := fun t ht => by
            rcases Nat.lt_or_eq_of_le (Nat.lt_succ_iff.1 ht) with h | h
            · exact hall.out t h
            · rw [h]; exact hxy
          rw [← hxy] at y0 y1
          generalize tth l k = x at *
          clear hall hxy
          go_upto_region 6 with fail
          go_quiet (fail)
          go_wp2
          go_roundw
          case rel => exact ⟨k + 1, by omega, by go_num, hx.out.drewN_right _, hall2⟩
          case measure => simp [intOf]; omega
        · have hne : Hid (R = false) := by
            cases R with
            | false => rfl
            | true => exact absurd (by rw [hR.out.1 rfl]) hxy
          clear hR hall
          by_cases hkk : (tth l k).key = (tth l' k).key
          · have hno : ((tth l k).no == (tth l' k).no) = false := by
              rw [beq_eq_false_iff_ne]
              intro e
              apply hxy
              cases h1 : tth l k
              cases h2 : tth l' k
              rw [h1, h2] at hkk e
              simp only at hkk e
              rw [hkk, e]
            rw [← hkk] at y0
            generalize tth l k = x at *
            generalize tth l' k = y at *
            clear hkk hxy
            go_upto_region 6 with fail
            go_quiet (fail)
            go_wp2
            go_ret
            exact ⟨by rw [hne.out]; rfl, hx.out.drewN_right _⟩
          · have hkf : ((tth l k).key.toList == (tth l' k).key.toList) = false := by
              rw [beq_eq_false_iff_ne]
              intro e
              apply hkk
              rw [ByteArray.toList_eq, ByteArray.toList_eq] at e
              exact str_ext e
            generalize tth l k = x at *
            generalize tth l' k = y at *
            clear hkk hxy
            go_upto_region 6 with fail
            go_quiet (fail)
            go_wp2
            go_ret
            exact ⟨by rw [hne.out]; rfl, hx.out.drewN_right _⟩
      · obtain rfl : k = n := by omega
        have hR1 : Hid (R = true) := hR.out.2 (all_tth (hm.out.trans hn.out.symm |>.symm) (fun t ht => hall.out t (by have := hn.out; omega)))
        clear hR hall
        go_wp2
        go_ret
        exact ⟨by rw [hR1.out]; rfl, hx.out⟩
  · have hne : Hid (R = false) := by
      cases R with
      | false => rfl
      | true => exact absurd (by rw [← hn, ← hm, hR.out.1 rfl]) hnm
    have hnm2 : ((n : Int) != (m : Int)) = true := by
      rw [bne_iff_ne]
      omega
    clear hR hl hl' hn hm
    go_enter Try.func64, Try.ntmps64
    go_wp2
    go_ret
    exact ⟨by rw [hne.out]; rfl, Ext.refl _⟩
set_option maxRecDepth 100000 in
set_option maxHeartbeats 4000000 in
theorem Same_any (t u : Nat) (L M : List Te) (h p h2 p2 : Nat) (T T2 : BT) (fT fU : Nat → Nat) (w : World) (H : TreeAt 0 w t L h p T fT) (H2 : TreeAt 0 w u M h2 p2 T2 fU) (R : Bool) (hR : Hid (R = true ↔ L = M)) : Calls Try.prog 29 #[.pointer (some ⟨t, 0, none⟩), .pointer (some ⟨u, 0, none⟩)] w (Give (.bool R) w) := by
  have hE := hid (entries_any t L h p T fT w H)
  have hE2 := hid (fun w' (hx : Ext w w') => entries_any u M h2 p2 T2 fU w' (H2.ext hx))
  clear H H2
  go_enter Try.func29, Try.ntmps29
  go_wp2_with fail
  refine hE.out.mono ?_
  rintro e w2 ⟨v, rfl, own2, hx⟩
  obtain ⟨A, c, rfl, -⟩ := own_form own2
  have hrd := hid (show RdN w2 A L.length c L from Rd.of_own own2)
  replace hx := hid hx
  clear own2 hE
  go_wp2_with fail
  refine (hE2.out w2 hx.out).mono ?_
  rintro e w3 ⟨v, rfl, own3, hx3⟩
  obtain ⟨B, d, rfl, -⟩ := own_form own3
  have hQ := hid (eqE_any A B L.length c M.length d L M w3 (hrd.out.ext hx3) (Rd.of_own own3) R hR.out)
  replace hx := hid (hx.out.trans hx3)
  clear own3 hE2 hx3 hR hrd
  go_wp2_with fail
  refine hQ.out.mono ?_
  rintro e w4 ⟨rfl, hx4⟩
  go_wp2
  go_ret
  exact ⟨rfl, hx.out.trans hx4⟩
end Go.Proofs.Ytpijfiaecicpfaa
