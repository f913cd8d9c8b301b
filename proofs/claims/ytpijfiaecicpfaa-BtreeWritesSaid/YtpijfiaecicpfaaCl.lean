/-
  The law BtreeWrites.
-/
import Derived.Test.YtpijfiaecicpfaaCk
import Derived.Test.YtpijfiaecicpfaaCs
import Derived.Test.YtpijfiaecicpfaaCo
namespace Go.Proofs.Ytpijfiaecicpfaa
open Go.RowKit Go.Shelf
set_option linter.unusedVariables false
set_option linter.unusedSimpArgs false
set_option maxRecDepth 100000 in
set_option maxHeartbeats 8000000 in
theorem writes_law (A : Option Addr) (n c : Nat) (xs : List Nx) (w : World) (hr : RX w A n c xs) : Calls Try.prog 6 #[.agg #[.slice A n c]] w (Give (.bool true) w) := by
  have hl := hr.len
  have hx1 := hid ((Ext.refl w).alloc_right (.cells #[.slice A n c] 37))
  have hb0 := heap_alloc_new w (.cells #[.slice A n c] 37)
  have hO := hid (fun w' (hx : Ext w w') => overIndex_any A n c xs w' (hr.ext hx))
  have hK := hid known_any
  have hp := hid (fun w' (hx : Ext w w') => Bytes_any A n c xs w' (hr.ext hx))
  have hq := hid (fun w' (hx : Ext w w') => rBytes_any A n c xs w' (hr.ext hx))
  replace hr := hid hr
  unfold GiveBy at hp hq
  by_cases h0 : wrongX xs = 0
  · rw [show bysX xs = bytesX xs from if_pos h0, show chkE xs = 0 from if_pos h0] at hp hq
    have hRd : Hid (∀ w' A' n' c', RdB w' A' n' c' (bytesX xs) → Calls Try.prog 19 #[.slice A' n' c'] w' (fun e w'' => ∃ A2 c2, e = .returned (.tuple #[.agg #[.slice A2 n c2], .int .i64 0]) ∧ RX w'' A2 n c2 xs ∧ Ext w' w'')) := fun w' A' n' c' hB => by
      have h := Read_any A' n' c' (bytesX xs) w' hB
      unfold GiveRx at h
      rw [(rd_back h0).1, (rd_back h0).2, hl] at h
      exact h
    clear h0 hl
    go_enter Try.func6, Try.ntmps6
    go_upto_region 1 with fail
    obtain ⟨b, hb⟩ : ∃ b, b = w.heap.size := ⟨_, rfl⟩
    rw [← hb] at hb0
    simp only [← hb]
    replace hb := hid hb
    generalize w.alloc (.cells #[.slice A n c] 37) = w1 at *
    have zb : w1.cell? ⟨b, 0, none⟩ = some (.slice A n c) := by rw [Lib.cell_of_heap hb0]; rfl
    have lb := (Array.getElem?_eq_some_iff.1 hb0).1
    clear hb0
    go_wp2_with fail
    refine (hO.out _ hx1.out).mono ?_
    rintro e w2 ⟨bb, rfl, hx2⟩
    replace hx1 := hid (hx1.out.trans hx2)
    replace zb := hx2.cell zb
    replace lb := Nat.lt_of_lt_of_le lb hx2.size
    clear hO hx2
    cases bb with
    | true =>
      clear hp hq
      go_wp2_with fail
      refine (hK.out _).mono ?_
      rintro e w3 ⟨rfl, hx3⟩
      go_wp2
      go_ret
      exact ⟨rfl, hx1.out.trans hx3⟩
    | false =>
      go_wp2_with fail
      refine (hp.out _ hx1.out).mono ?_
      rintro e w3 ⟨A3, n3, c3, rfl, hB3, hx3⟩
      replace hx1 := hid (hx1.out.trans hx3)
      replace zb := hx3.cell zb
      replace lb := Nat.lt_of_lt_of_le lb hx3.size
      clear hp hx3
      go_wp2_with fail
      refine (hq.out _ hx1.out).mono ?_
      rintro e w4 ⟨A4, n4, c4, rfl, hB4, hx4⟩
      replace hx1 := hid (hx1.out.trans hx4)
      replace zb := hx4.cell zb
      replace lb := Nat.lt_of_lt_of_le lb hx4.size
      replace hB3 := hB3.ext hx4
      clear hq hx4
      have hcv1 := conv_any hB3
      have hcv2 := conv_any hB4
      generalize strI (bytesX xs) = S at *
      replace hB3 := hid hB3
      clear hB4
      go_wp2_with fail
      refine (hRd.out _ _ _ _ hB3.out).mono ?_
      rintro e w5 ⟨A5, c5, rfl, hR5, hx5⟩
      clear hcv1 hcv2 hRd hB3
      have hxs := (Ext.refl w5).alloc_right (.cells #[.slice A5 n c5] 37)
      have hnb := heap_alloc_new w5 (.cells #[.slice A5 n c5] 37)
      have y1 : (w5.alloc (.cells #[.slice A5 n c5] 37)).cell? ⟨w5.heap.size, 0, none⟩ = some (.slice A5 n c5) := by rw [Lib.cell_of_heap hnb]; rfl
      have k1 := (Array.getElem?_eq_some_iff.1 hnb).1
      replace hx1 := hid (hx1.out.trans (hx5.trans hxs))
      replace zb := (hx5.trans hxs).cell zb
      replace lb := Nat.lt_of_lt_of_le lb (hx5.trans hxs).size
      have hsm := hid (sameI_any A5 A n c5 c xs _ (hR5.ext hxs) (hr.out.ext hx1.out))
      replace y1 := hid y1
      replace k1 := hid k1
      replace zb := hid zb
      replace lb := hid lb
      clear hR5 hxs hnb hx5
      go_upto_region 10 with fail
      generalize w5.alloc (.cells #[.slice A5 n c5] 37) = w6 at *
      generalize w5.heap.size = p2 at *
      replace y1 := y1.out
      replace k1 := k1.out
      replace zb := zb.out
      replace lb := lb.out
      go_wp2_with fail
      refine hsm.out.mono ?_
      rintro e w7 ⟨rfl, hx7⟩
      go_wp2_with fail
      refine (hK.out _).mono ?_
      rintro e w8 ⟨rfl, hx8⟩
      go_wp2
      go_ret
      exact ⟨rfl, hx1.out.trans (hx7.trans hx8)⟩
  · rw [show bysX xs = [] from if_neg h0, show chkE xs = 11 from if_neg h0] at hp hq
    clear h0 hl
    go_enter Try.func6, Try.ntmps6
    go_upto_region 1 with fail
    obtain ⟨b, hb⟩ : ∃ b, b = w.heap.size := ⟨_, rfl⟩
    rw [← hb] at hb0
    simp only [← hb]
    replace hb := hid hb
    generalize w.alloc (.cells #[.slice A n c] 37) = w1 at *
    have zb : w1.cell? ⟨b, 0, none⟩ = some (.slice A n c) := by rw [Lib.cell_of_heap hb0]; rfl
    have lb := (Array.getElem?_eq_some_iff.1 hb0).1
    clear hb0
    go_wp2_with fail
    refine (hO.out _ hx1.out).mono ?_
    rintro e w2 ⟨bb, rfl, hx2⟩
    replace hx1 := hid (hx1.out.trans hx2)
    replace zb := hx2.cell zb
    replace lb := Nat.lt_of_lt_of_le lb hx2.size
    clear hO hx2
    cases bb with
    | true =>
      clear hp hq
      go_wp2_with fail
      refine (hK.out _).mono ?_
      rintro e w3 ⟨rfl, hx3⟩
      go_wp2
      go_ret
      exact ⟨rfl, hx1.out.trans hx3⟩
    | false =>
      go_wp2_with fail
      refine (hp.out _ hx1.out).mono ?_
      rintro e w3 ⟨A3, n3, c3, rfl, hB3, hx3⟩
      replace hx1 := hid (hx1.out.trans hx3)
      replace zb := hx3.cell zb
      replace lb := Nat.lt_of_lt_of_le lb hx3.size
      clear hp hx3
      go_wp2_with fail
      refine (hq.out _ hx1.out).mono ?_
      rintro e w4 ⟨A4, n4, c4, rfl, hB4, hx4⟩
      replace hx1 := hid (hx1.out.trans hx4)
      replace zb := hx4.cell zb
      replace lb := Nat.lt_of_lt_of_le lb hx4.size
      replace hB3 := hB3.ext hx4
      clear hq hx4
      have hcv1 := conv_any hB3
      have hcv2 := conv_any hB4
      generalize strI [] = S at *
      replace hB3 := hid hB3
      clear hB4
      go_wp2_with fail
      refine (hK.out _).mono ?_
      rintro e w7 ⟨rfl, hx7⟩
      go_wp2
      go_ret
      exact ⟨rfl, hx1.out.trans hx7⟩
end Go.Proofs.Ytpijfiaecicpfaa
