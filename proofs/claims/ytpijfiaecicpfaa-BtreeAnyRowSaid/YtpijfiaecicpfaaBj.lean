/-
  What 'known' of the statements asks.
-/
import Derived.Test.YtpijfiaecicpfaaBi
namespace Go.Proofs.Ytpijfiaecicpfaa
open Go.RowKit Go.Shelf
set_option linter.unusedVariables false
set_option linter.unusedSimpArgs false
/-- An index that has been made since a world. -/
def TA (w0 w : World) (t : Nat) (L : List Te) : Prop := w0.heap.size ≤ t ∧ Ext w0 w ∧ ∃ h p T fT, TreeAt 0 w t L h p T fT ∧ ∀ a, a < w0.heap.size → fT a = 0
section
variable {w0 w w' : World} {t : Nat} {L : List Te}
theorem TA.ext (H : TA w0 w t L) (hx : Ext w w') : TA w0 w' t L := by
  obtain ⟨h1, h2, h, p, T, fT, h3, h4⟩ := H
  exact ⟨h1, h2.trans hx, h, p, T, fT, h3.ext hx, h4⟩
theorem TA.turn {h p : Nat} {T : BT} {fT : Nat → Nat} {L' : List Te} (H : TreeAt 0 w t L h p T fT) (h1 : w0.heap.size ≤ t) (hx : Ext w0 w) (h4 : ∀ a, a < w0.heap.size → fT a = 0) (ht : TreeTurned 0 w w' t fT L') : TA w0 w' t L' := by
  obtain ⟨h', p', T', f', H', k1, k2⟩ := ht
  refine ⟨h1, hx.trans' k2 (fun a ha => ?_), h', p', T', f', H', fun a ha => ?_⟩
  · show one1 t a + fT a = 0
    rw [h4 a ha, show one1 t a = 0 from if_neg (by omega)]
  · have := k1 a (Nat.lt_of_lt_of_le ha hx.size)
    have := h4 a ha
    omega
theorem TA.lt (H : TA w0 w t L) : t < w.heap.size := by
  obtain ⟨h1, h2, h, p, T, fT, h3, h4⟩ := H
  exact h3.lt
theorem TA.le (H : TA w0 w t L) : L.length ≤ 10000 := by
  obtain ⟨h1, h2, h, p, T, fT, h3, h4⟩ := H
  exact h3.le
theorem TA.sr (H : TA w0 w t L) : Srt L := by
  obtain ⟨h1, h2, h, p, T, fT, h3, h4⟩ := H
  exact h3.sr
theorem New_TA (w0 w : World) (hx : Ext w0 w) : Calls Try.prog 25 #[] w fun e w' => ∃ t, e = .returned (.pointer (some ⟨t, 0, none⟩)) ∧ TA w0 w' t [] ∧ Ext w w' := by
  refine (New_any w).mono ?_
  rintro e w' ⟨t, rfl, h1, h2, p, fT, h3, h4⟩
  exact ⟨t, rfl, ⟨Nat.le_trans hx.size h1, hx.trans h2, 0, p, _, fT, h3, fun a ha => h4 a (Nat.lt_of_lt_of_le ha hx.size)⟩, h2⟩
theorem Put_TA (H : TA w0 w t L) (s : ByteArray) (n : Int) : Calls Try.prog 27 #[.pointer (some ⟨t, 0, none⟩), .string s, .int .i64 n] w fun e w' => e = .returned (.int .i64 (putEr L ⟨s, n⟩)) ∧ TA w0 w' t (putLs L ⟨s, n⟩) := by
  obtain ⟨h1, h2, h, p, T, fT, h3, h4⟩ := H
  refine (Put_any t L h p T fT s n w h3).mono ?_
  rintro e w' ⟨rfl, ht⟩
  exact ⟨rfl, TA.turn h3 h1 h2 h4 ht⟩
theorem Len_TA (H : TA w0 w t L) : Calls Try.prog 30 #[.pointer (some ⟨t, 0, none⟩)] w (Give (.int .i64 L.length) w) := by
  obtain ⟨h1, h2, h, p, T, fT, h3, h4⟩ := H
  exact Len_any t L h p T fT w h3
theorem Rank_TA (H : TA w0 w t L) (s : ByteArray) (i : Int) : Calls Try.prog 32 #[.pointer (some ⟨t, 0, none⟩), .string s, .int .i64 i] w (Give (.int .i64 (rankT L ⟨s, i⟩)) w) := by
  obtain ⟨h1, h2, h, p, T, fT, h3, h4⟩ := H
  exact Rank_any t L h p T fT s i w h3
end
def seqK (k : Nat) : List Te := (List.range k).map fun (j : Nat) => ⟨⟨#[107]⟩, (j : Int) + 1⟩
theorem seq_put : ∀ k, k < 5 → putEr (seqK k) ⟨⟨#[107]⟩, (k : Int) + 1⟩ = 0 ∧ putLs (seqK k) ⟨⟨#[107]⟩, (k : Int) + 1⟩ = seqK (k + 1)
  | 0, _ => ⟨rfl, rfl⟩
  | 1, _ => ⟨rfl, rfl⟩
  | 2, _ => ⟨rfl, rfl⟩
  | 3, _ => ⟨rfl, rfl⟩
  | 4, _ => ⟨rfl, rfl⟩
  | k + 5, h => by omega
theorem seq_rank : rankT (seqK 5) ⟨⟨#[]⟩, 0⟩ = 0 := rfl
set_option maxRecDepth 100000 in
set_option maxHeartbeats 4000000 in
theorem known_any (w : World) : Calls Try.prog 10 #[] w (Give (.bool true) w) := by
  have hN := hid (New_TA w w (Ext.refl w))
  go_enter Try.func10, Try.ntmps10
  go_wp2_with fail
  refine hN.out.mono ?_
  rintro e w1 ⟨t, rfl, hT, -⟩
  replace hT := hid hT
  go_wp2_with fail
  go_loopw [2] (fun i wr => ∃ k : Nat, k ≤ 5 ∧ i = .int .i64 ((k : Int) + 1) ∧ Hid (TA w wr t (seqK k))) (fun i _ => 6 - (intOf i).toNat)
  case atStart => exact ⟨0, by omega, rfl, hT⟩
  case round =>
    obtain ⟨k, hk, rfl, hT⟩ := hrel
    by_cases hlt : k < 5
    · have hP := hid (Put_TA hT.out ⟨#[107]⟩ ((k : Int) + 1))
      obtain ⟨q1, q2⟩ := seq_put k hlt
      rw [q1, q2] at hP
      have hle : (k : Int) + 1 ≤ 5 := by omega
      clear q1 q2
      go_wp2_with fail
      refine hP.out.mono ?_
      rintro e w2 ⟨rfl, hT2⟩
      replace hT2 := hid hT2
      clear hP hT
      go_wp2_with fail
      go_roundw
      case rel => exact ⟨k + 1, by omega, by go_num, hT2⟩
      case measure => simp [intOf]; omega
    · obtain rfl : k = 5 := by omega
      have hR := hid (fun w' (hx : Ext wr w') => Rank_TA (hT.out.ext hx) ⟨#[]⟩ 0)
      rw [seq_rank] at hR
      have hL := hid (fun w' (hx : Ext wr w') => Len_TA (hT.out.ext hx))
      rw [show (seqK 5).length = 5 from rfl] at hL
      obtain ⟨h1, h2, h, p, T, fT, h3, h4⟩ := hT.out
      have hI := hid (Index_any t _ h p T fT wr h3)
      obtain ⟨x, b, c, hl, hx1, hx2⟩ := five h3.sh h3.l4 h3.l1 (by rw [h3.fl]; rfl)
      rw [hl] at hI
      clear h3 h4 hl hT
      replace h2 := hid h2
      go_wp2_with fail
      refine hI.out.mono ?_
      rintro e w2 ⟨v, rfl, ⟨vs, g, own2, nl2, -⟩, hx⟩
      obtain ⟨v1, ⟨uk, ur, ud⟩, v2, g0, g1, g2, rfl, hl1, -, c1, -, -⟩ := NL.cut (x1 := []) (x := x) (x2 := [b, c]) nl2
      obtain rfl := List.length_eq_zero_iff.1 hl1
      obtain ⟨gb, cb, rfl, -, hgb, hc3, hcb, -⟩ := own_sliceK own2 (by show 0 < 3; decide)
      have y0 := own2.cells (g := gb) rfl 0 uk rfl
      have y2 := own2.cells (g := gb) rfl 2 ud rfl
      rw [lit_add] at y0 y2
      obtain ⟨Ak, ck, rfl, -⟩ := own_form (show w2.ownsRow wr.heap.size 9 1 uk x.keys.length (strv x.keys) from c1.1)
      obtain ⟨Ad, cd, rfl, -⟩ := own_form (show w2.ownsRow wr.heap.size 3 1 ud x.kids.length (ints x.kids) from c1.2.2.1)
      rw [hx1] at y0
      rw [hx2] at y2
      replace hx := hid hx
      clear own2 nl2 c1 hI hx1 hx2 hl1
      have hA := heap_alloc_new w2 (.cells #[.slice (some ⟨gb, 0, none⟩) 3 cb] 37)
      have hxa := (Ext.refl w2).alloc_right (.cells #[.slice (some ⟨gb, 0, none⟩) 3 cb] 37)
      have za : (w2.alloc (.cells #[.slice (some ⟨gb, 0, none⟩) 3 cb] 37)).cell? ⟨w2.heap.size, 0, none⟩ = some (.slice (some ⟨gb, 0, none⟩) 3 cb) := by rw [Lib.cell_of_heap hA]; rfl
      replace y0 := hxa.cell y0
      replace y2 := hxa.cell y2
      replace hx := hid (hx.out.trans hxa)
      have lz := World.block_lt_of_cell? _ _ za
      dsimp only at lz
      have ly := World.block_lt_of_cell? _ _ y0
      dsimp only at ly
      clear hA hxa
      go_upto_region 8 with fail
      generalize w2.alloc (.cells #[.slice (some ⟨gb, 0, none⟩) 3 cb] 37) = w3 at *
      go_wp2_with fail
      refine (hR.out w3 hx.out).mono ?_
      rintro e w4 ⟨rfl, hx4⟩
      have hx4' := hid (hx.out.trans hx4)
      clear hx4
      go_wp2_with fail
      refine (hL.out w4 hx4'.out).mono ?_
      rintro e w5 ⟨rfl, hx5⟩
      have hx5' := hid (h2.out.trans (hx4'.out.trans hx5))
      clear hx5
      go_wp2
      go_ret
      exact ⟨rfl, hx5'.out⟩
end Go.Proofs.Ytpijfiaecicpfaa
