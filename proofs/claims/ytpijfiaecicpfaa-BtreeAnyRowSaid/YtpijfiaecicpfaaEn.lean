/-
  over; an index that is played with.
-/
import Derived.Test.YtpijfiaecicpfaaAc
import Derived.Test.YtpijfiaecicpfaaEi
import Derived.Test.YtpijfiaecicpfaaEl
import Derived.Test.YtpijfiaecicpfaaEm
import Derived.Test.YtpijfiaecicpfaaKb
import Derived.Test.YtpijfiaecicpfaaBj
namespace Go.Proofs.Ytpijfiaecicpfaa
open Go.RowKit Go.Shelf
set_option linter.unusedVariables false
set_option linter.unusedSimpArgs false
def GiveO (n : Nat) (w : World) (e : Ending) (w' : World) : Prop := ∃ b, e = .returned (.bool b) ∧ (b = false → n ≤ 2000) ∧ Ext w w'
set_option maxRecDepth 100000 in
set_option maxHeartbeats 4000000 in
theorem over_any (A : Option Addr) (n c : Nat) (l : List Ac) (w : World) (hl : RdA w A n c l) : Calls Try.prog 24 #[.slice A n c] w (GiveO n w) := by
  have hmx := Rd.max hl.1
  go_enter Try.func24, Try.ntmps24
  go_wp2_with fail
  go_loopw [3, 4] (fun s i wr => ∃ (k : Nat) (v : Int), k ≤ n ∧ i = .int .i64 k ∧ s = .int .i64 v ∧ Hid (Ext w wr)) (fun _ i _ => n - (intOf i).toNat)
  case atStart => exact ⟨0, 0, by omega, rfl, rfl, Ext.refl w⟩
  case round =>
    obtain ⟨k, v, hk, rfl, rfl, hx⟩ := hrel
    by_cases hlt : k < n
    · obtain ⟨ad, rfl, z0, z1, z2, z4, z5, hok⟩ := (hl.ext hx.out).at_ hlt
      obtain ⟨o1, o2⟩ := hok
      have hki : (k : Int) < (n : Int) := by omega
      generalize ath l k = x at *
      clear z0 z1 z2
      go_upto_region 5 with fail
      go_quiet (fail)
      go_wp2
      go_roundw
      case rel => exact ⟨k + 1, _, by omega, by go_num, rfl, hx.out.drewN_right _⟩
      case measure => simp [intOf]; omega
    · obtain rfl : k = n := by omega
      by_cases h2 : 2000 < k
      · have h2i : (2000 : Int) < (k : Int) := by omega
        go_wp2
        go_ret
        exact ⟨true, rfl, fun h => (by cases h), hx.out⟩
      · have h2i : ¬ (2000 : Int) < (k : Int) := by omega
        have h2n : k ≤ 2000 := by omega
        by_cases hv : (1048576 : Int) < v
        · go_wp2
          go_ret
          exact ⟨true, rfl, fun h => (by cases h), hx.out⟩
        · go_wp2
          go_ret
          exact ⟨false, rfl, fun _ => h2n, hx.out⟩
section
variable {w0 w w' : World} {t : Nat} {L : List Te}
theorem Take_TA (H : TA w0 w t L) (s : ByteArray) (n : Int) : Calls Try.prog 26 #[.pointer (some ⟨t, 0, none⟩), .string s, .int .i64 n] w fun e w' => e = .returned (.int .i64 (takeEr L ⟨s, n⟩)) ∧ TA w0 w' t (takeLs L ⟨s, n⟩) := by
  obtain ⟨h1, h2, h, p, T, fT, h3, h4⟩ := H
  refine (Take_any t L h p T fT s n w h3 _ _ rfl rfl).mono ?_
  rintro e w' ⟨rfl, ht⟩
  exact ⟨rfl, TA.turn h3 h1 h2 h4 ht⟩
theorem At_TA (H : TA w0 w t L) (i : Int) (o : Option Te) (ho : Hid (o = atT L i)) : Calls Try.prog 31 #[.pointer (some ⟨t, 0, none⟩), .int .i64 i] w (Give (TV o) w) := by
  obtain ⟨h1, h2, h, p, T, fT, h3, h4⟩ := H
  exact At_any t L h p T fT i w h3 o ho
theorem Range_TA (H : TA w0 w t L) (lo hi : ByteArray) (most : Int) (l : List Te) (hl : Hid (l = rangeT (betwT L lo hi) most)) : Calls Try.prog 28 #[.pointer (some ⟨t, 0, none⟩), .string lo, .string hi, .int .i64 most] w (GiveE l w) := by
  obtain ⟨h1, h2, h, p, T, fT, h3, h4⟩ := H
  exact Range_any t L h p T fT lo hi most w h3 l hl
theorem Same_TA {u : Nat} {M : List Te} {v0 : World} (H : TA w0 w t L) (H2 : TA v0 w u M) (R : Bool) (hR : Hid (R = true ↔ L = M)) : Calls Try.prog 29 #[.pointer (some ⟨t, 0, none⟩), .pointer (some ⟨u, 0, none⟩)] w (Give (.bool R) w) := by
  obtain ⟨h1, h2, h, p, T, fT, h3, h4⟩ := H
  obtain ⟨k1, k2, h', p', T', fU, k3, k4⟩ := H2
  exact Same_any t u L M h p h' p' T T' fT fU w h3 k3 R hR
/-- An index that turns, beside what has been made behind a world and ahead of another. -/
def TK (w0 w2 w5 w : World) (t : Nat) (L : List Te) : Prop := w0.heap.size ≤ t ∧ Ext w0 w ∧ t < w2.heap.size ∧ w5.heap.size ≤ w.heap.size ∧ (∀ a, w2.heap.size ≤ a → a < w5.heap.size → w.heap[a]? = w5.heap[a]?) ∧ ∃ h p T fT, TreeAt 0 w t L h p T fT ∧ (∀ a, a < w0.heap.size → fT a = 0) ∧ ∀ a, w2.heap.size ≤ a → a < w5.heap.size → fT a = 0
theorem TK.ta {w2 w5 : World} (H : TK w0 w2 w5 w t L) : TA w0 w t L := by
  obtain ⟨h1, h2, h3, h4, h5, h, p, T, fT, h6, h7, h8⟩ := H
  exact ⟨h1, h2, h, p, T, fT, h6, h7⟩
theorem TK.ext {w2 w5 : World} (H : TK w0 w2 w5 w t L) (hx : Ext w w') : TK w0 w2 w5 w' t L := by
  obtain ⟨h1, h2, h3, h4, h5, h, p, T, fT, h6, h7, h8⟩ := H
  exact ⟨h1, h2.trans hx, h3, Nat.le_trans h4 hx.size, fun a ha hb => (hx.block (Nat.lt_of_lt_of_le hb h4)).trans (h5 a ha hb), h, p, T, fT, h6.ext hx, h7, h8⟩
theorem TK.start {w2 w5 : World} (H : TA w0 w2 t L) (hx : Ext w2 w5) : TK w0 w2 w5 w5 t L := by
  obtain ⟨h1, h2, h, p, T, fT, h3, h4⟩ := H
  refine ⟨h1, h2.trans hx, h3.lt, Nat.le_refl _, fun _ _ _ => rfl, h, p, T, fT, h3.ext hx, h4, fun a ha _ => h3.tn.bound a ha⟩
theorem TK.put {w2 w5 : World} (H : TK w0 w2 w5 w t L) (s : ByteArray) (n : Int) : Calls Try.prog 27 #[.pointer (some ⟨t, 0, none⟩), .string s, .int .i64 n] w fun e w' => e = .returned (.int .i64 (putEr L ⟨s, n⟩)) ∧ TK w0 w2 w5 w' t (putLs L ⟨s, n⟩) := by
  obtain ⟨h1, h2, h3, h4, h5, h, p, T, fT, h6, h7, h8⟩ := H
  refine (Put_any t L h p T fT s n w h6).mono ?_
  rintro e w' ⟨rfl, ht⟩
  refine ⟨rfl, ?_⟩
  have hx := (TA.turn h6 h1 h2 h7 ht).2.1
  obtain ⟨h', p', T', f', H', k1, k2⟩ := ht
  have hsz := k2.2.2.2.1
  have z0 := h2.size
  refine ⟨h1, hx, h3, Nat.le_trans h4 hsz, fun a ha hb => ?_, h', p', T', f', H', fun a ha => ?_, fun a ha hb => ?_⟩
  · refine (k2.2.2.2.2 a (Nat.lt_of_lt_of_le hb h4) ?_).trans (h5 a ha hb)
    show one1 t a + fT a = 0
    rw [h8 a ha hb, show one1 t a = 0 from if_neg (by omega)]
  · have := k1 a (Nat.lt_of_lt_of_le ha z0)
    have := h7 a ha
    omega
  · have := k1 a (Nat.lt_of_lt_of_le hb h4)
    have := h8 a ha hb
    omega
theorem TK.rd {w2 w5 : World} (H : TK w0 w2 w5 w t L) {k n c : Nat} {A : Option Addr} {xs : List Value} (hr : Rd w5 k A n c xs) (hf : Fr w2.heap.size A) : Rd w k A n c xs := by
  obtain ⟨h1, h2, h3, h4, h5, -⟩ := H
  refine ⟨hr.1, hr.2.1, hr.2.2.1, fun hn => ?_⟩
  obtain ⟨ad, e, hc⟩ := hr.2.2.2 hn
  refine ⟨ad, e, fun j u hu => ?_⟩
  have h6 := hc j u hu
  have h7 := World.block_lt_of_cell? _ _ h6
  rw [block_add] at h7
  exact (World.cell?_of_block (by rw [block_add]; exact h5 ad.block (hf ad e) h7)).trans h6
end
/-! ### Plainly -/
theorem keyR_none (L : List Te) : keyR L ⟨#[]⟩ = 0 := by
  unfold keyR
  cases L with
  | nil => rfl
  | cons x L =>
    have hx : decide (cmpK x.key ⟨#[]⟩ < 0) = false := by
      apply decide_eq_false
      unfold cmpK
      show ¬ Lib.compareBytes x.key.data.toList [] < 0
      cases x.key.data.toList with
      | nil => decide
      | cons a b => simp [Lib.compareBytes]
    rw [List.takeWhile_cons_of_neg (by rw [hx]; decide)]
    rfl
theorem range_all (L : List Te) : rangeT (betwT L ⟨#[]⟩ ⟨#[]⟩) (-1) = L := by
  unfold rangeT betwT endR
  rw [if_pos (by decide), if_pos rfl, keyR_none, Nat.zero_min, List.drop_zero, List.take_length]
theorem rank_at {l : List Te} (hS : Srt l) {k : Nat} (hk : k < l.length) : rankT l (tth l k) = k := by
  refine rank_is (by omega) (fun t ht => srt_nth hS ht hk) (fun t h1 h2 => ?_)
  rcases Nat.lt_or_eq_of_le h1 with h3 | h3
  · have := srt_nth hS h3 h2
    rw [cmpT_anti]
    omega
  · rw [← h3, cmpT_refl]
    decide
theorem put_there {L : List Te} {x : Te} (h0 : okT x = true) (h : x ∈ L) : putEr L x = 5 ∧ putLs L x = L := by
  have e : putEr L x = 5 := by
    unfold putEr
    rw [if_pos h0, if_pos (memT_iff.2 h)]
  refine ⟨e, ?_⟩
  unfold putLs
  rw [if_neg (by rw [e]; decide)]
theorem put_le {L : List Te} {x : Te} (h : L.length ≤ 1200) : (putLs L x).length ≤ 1200 := by
  unfold putLs
  split
  · rename_i h0
    unfold putEr at h0
    split at h0
    · split at h0
      · cases h0
      · split at h0
        · cases h0
        · rw [len_ins]; omega
    · cases h0
  · exact h
theorem take_le {L : List Te} {x : Te} (h : L.length ≤ 1200) : (takeLs L x).length ≤ 1200 := by
  unfold takeLs
  split
  · rename_i h0
    by_cases hx : x ∈ L
    · have := len_del hx; omega
    · unfold takeEr at h0
      split at h0
      · rw [if_neg (fun hm => hx (memT_iff.1 hm))] at h0
        cases h0
      · cases h0
  · exact h
theorem zip_te : ∀ L : List Te, List.zipWith Te.mk (L.map Te.key) (L.map Te.no) = L
  | [] => rfl
  | x :: L => by rw [List.map_cons, List.map_cons, List.zipWith_cons_cons, zip_te L]
theorem build_all {L : List Te} (hS : Srt L) (hok : ∀ x ∈ L, okT x = true) (hl : L.length ≤ 1200) : bldE (L.map Te.key) (L.map Te.no) = 0 ∧ ents ⟨L.map Te.key, L.map Te.no, []⟩ = L := by
  have e : ents ⟨L.map Te.key, L.map Te.no, []⟩ = L := zip_te L
  refine ⟨?_, e⟩
  unfold bldE
  rw [e, if_neg (by rw [List.length_map, List.length_map]; exact fun h => h rfl), if_neg (fun hc => cdec_not.1 hc ⟨hok, hS⟩), if_neg (by rw [List.length_map]; omega)]
theorem TA.oks {w0 w : World} {t : Nat} {L : List Te} (H : TA w0 w t L) : ∀ x ∈ L, okT x = true := by
  obtain ⟨h1, h2, h, p, T, fT, h3, h4⟩ := H
  exact h3.ok
end Go.Proofs.Ytpijfiaecicpfaa
