/-
  What a round of Open does: plain.
-/
import Derived.Test.YtcgjhloiokpicaaOh
namespace Go.Proofs.Ytcgjhloiokpicaa
open Go.RowKit Go.Shelf
set_option linter.unusedVariables false
set_option linter.unusedSimpArgs false
/-- No file has these bytes. -/
def NoFile (L : List Int) : Prop := ∀ size l, ¬ Opens L size l
def rdR (size N : Int) (L : List Int) (q : Int) (a : Nat) : Prop := 1 ≤ num L (a + 4) 4 ∧ num L (a + 4) 4 ≤ N - q ∧ (num L a 4 = 0 ∨ (num L (a + 8) 4 ≤ 2048 ∧ needS size (num L (a + 8) 4) = num L (a + 4) 4))
theorem rd_text {size N q : Int} {L : List Int} (hs : 16 ≤ size ∧ size ≤ 256) (hB : isB L) (hn : (L.length : Int) = N * size) (hq1 : 1 ≤ q) (hq : q < N) {a : Nat} (ha : (a : Int) = q * size)
    (hb : num L (a + 4) 4 ≤ N - q) (ht : needS size (num L (a + 8) 4) = num L (a + 4) 4) : a + 12 + (num L (a + 8) 4).toNat ≤ L.length ∧ ((strI (cut L (a + 12) (num L (a + 8) 4).toNat)).size : Int) = num L (a + 8) 4 := by
  have hr := num_rng hB (a + 8)
  generalize num L (a + 8) 4 = T at *
  generalize num L (a + 4) 4 = B at *
  have hNq : (N - q) * size = (L.length : Int) - a := by rw [Int.sub_mul, hn, ha]
  have h1 := Int.lt_ediv_add_one_mul_self (T + 12 + size - 1) (show 0 < size by omega)
  unfold needS at ht
  rw [ht, Int.add_mul] at h1
  have h0 : 1 ≤ B := by
    rw [← ht]
    have : 1 * size ≤ T + 12 + size - 1 := by omega
    exact (Int.le_ediv_iff_mul_le (by omega)).2 this
  have h2 : B * size ≤ (N - q) * size := Int.mul_le_mul hb (Int.le_refl _) (by omega) (by omega)
  have h3 : a + 12 + T.toNat ≤ L.length := by omega
  refine ⟨h3, ?_⟩
  have : (strI (cut L (a + 12) T.toNat)).size = (cut L (a + 12) T.toNat).length := by unfold strI; simp [strOfNums, ByteArray.size]
  rw [this]
  unfold cut
  rw [List.length_take, List.length_drop]
  omega
section
variable {size N q : Int} {L : List Int} {l : List En}
theorem op_no (hs : 16 ≤ size ∧ size ≤ 256) (h : OpInv size N L q l) (hq : q < N) (hn : num L 0 4 = N) (hz : num L 4 2 = size) {a : Nat} (ha : (a : Int) = q * size) (hno : ¬ rdOk size N L q a) : NoFile L := by
  refine op_fail hs h hq hn hz ha ?_
  unfold rdOk at hno
  omega
theorem op_noR (hs : 16 ≤ size ∧ size ≤ 256) (h : OpInv size N L q l) (hq : q < N) (hn : num L 0 4 = N) (hz : num L 4 2 = size) {a : Nat} (ha : (a : Int) = q * size) (hno : ¬ rdR size N L q a) : NoFile L := by
  refine op_fail hs h hq hn hz ha ?_
  unfold rdR at hno
  omega
theorem ok_R {a : Nat} (h : rdOk size N L q a) : rdR size N L q a := ⟨h.1, h.2.1, h.2.2.imp id (fun x => x.2)⟩
/-- What a round does with an entry that reads. -/
theorem op_go (hs : 16 ≤ size ∧ size ≤ 256) (hB : isB L) (hl : (L.length : Int) = N * size) (h : OpInv size N L q l) (hq : q < N) (hn : num L 0 4 = N) (hz : num L 4 2 = size) {a : Nat} (ha : (a : Int) = q * size) (hr : rdR size N L q a) :
    (rdE L q a).block = q ∧ 1 ≤ (rdE L q a).blocks ∧ (rdE L q a).blocks ≤ N - q ∧ ((rdE L q a).kind = 0 ∨ (rdE L q a).kind = 1) ∧ (((rdE L q a).kind = 0 → lastF l = false ∧ q + (rdE L q a).blocks ≠ N) → OpInv size N L (q + (rdE L q a).blocks) (l ++ [rdE L q a])) ∧ ((rdE L q a).kind = 0 → (lastF l = true ∨ q + (rdE L q a).blocks = N) → NoFile L) := by
  have hb : (rdE L q a).block = q ∧ (rdE L q a).blocks = num L (a + 4) 4 := by unfold rdE; split <;> exact ⟨rfl, rfl⟩
  have hk : (rdE L q a).kind = 0 ↔ num L a 4 = 0 := by
    unfold rdE
    split
    · rename_i h0; exact Iff.intro (fun _ => h0) (fun _ => rfl)
    · rename_i h0; exact Iff.intro (fun h => absurd h (by show ¬ (1 : Int) = 0; omega)) (fun h => absurd h h0)
  have hk2 : (rdE L q a).kind = 0 ∨ (rdE L q a).kind = 1 := by
    unfold rdE
    split
    · exact .inl rfl
    · exact .inr rfl
  refine ⟨hb.1, by rw [hb.2]; exact hr.1, by rw [hb.2]; exact hr.2.1, hk2, fun hc => ?_, fun h0 hc => ?_⟩
  · rw [hb.2]
    refine op_step hs h hq hn ha hr.1 hr.2.1 (fun h0 => ?_) (fun h0 => ?_)
    · rcases hr.2.2 with h1 | ⟨h1, h2⟩
      · exact absurd h1 h0
      · exact ⟨h1, h2, (rd_text hs hB hl (op_len h).1 hq ha hr.2.1 h2).2⟩
    · have := hc (hk.2 h0)
      rw [hb.2] at this
      exact this
  · refine op_fail hs h hq hn hz ha ?_
    rw [hb.2] at hc
    exact .inr (.inr (.inr (.inr ⟨hk.1 h0, hc⟩)))
end
theorem op_small {L : List Int} (h : L.length < 16) : NoFile L := by
  rintro size l ⟨hb, hG, hL⟩
  have hs := sz_bd hb
  have := file_len hs hG
  have he := (good_facts hG).2.2.2
  have : 1 * size ≤ endI l * size := Int.mul_le_mul he.1 (Int.le_refl _) (by omega) (by omega)
  rw [hL] at *
  omega
theorem op_head {L : List Int} (h : szB (num L 4 2) = false ∨ num L 0 4 < 1 ∨ 4096 < num L 0 4 ∨ (L.length : Int) ≠ num L 0 4 * num L 4 2) : NoFile L := by
  rintro size l ⟨hb, hG, hL⟩
  have hs := sz_bd hb
  have h1 := file_head hs hG
  have h2 := file_len hs hG
  have he := (good_facts hG).2.2.2
  rw [hL] at h1 h2
  rw [h1.1, h1.2, hb] at h
  rcases h with h | h | h | h
  · cases h
  · omega
  · omega
  · exact h h2
/-- All has been read. -/
theorem op_all {size N : Int} {L : List Int} {l : List En} (hb : szB size = true) (h : OpInv size N L N l) (hn : num L 0 4 = N) (hz : num L 4 2 = size) (hN : N ≤ 4096) : Good size l ∧ (fileB size l = L → Opens L size l ∧ ∀ size' l', Opens L size' l' → size' = size ∧ l' = l) ∧ (fileB size l ≠ L → NoFile L) := by
  have hs := sz_bd hb
  obtain ⟨hG, hu⟩ := op_last hs h hn hN
  have hsz : ∀ {size' l'}, Opens L size' l' → size' = size := fun {size' l'} ho => by
    obtain ⟨hb', hG', hL'⟩ := ho
    rw [← (file_head (sz_bd hb') hG').2, hL', hz]
  refine ⟨hG, fun hL => ⟨⟨hb, hG, hL⟩, fun size' l' ho => ?_⟩, fun hne size' l' ho => ?_⟩
  · obtain rfl := hsz ho
    exact ⟨rfl, hu l' ho.2.1 ho.2.2⟩
  · obtain rfl := hsz ho
    have := hu l' ho.2.1 ho.2.2
    subst this
    exact hne ho.2.2
theorem lastF_at {l : List En} {k : Nat} (h : l.length = k + 1) : lastF l = ((eth l k).kind == 0) := by
  obtain ⟨l', z, rfl⟩ : ∃ l' z, l = l' ++ [z] := ⟨_, _, (List.dropLast_concat_getLast (l := l) (by intro e; rw [e] at h; cases h)).symm⟩
  rw [lastF_snoc]
  have : l'.length = k := by simpa using h
  subst this
  rw [eth_mid l' [] z]
theorem eqB_iff {a b : List Int} (ha : isB a) (hb : isB b) : eqB a b = true ↔ a = b := by
  unfold eqB
  constructor
  · intro h; exact strI_inj ha hb (by simpa using h)
  · rintro rfl; simp
end Go.Proofs.Ytcgjhloiokpicaa
