/-
  Lists of keys as bytes: what is packed is unpacked. No program in sight.
-/
import Derived.Test.YtlfanhlkoepodaaDoorKQ
namespace Go.Proofs.YtlfanhlkoepodaaDoor
set_option linter.unusedVariables false
set_option linter.unusedSimpArgs false
/-- The bytes of keys behind a key. -/
def pkL (bf : List UInt8) : List ByteArray → List UInt8
  | [] => []
  | k :: l => byo (cmnL bf k.toList) :: byo (k.size - cmnL bf k.toList) :: (k.toList.drop (cmnL bf k.toList) ++ pkL k.toList l)
def srtL (bf : List UInt8) : List ByteArray → Bool
  | [] => true
  | k :: l => !Op.bytesLess k.toList bf && srtL k.toList l
def bigL (l : List ByteArray) : Bool := l.any fun k => decide (100 < k.size)
def pakE (l : List ByteArray) : Int := if 300 < l.length then 3 else if bigL l = true then 3 else if srtL [] l = true then 0 else 1
def pakB (l : List ByteArray) : List UInt8 := if pakE l = 0 then pkL [] l else []
theorem pk_cons (bf : List UInt8) (k : ByteArray) (l : List ByteArray) : pkL bf (k :: l) = byo (cmnL bf k.toList) :: byo (k.size - cmnL bf k.toList) :: (k.toList.drop (cmnL bf k.toList) ++ pkL k.toList l) := rfl
theorem srt_cons (bf : List UInt8) (k : ByteArray) (l : List ByteArray) : srtL bf (k :: l) = (!Op.bytesLess k.toList bf && srtL k.toList l) := rfl
theorem big_cons (k : ByteArray) (l : List ByteArray) : bigL (k :: l) = (decide (100 < k.size) || bigL l) := rfl
/-- Does a key that is read break a rule. -/
def badK (bf k : List UInt8) (b0 : Nat) (full : Bool) : Bool := Op.bytesLess k bf || decide (100 < k.length) || decide (cmnL bf k ≠ b0) || full
def unA : Nat → List ByteArray → List UInt8 → List UInt8 → Option (List ByteArray)
  | _, acc, _, [] => some acc
  | _, _, _, [_] => none
  | 0, _, _, _ => none
  | f + 1, acc, bf, b0 :: b1 :: r => if bf.length < b0.toNat ∨ r.length < b1.toNat then none
    else if badK bf (bf.take b0.toNat ++ r.take b1.toNat) b0.toNat (decide (acc.length = 300)) then none
    else unA f (acc ++ [strB (bf.take b0.toNat ++ r.take b1.toNat)]) (bf.take b0.toNat ++ r.take b1.toNat) (r.drop b1.toNat)
def paA : Nat → List ByteArray → List UInt8 → List UInt8 → Option (List ByteArray)
  | _, acc, _, [] => some acc
  | _, _, _, [_] => none
  | 0, _, _, _ => none
  | f + 1, acc, bf, b0 :: b1 :: r => if bf.length < b0.toNat ∨ r.length < b1.toNat then none
    else paA f (acc ++ [strB (bf.take b0.toNat ++ r.take b1.toNat)]) (bf.take b0.toNat ++ r.take b1.toNat) (r.drop b1.toNat)
theorem un_nil (f : Nat) (acc : List ByteArray) (bf : List UInt8) : unA f acc bf [] = some acc := by unfold unA; rfl
theorem un_one (f : Nat) (acc : List ByteArray) (bf : List UInt8) (b : UInt8) : unA f acc bf [b] = none := by unfold unA; rfl
theorem un_two (f : Nat) (acc : List ByteArray) (bf : List UInt8) (b0 b1 : UInt8) (r : List UInt8) : unA (f + 1) acc bf (b0 :: b1 :: r) = if bf.length < b0.toNat ∨ r.length < b1.toNat then none
    else if badK bf (bf.take b0.toNat ++ r.take b1.toNat) b0.toNat (decide (acc.length = 300)) then none
    else unA f (acc ++ [strB (bf.take b0.toNat ++ r.take b1.toNat)]) (bf.take b0.toNat ++ r.take b1.toNat) (r.drop b1.toNat) := by rw [unA]
theorem pa_nil (f : Nat) (acc : List ByteArray) (bf : List UInt8) : paA f acc bf [] = some acc := by unfold paA; rfl
theorem pa_one (f : Nat) (acc : List ByteArray) (bf : List UInt8) (b : UInt8) : paA f acc bf [b] = none := by unfold paA; rfl
theorem pa_two (f : Nat) (acc : List ByteArray) (bf : List UInt8) (b0 b1 : UInt8) (r : List UInt8) : paA (f + 1) acc bf (b0 :: b1 :: r) = if bf.length < b0.toNat ∨ r.length < b1.toNat then none
    else paA f (acc ++ [strB (bf.take b0.toNat ++ r.take b1.toNat)]) (bf.take b0.toNat ++ r.take b1.toNat) (r.drop b1.toNat) := by rw [paA]
/-- What is read, where it follows the rules. -/
def okL (acc : List ByteArray) (bf b : List UInt8) (l : List ByteArray) : Bool := srtL bf l && !bigL l && decide (pkL bf l = b) && decide (acc.length + l.length ≤ 300)
theorem un_pa : ∀ (f : Nat) (acc : List ByteArray) (bf b : List UInt8), acc.length ≤ 300 → b.length ≤ f →
    (paA f acc bf b = none ∧ unA f acc bf b = none) ∨ ∃ l, paA f acc bf b = some (acc ++ l) ∧ unA f acc bf b = if okL acc bf b l then some (acc ++ l) else none
  | f, acc, bf, [], ha, hb => by
    refine .inr ⟨[], by rw [pa_nil, List.append_nil], ?_⟩
    rw [un_nil, List.append_nil, if_pos]
    simp [okL, srtL, bigL, pkL, ha]
  | f, acc, bf, [b], ha, hb => .inl ⟨pa_one _ _ _ _, un_one _ _ _ _⟩
  | 0, acc, bf, b0 :: b1 :: r, ha, hb => by simp at hb
  | f + 1, acc, bf, b0 :: b1 :: r, ha, hb => by
    rw [pa_two, un_two]
    by_cases hs : bf.length < b0.toNat ∨ r.length < b1.toNat
    · rw [if_pos hs, if_pos hs]
      exact .inl ⟨rfl, rfl⟩
    · rw [if_neg hs, if_neg hs]
      have h0 : b0.toNat ≤ bf.length := by omega
      have h1 : b1.toNat ≤ r.length := by omega
      have hl0 : (bf.take b0.toNat).length = b0.toNat := by rw [List.length_take]; omega
      have hl1 : (r.take b1.toNat).length = b1.toNat := by rw [List.length_take]; omega
      generalize hk : bf.take b0.toNat ++ r.take b1.toNat = k
      have hkl : k.length = b0.toNat + b1.toNat := by rw [← hk, List.length_append, hl0, hl1]
      have hkd : k.drop b0.toNat = r.take b1.toNat := by rw [← hk, List.drop_append_of_le_length (by omega), List.drop_of_length_le (by omega), List.nil_append]
      have hks : (strB k).size = k.length := strB_size k
      have hb0 := b0.toNat_lt
      have hb1 := b1.toNat_lt
      by_cases hbad : badK bf k b0.toNat (decide (acc.length = 300)) = true
      · rw [if_pos hbad]
        by_cases hfull : acc.length = 300
        · -- one more is too many
          have : ∀ l, okL acc bf (b0 :: b1 :: r) (strB k :: l) = false := by
            intro l
            unfold okL
            have : decide (acc.length + (strB k :: l).length ≤ 300) = false := by simp; omega
            rw [this, Bool.and_false]
          have hall : paA f (acc ++ [strB k]) k (r.drop b1.toNat) = none ∨ ∃ l, paA f (acc ++ [strB k]) k (r.drop b1.toNat) = some (acc ++ strB k :: l) := pa_some f _ _ _ _
          rcases hall with h | ⟨l, h⟩
          · exact .inl ⟨h, rfl⟩
          · exact .inr ⟨_, h, by rw [this]; rfl⟩
        · have hno : ∀ l, okL acc bf (b0 :: b1 :: r) (strB k :: l) = false := by
            intro l
            unfold okL
            rw [srt_cons, big_cons, strB_toList, hks]
            unfold badK at hbad
            rw [decide_eq_false hfull, Bool.or_false, Bool.or_eq_true, Bool.or_eq_true] at hbad
            by_cases c2 : decide (100 < k.length) = true
            · simp [c2]
            · rcases hbad with (c | c) | c
              · simp [c]
              · exact absurd c c2
              · have hne : pkL bf (strB k :: l) ≠ b0 :: b1 :: r := by
                  intro e
                  rw [pk_cons, strB_toList] at e
                  have e0 := (List.cons.inj e).1
                  have hc := cmn_le bf k
                  simp only [decide_eq_true_eq] at c c2
                  have := congrArg UInt8.toNat e0
                  rw [byo_val (by omega)] at this
                  exact c this
                rw [decide_eq_false hne, Bool.and_false, Bool.false_and]
          rcases pa_some f (acc) (strB k) k (r.drop b1.toNat) with h | ⟨l, h⟩
          · exact .inl ⟨h, rfl⟩
          · exact .inr ⟨_, h, by rw [hno]; rfl⟩
      · rw [if_neg hbad]
        have hb' := hbad
        unfold badK at hb'
        rw [Bool.not_eq_true, Bool.or_eq_false_iff, Bool.or_eq_false_iff, Bool.or_eq_false_iff] at hb'
        obtain ⟨⟨⟨c1, c2⟩, c3⟩, c4⟩ := hb'
        have c3' : cmnL bf k = b0.toNat := by simpa using c3
        have c4' : acc.length ≠ 300 := by simpa using c4
        have c2' : ¬ 100 < k.length := by simpa using c2
        rcases un_pa f (acc ++ [strB k]) k (r.drop b1.toNat) (by simp; omega) (by simp at hb ⊢; omega) with ⟨h1', h2'⟩ | ⟨l, h1', h2'⟩
        · exact .inl ⟨h1', h2'⟩
        · refine .inr ⟨strB k :: l, by rw [h1']; simp, ?_⟩
          rw [h2']
          have hok : okL acc bf (b0 :: b1 :: r) (strB k :: l) = okL (acc ++ [strB k]) k (r.drop b1.toNat) l := by
            unfold okL
            rw [srt_cons, big_cons, pk_cons, strB_toList, hks, c1, c2, c3', hkd, byo_toNat]
            have e1 : k.length - b0.toNat = b1.toNat := by omega
            rw [e1, byo_toNat]
            have e2 : decide (b0 :: b1 :: (r.take b1.toNat ++ pkL k l) = b0 :: b1 :: r) = decide (pkL k l = r.drop b1.toNat) := by
              apply decide_eq_decide.2
              constructor
              · intro e
                have e := (List.cons.inj (List.cons.inj e).2).2
                have := congrArg (List.drop b1.toNat) e
                rwa [List.drop_append_of_le_length (by omega), List.drop_of_length_le (by omega), List.nil_append] at this
              · intro e
                rw [e, List.take_append_drop]
            have e3 : acc.length + (strB k :: l).length = (acc ++ [strB k]).length + l.length := by simp; omega
            rw [e2, e3]
            simp
          rw [hok]
          simp
where
  pa_some (f : Nat) (acc : List ByteArray) (x : ByteArray) (bf b : List UInt8) : paA f (acc ++ [x]) bf b = none ∨ ∃ l, paA f (acc ++ [x]) bf b = some (acc ++ x :: l) := by
    match f, b with
    | _, [] => exact .inr ⟨[], pa_nil _ _ _⟩
    | _, [b] => exact .inl (pa_one _ _ _ _)
    | 0, b0 :: b1 :: r => exact .inl (by unfold paA; rfl)
    | f + 1, b0 :: b1 :: r =>
      rw [pa_two]
      split
      · exact .inl rfl
      · rcases pa_some f (acc ++ [x]) (strB (bf.take b0.toNat ++ r.take b1.toNat)) _ (r.drop b1.toNat) with h | ⟨l, h⟩
        · exact .inl h
        · exact .inr ⟨strB (bf.take b0.toNat ++ r.take b1.toNat) :: l, by rw [h]; simp⟩
/-- What the reference reads. -/
def unR (b : List UInt8) : Option (List ByteArray) := match paA b.length [] [] b with
  | none => none
  | some l => if pakE l = 0 ∧ pakB l = b then some l else none
theorem un_ref (b : List UInt8) : unA b.length [] [] b = unR b := by
  unfold unR
  rcases un_pa b.length [] [] b (by simp) (Nat.le_refl _) with ⟨h1, h2⟩ | ⟨l, h1, h2⟩
  · rw [h1, h2]
  · rw [List.nil_append] at h1 h2
    rw [h1, h2]
    show (if okL [] [] b l = true then some l else none) = if pakE l = 0 ∧ pakB l = b then some l else none
    have : okL [] [] b l = true ↔ (pakE l = 0 ∧ pakB l = b) := by
      unfold okL pakB pakE
      by_cases c1 : 300 < l.length
      · rw [if_pos c1]
        have : decide (([] : List ByteArray).length + l.length ≤ 300) = false := by simp; omega
        rw [this]
        simp
      · rw [if_neg c1]
        by_cases c2 : bigL l = true
        · rw [if_pos c2, c2]
          simp
        · rw [if_neg c2]
          by_cases c3 : srtL [] l = true
          · rw [if_pos c3, c3]
            simp [c2, Nat.le_of_not_lt c1]
          · rw [if_neg c3]
            simp [c3]
    by_cases c : okL [] [] b l = true
    · rw [if_pos c, if_pos (this.1 c)]
    · rw [if_neg c, if_neg (fun h => c (this.2 h))]
/-- What is packed is read again. -/
theorem pa_pk : ∀ (f : Nat) (acc : List ByteArray) (bf : List UInt8) (l : List ByteArray), (pkL bf l).length ≤ f → bigL l = false → paA f acc bf (pkL bf l) = some (acc ++ l)
  | f, acc, bf, [], _, _ => by rw [show pkL bf [] = [] from rfl, pa_nil, List.append_nil]
  | 0, acc, bf, k :: l, hf, _ => by rw [pk_cons] at hf; simp at hf
  | f + 1, acc, bf, k :: l, hf, hbig => by
    rw [big_cons, Bool.or_eq_false_iff] at hbig
    obtain ⟨hk, hb⟩ := hbig
    have hk : k.size ≤ 100 := by simpa using hk
    have hc := cmn_le bf k.toList
    have hkl := len_toList k
    rw [pk_cons] at hf ⊢
    rw [pa_two]
    have v0 : (byo (cmnL bf k.toList)).toNat = cmnL bf k.toList := byo_val (by omega)
    have v1 : (byo (k.size - cmnL bf k.toList)).toNat = k.size - cmnL bf k.toList := byo_val (by omega)
    have hdl : (k.toList.drop (cmnL bf k.toList)).length = k.size - cmnL bf k.toList := by rw [List.length_drop, hkl]
    rw [v0, v1, if_neg (by rw [List.length_append, hdl]; omega)]
    have e1 : (k.toList.drop (cmnL bf k.toList) ++ pkL k.toList l).take (k.size - cmnL bf k.toList) = k.toList.drop (cmnL bf k.toList) := by rw [← hdl, List.take_left]
    have e2 : (k.toList.drop (cmnL bf k.toList) ++ pkL k.toList l).drop (k.size - cmnL bf k.toList) = pkL k.toList l := by rw [← hdl, List.drop_left]
    rw [e1, e2, cmn_take, List.take_append_drop, strB_id]
    rw [pa_pk f (acc ++ [k]) k.toList l (by simp at hf; omega) hb]
    simp
theorem un_pak {l : List ByteArray} (h : pakE l = 0) : unA (pakB l).length [] [] (pakB l) = some l := by
  have hb : pakB l = pkL [] l := by unfold pakB; rw [if_pos h]
  have hbig : bigL l = false := by
    unfold pakE at h
    split at h
    · cases h
    · split at h
      · cases h
      · rename_i c
        simpa using c
  rw [un_ref]
  unfold unR
  have := pa_pk (pkL [] l).length [] [] l (Nat.le_refl _) hbig
  rw [hb, this]
  show (if pakE ([] ++ l) = 0 ∧ pakB ([] ++ l) = pkL [] l then some ([] ++ l) else none) = some l
  rw [List.nil_append, if_pos ⟨h, hb⟩]
end Go.Proofs.YtlfanhlkoepodaaDoor
