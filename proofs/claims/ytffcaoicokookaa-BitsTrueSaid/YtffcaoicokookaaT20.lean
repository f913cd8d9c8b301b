import Derived.Test.YtffcaoicokookaaT19
namespace Go.Proofs.Ytffcaoicokookaa
open Go.RowKit
set_option linter.unusedVariables false
theorem cell_alloc {w : World} {a : Addr} {v : Value} (h : w.cell? a = some v) (o : Obj) : (w.alloc o).cell? a = some v := (Ext.refl w).alloc_right o |>.cell h
theorem sameS_refl (l : List Int) : sameS l l = true := by simp [sameS]
theorem GiveBN.cast {s s' m m' : List Int} {x x' : Int} {w w' : World} {e : Ending} (h : GiveBN s m x w e w') (hs : s = s') (hm : m = m') (hx : x = x') : GiveBN s' m' x' w e w' := by subst hs hm hx; exact h
theorem GiveIN.cast {s s' : List Int} {x x' : Int} {w w' : World} {e : Ending} (h : GiveIN s x w e w') (hs : s = s') (hx : x = x') : GiveIN s' x' w e w' := by subst hs hx; exact h
theorem GiveBl.cast {b b' : Bool} {x x' : Int} {w w' : World} {e : Ending} (h : GiveBl b x w e w') (hs : b = b') (hx : x = x') : GiveBl b' x' w e w' := by subst hs hx; exact h
def notOk (l r : List Int) (N : Int) : Bool := valB l r && countB N && isSetS N r
def notE (l r : List Int) (N : Int) : Int := errOf (notOk l r N)
def notA (l r : List Int) (N : Int) : List Int := if notOk l r N then joinS andNot (upS N.toNat) r else []
def notB (l r : List Int) (N : Int) : List Int := if notOk l r N then joinS andNot (upS N.toNat) l else []
def rnotOk (l r : List Int) (N : Int) : Bool := rvalB l r && belowB r N
def rnotE (l r : List Int) (N : Int) : Int := errOf (rnotOk l r N)
def rnotA (l r : List Int) (N : Int) : List Int := if rnotOk l r N then lessS (upS N.toNat) r else []
def rnotB (l r : List Int) (N : Int) : List Int := if rnotOk l r N then lessS (upS N.toNat) l else []
def anyE (N : Int) : Int := errOf (countB N)
def anyA (N : Int) : List Int := if countB N then upS N.toNat else []
def setOk (l r y : List Int) : Bool := valB l r && isSetS 300 y
def setE (l r y : List Int) : Int := errOf (setOk l r y)
def setA (l r y : List Int) : List Int := if setOk l r y then settleS l r y else []
def rsetOk (l r y : List Int) : Bool := rvalB l r && isSetS 300 y
def rsetE (l r y : List Int) : Int := errOf (rsetOk l r y)
def rsetA (l r y : List Int) : List Int := if rsetOk l r y then rsettleS l r y else []
def doubtE (l r : List Int) : Int := errOf (valB l r)
def doubtA (l r : List Int) : List Int := if valB l r then joinS andNot r l else []
def rdoubtE (l r : List Int) : Int := errOf (rvalB l r)
def rdoubtA (l r : List Int) : List Int := if rvalB l r then lessS r l else []
def knownE (y : List Int) : Int := errOf (isSetS 300 y)
def knownA (y : List Int) : List Int := if isSetS 300 y then y else []
def isE (l r y : List Int) : Int := errOf (setOk l r y)
def isA (l r y : List Int) : Bool := setOk l r y && trueB l r y
def risE (l r y : List Int) : Int := errOf (rsetOk l r y)
def risA (l r y : List Int) : Bool := rsetOk l r y && rtrueB l r y
theorem count_of {N : Int} (h : countB N = true) : ∃ k : Nat, N = k ∧ k ≤ 300 := by
  simp [countB] at h
  exact ⟨N.toNat, by omega, by omega⟩
theorem below_eq {r : List Int} (hr : isSetS 300 r = true) (N : Int) : (countB N && isSetS N r) = belowB r N := by
  unfold belowB
  by_cases hc : countB N = true
  · simp only [hc, Bool.true_and]
    rcases Nat.eq_zero_or_pos r.length with h0 | h0
    · obtain rfl := List.eq_nil_of_length_eq_zero h0
      simp [isSetS, okTo]
    · by_cases hl : nth r (r.length - 1) ≤ N
      · rw [isSetS_of (pw_set hr) fun y hy => ?_]
        · simp [hl]
        · have h1 := isSetS_mem hr hy
          obtain ⟨k, hk, rfl⟩ := mem_nth hy
          refine ⟨h1.1, ?_⟩
          by_cases e : k = r.length - 1
          · subst e; exact hl
          · have := asc_of hr k (r.length - 1) (by omega) (by omega); omega
      · have : isSetS N r = false := by
          cases h : isSetS N r with
          | false => rfl
          | true => exact absurd (isSetS_at h (k := r.length - 1) (by omega)).2.1 hl
        have hne : decide (r.length = 0) = false := by simp; intro e; subst e; simp at h0
        rw [this, hne]
        simp [hl]
  · simp [hc]
theorem notOk_eq (l r : List Int) (N : Int) : notOk l r N = rnotOk l r N := by
  unfold notOk rnotOk
  rw [rval_eq]
  by_cases h : valB l r = true
  · rw [h, Bool.true_and, Bool.true_and]; exact below_eq (set_of_valB h).2 N
  · simp [h]
theorem notA_eq (l r : List Int) (N : Int) : notA l r N = rnotA l r N := by
  unfold notA rnotA
  rw [← notOk_eq]
  by_cases h : notOk l r N = true
  · rw [if_pos h, if_pos h]
    simp only [notOk, Bool.and_eq_true] at h
    exact join_first (pw_up _) (pw_set (set_of_valB h.1.1).2)
  · rw [if_neg h, if_neg h]
theorem notB_eq (l r : List Int) (N : Int) : notB l r N = rnotB l r N := by
  unfold notB rnotB
  rw [← notOk_eq]
  by_cases h : notOk l r N = true
  · rw [if_pos h, if_pos h]
    simp only [notOk, Bool.and_eq_true] at h
    exact join_first (pw_up _) (pw_set (set_of_valB h.1.1).1)
  · rw [if_neg h, if_neg h]
theorem setOk_eq (l r y : List Int) : setOk l r y = rsetOk l r y := by unfold setOk rsetOk; rw [rval_eq]
theorem setA_eq (l r y : List Int) : setA l r y = rsetA l r y := by
  unfold setA rsetA
  rw [← setOk_eq]
  by_cases h : setOk l r y = true
  · rw [if_pos h, if_pos h]
    simp only [setOk, Bool.and_eq_true] at h
    have := set_of_valB h.1
    exact settle_eq this.1 this.2 h.2
  · rw [if_neg h, if_neg h]
theorem doubtA_eq (l r : List Int) : doubtA l r = rdoubtA l r := by
  unfold doubtA rdoubtA
  rw [rval_eq]
  by_cases h : valB l r = true
  · rw [if_pos h, if_pos h]
    have := set_of_valB h
    exact join_first (pw_set this.2) (pw_set this.1)
  · rw [if_neg h, if_neg h]
theorem isA_eq (l r y : List Int) : isA l r y = risA l r y := by
  unfold isA risA
  rw [← setOk_eq]
  by_cases h : setOk l r y = true
  · rw [h]
    simp only [setOk, Bool.and_eq_true] at h
    have := set_of_valB h.1
    unfold trueB rtrueB
    rw [join_first (pw_set this.1) (pw_set h.2), join_first (pw_set h.2) (pw_set this.2)]
  · simp [h]

theorem Not_any (A : Option Addr) (n c : Nat) (l : List Int) (B : Option Addr) (m d : Nat) (r : List Int) (N : Int) (w : World) (hs : RdI w A n c l) (ht : RdI w B m d r) (hn : n ≤ 3000) (hm : m ≤ 3000) : Calls Try.prog 26 #[.agg #[.slice A n c, .slice B m d], .int .i64 N] w (GiveBN (notA l r N) (notB l r N) (notE l r N) w) := by
  by_cases h1 : valB l r = true
  · by_cases h2 : (countB N && isSetS N r) = true
    · have hok : notOk l r N = true := by simp only [notOk, h1, Bool.true_and, h2]
      have hc : countB N = true := by simp only [Bool.and_eq_true] at h2; exact h2.1
      obtain ⟨k, rfl, hk⟩ := count_of hc
      refine (Not_yes _ _ _ _ _ _ _ _ k _ hs ht hn hm h1 hc (by simp only [Bool.and_eq_true] at h2; exact h2.2) hk).mono fun e w' h => h.cast ?_ ?_ ?_
      · unfold notA; rw [if_pos hok]; rfl
      · unfold notB; rw [if_pos hok]; rfl
      · unfold notE; rw [hok]; rfl
    · have hok : notOk l r N = false := by simp only [notOk, h1, Bool.true_and]; simpa using h2
      refine (Not_no2 _ _ _ _ _ _ _ _ N _ hs ht hn hm h1 (Classical.byCases (fun hc : countB N = true => Or.inr (by simpa [hc] using h2)) (fun hc => Or.inl (by simpa using hc)))).mono fun e w' h => h.cast ?_ ?_ ?_
      · unfold notA; rw [if_neg (by simp [hok])]
      · unfold notB; rw [if_neg (by simp [hok])]
      · unfold notE; rw [hok]; rfl
  · have hok : notOk l r N = false := by simp [notOk, h1]
    refine (Not_no1 _ _ _ _ _ _ _ _ N _ hs ht hn hm (by simpa using h1)).mono fun e w' h => h.cast ?_ ?_ ?_
    · unfold notA; rw [if_neg (by simp [hok])]
    · unfold notB; rw [if_neg (by simp [hok])]
    · unfold notE; rw [hok]; rfl

theorem rNot_any (A : Option Addr) (n c : Nat) (l : List Int) (B : Option Addr) (m d : Nat) (r : List Int) (N : Int) (w : World) (hs : RdI w A n c l) (ht : RdI w B m d r) (hn : n ≤ 3000) (hm : m ≤ 3000) : Calls Try.prog 27 #[.agg #[.slice A n c, .slice B m d], .int .i64 N] w (GiveBN (rnotA l r N) (rnotB l r N) (rnotE l r N) w) := by
  by_cases h1 : rvalB l r = true
  · by_cases h2 : belowB r N = true
    · have hok : rnotOk l r N = true := by simp only [rnotOk, h1, h2, Bool.and_self]
      have hc : countB N = true := by simp only [belowB, Bool.and_eq_true] at h2; exact h2.1
      obtain ⟨k, rfl, hk⟩ := count_of hc
      refine (rNot_yes _ _ _ _ _ _ _ _ k _ hs ht hn hm h1 h2 hk).mono fun e w' h => h.cast ?_ ?_ ?_
      · unfold rnotA; rw [if_pos hok]; rfl
      · unfold rnotB; rw [if_pos hok]; rfl
      · unfold rnotE; rw [hok]; rfl
    · have hok : rnotOk l r N = false := by simp [rnotOk, h1, h2]
      refine (rNot_no2 _ _ _ _ _ _ _ _ N _ hs ht hn hm h1 (by simpa using h2)).mono fun e w' h => h.cast ?_ ?_ ?_
      · unfold rnotA; rw [if_neg (by simp [hok])]
      · unfold rnotB; rw [if_neg (by simp [hok])]
      · unfold rnotE; rw [hok]; rfl
  · have hok : rnotOk l r N = false := by simp [rnotOk, h1]
    refine (rNot_no1 _ _ _ _ _ _ _ _ N _ hs ht hn hm (by simpa using h1)).mono fun e w' h => h.cast ?_ ?_ ?_
    · unfold rnotA; rw [if_neg (by simp [hok])]
    · unfold rnotB; rw [if_neg (by simp [hok])]
    · unfold rnotE; rw [hok]; rfl

theorem Any_any (N : Int) (w : World) : Calls Try.prog 28 #[.int .i64 N] w (GiveBN [] (anyA N) (anyE N) w) := by
  by_cases h : countB N = true
  · obtain ⟨k, rfl, hk⟩ := count_of h
    refine (Any_yes k _ hk).mono fun e w' h' => h'.cast rfl ?_ ?_
    · unfold anyA; rw [if_pos h]; rfl
    · unfold anyE; rw [h]; rfl
  · refine (Any_no N _ (by simpa using h)).mono fun e w' h' => h'.cast rfl ?_ ?_
    · unfold anyA; rw [if_neg h]
    · unfold anyE; simp [h, errOf]

theorem rAny_any (N : Int) (w : World) : Calls Try.prog 29 #[.int .i64 N] w (GiveBN [] (anyA N) (anyE N) w) := by
  by_cases h : countB N = true
  · obtain ⟨k, rfl, hk⟩ := count_of h
    refine (rAny_yes k _ hk).mono fun e w' h' => h'.cast rfl ?_ ?_
    · unfold anyA; rw [if_pos h]; rfl
    · unfold anyE; rw [h]; rfl
  · refine (rAny_no N _ (by simpa using h)).mono fun e w' h' => h'.cast rfl ?_ ?_
    · unfold anyA; rw [if_neg h]
    · unfold anyE; simp [h, errOf]

theorem Settle_any (A : Option Addr) (n c : Nat) (l : List Int) (B : Option Addr) (m d : Nat) (r : List Int) (Y : Option Addr) (p cp : Nat) (y : List Int) (w : World) (hs : RdI w A n c l) (ht : RdI w B m d r) (hy : RdI w Y p cp y) (hn : n ≤ 3000) (hm : m ≤ 3000) (hp : p ≤ 3000) : Calls Try.prog 33 #[.agg #[.slice A n c, .slice B m d], .slice Y p cp] w (GiveBN (setA l r y) (setA l r y) (setE l r y) w) := by
  by_cases h1 : valB l r = true
  · by_cases h2 : isSetS 300 y = true
    · have hok : setOk l r y = true := by simp only [setOk, h1, h2, Bool.and_self]
      have sl := set_of_valB (l := l) (r := r) (by exact h1)
      refine (Settle_yes _ _ _ _ _ _ _ _ _ _ _ _ _ hs ht hy hn hm hp h1 h2 (settle_set sl.1 sl.2 h2)).mono fun e w' h => h.cast ?_ ?_ ?_
      · unfold setA; rw [if_pos hok]
      · unfold setA; rw [if_pos hok]
      · unfold setE; rw [hok]; rfl
    · have hok : setOk l r y = false := by simp [setOk, h2]
      refine (Settle_no2 _ _ _ _ _ _ _ _ _ _ _ _ _ hs ht hy hn hm h1 (by simpa using h2)).mono fun e w' h => h.cast ?_ ?_ ?_
      · unfold setA; rw [if_neg (by simp [hok])]
      · unfold setA; rw [if_neg (by simp [hok])]
      · unfold setE; rw [hok]; rfl
  · have hok : setOk l r y = false := by simp [setOk, h1]
    refine (Settle_no1 _ _ _ _ _ _ _ _ _ _ _ _ _ hs ht hy hn hm (by simpa using h1)).mono fun e w' h => h.cast ?_ ?_ ?_
    · unfold setA; rw [if_neg (by simp [hok])]
    · unfold setA; rw [if_neg (by simp [hok])]
    · unfold setE; rw [hok]; rfl

theorem rSettle_any (A : Option Addr) (n c : Nat) (l : List Int) (B : Option Addr) (m d : Nat) (r : List Int) (Y : Option Addr) (p cp : Nat) (y : List Int) (w : World) (hs : RdI w A n c l) (ht : RdI w B m d r) (hy : RdI w Y p cp y) (hn : n ≤ 3000) (hm : m ≤ 3000) (hp : p ≤ 3000) : Calls Try.prog 34 #[.agg #[.slice A n c, .slice B m d], .slice Y p cp] w (GiveBN (rsetA l r y) (rsetA l r y) (rsetE l r y) w) := by
  by_cases h1 : rvalB l r = true
  · by_cases h2 : isSetS 300 y = true
    · have hok : rsetOk l r y = true := by simp only [rsetOk, h1, h2, Bool.and_self]
      have sl := set_of_valB (l := l) (r := r) (by rw [← rval_eq]; exact h1)
      refine (rSettle_yes _ _ _ _ _ _ _ _ _ _ _ _ _ hs ht hy hn hm hp h1 h2 ((settle_eq sl.1 sl.2 h2 ▸ settle_set sl.1 sl.2 h2))).mono fun e w' h => h.cast ?_ ?_ ?_
      · unfold rsetA; rw [if_pos hok]
      · unfold rsetA; rw [if_pos hok]
      · unfold rsetE; rw [hok]; rfl
    · have hok : rsetOk l r y = false := by simp [rsetOk, h2]
      refine (rSettle_no2 _ _ _ _ _ _ _ _ _ _ _ _ _ hs ht hy hn hm h1 (by simpa using h2)).mono fun e w' h => h.cast ?_ ?_ ?_
      · unfold rsetA; rw [if_neg (by simp [hok])]
      · unfold rsetA; rw [if_neg (by simp [hok])]
      · unfold rsetE; rw [hok]; rfl
  · have hok : rsetOk l r y = false := by simp [rsetOk, h1]
    refine (rSettle_no1 _ _ _ _ _ _ _ _ _ _ _ _ _ hs ht hy hn hm (by simpa using h1)).mono fun e w' h => h.cast ?_ ?_ ?_
    · unfold rsetA; rw [if_neg (by simp [hok])]
    · unfold rsetA; rw [if_neg (by simp [hok])]
    · unfold rsetE; rw [hok]; rfl

theorem True_any (A : Option Addr) (n c : Nat) (l : List Int) (B : Option Addr) (m d : Nat) (r : List Int) (Y : Option Addr) (p cp : Nat) (y : List Int) (w : World) (hs : RdI w A n c l) (ht : RdI w B m d r) (hy : RdI w Y p cp y) (hn : n ≤ 3000) (hm : m ≤ 3000) (hp : p ≤ 3000) : Calls Try.prog 30 #[.agg #[.slice A n c, .slice B m d], .slice Y p cp] w (GiveBl (isA l r y) (isE l r y) w) := by
  by_cases h1 : valB l r = true
  · by_cases h2 : isSetS 300 y = true
    · have hok : setOk l r y = true := by simp only [setOk, h1, h2, Bool.and_self]
      refine (True_yes _ _ _ _ _ _ _ _ _ _ _ _ _ hs ht hy hn hm hp h1 h2).mono fun e w' h => h.cast ?_ ?_
      · unfold isA; rw [hok, Bool.true_and]
      · unfold isE; rw [hok]; rfl
    · have hok : setOk l r y = false := by simp [setOk, h2]
      refine (True_no2 _ _ _ _ _ _ _ _ _ _ _ _ _ hs ht hy hn hm h1 (by simpa using h2)).mono fun e w' h => h.cast ?_ ?_
      · unfold isA; rw [hok, Bool.false_and]
      · unfold isE; rw [hok]; rfl
  · have hok : setOk l r y = false := by simp [setOk, h1]
    refine (True_no1 _ _ _ _ _ _ _ _ _ _ _ _ _ hs ht hy hn hm (by simpa using h1)).mono fun e w' h => h.cast ?_ ?_
    · unfold isA; rw [hok, Bool.false_and]
    · unfold isE; rw [hok]; rfl

theorem rTrue_any (A : Option Addr) (n c : Nat) (l : List Int) (B : Option Addr) (m d : Nat) (r : List Int) (Y : Option Addr) (p cp : Nat) (y : List Int) (w : World) (hs : RdI w A n c l) (ht : RdI w B m d r) (hy : RdI w Y p cp y) (hn : n ≤ 3000) (hm : m ≤ 3000) (hp : p ≤ 3000) : Calls Try.prog 31 #[.agg #[.slice A n c, .slice B m d], .slice Y p cp] w (GiveBl (risA l r y) (risE l r y) w) := by
  by_cases h1 : rvalB l r = true
  · by_cases h2 : isSetS 300 y = true
    · have hok : rsetOk l r y = true := by simp only [rsetOk, h1, h2, Bool.and_self]
      refine (rTrue_yes _ _ _ _ _ _ _ _ _ _ _ _ _ hs ht hy hn hm hp h1 h2).mono fun e w' h => h.cast ?_ ?_
      · unfold risA; rw [hok, Bool.true_and]
      · unfold risE; rw [hok]; rfl
    · have hok : rsetOk l r y = false := by simp [rsetOk, h2]
      refine (rTrue_no2 _ _ _ _ _ _ _ _ _ _ _ _ _ hs ht hy hn hm h1 (by simpa using h2)).mono fun e w' h => h.cast ?_ ?_
      · unfold risA; rw [hok, Bool.false_and]
      · unfold risE; rw [hok]; rfl
  · have hok : rsetOk l r y = false := by simp [rsetOk, h1]
    refine (rTrue_no1 _ _ _ _ _ _ _ _ _ _ _ _ _ hs ht hy hn hm (by simpa using h1)).mono fun e w' h => h.cast ?_ ?_
    · unfold risA; rw [hok, Bool.false_and]
    · unfold risE; rw [hok]; rfl

theorem Doubt_any (A : Option Addr) (n c : Nat) (l : List Int) (B : Option Addr) (m d : Nat) (r : List Int) (w : World) (hs : RdI w A n c l) (ht : RdI w B m d r) (hn : n ≤ 3000) (hm : m ≤ 3000) : Calls Try.prog 35 #[.agg #[.slice A n c, .slice B m d]] w (GiveIN (doubtA l r) (doubtE l r) w) := by
  by_cases h1 : valB l r = true
  · refine (Doubt_yes _ _ _ _ _ _ _ _ _ hs ht hn hm h1).mono fun e w' h => h.cast ?_ ?_
    · unfold doubtA; rw [if_pos h1]
    · unfold doubtE; rw [h1]; rfl
  · refine (Doubt_no _ _ _ _ _ _ _ _ _ hs ht hn hm (by simpa using h1)).mono fun e w' h => h.cast ?_ ?_
    · unfold doubtA; rw [if_neg h1]
    · unfold doubtE; simp [h1, errOf]

theorem rDoubt_any (A : Option Addr) (n c : Nat) (l : List Int) (B : Option Addr) (m d : Nat) (r : List Int) (w : World) (hs : RdI w A n c l) (ht : RdI w B m d r) (hn : n ≤ 3000) (hm : m ≤ 3000) : Calls Try.prog 36 #[.agg #[.slice A n c, .slice B m d]] w (GiveIN (rdoubtA l r) (rdoubtE l r) w) := by
  by_cases h1 : rvalB l r = true
  · refine (rDoubt_yes _ _ _ _ _ _ _ _ _ hs ht hn hm h1).mono fun e w' h => h.cast ?_ ?_
    · unfold rdoubtA; rw [if_pos h1]
    · unfold rdoubtE; rw [h1]; rfl
  · refine (rDoubt_no _ _ _ _ _ _ _ _ _ hs ht hn hm (by simpa using h1)).mono fun e w' h => h.cast ?_ ?_
    · unfold rdoubtA; rw [if_neg h1]
    · unfold rdoubtE; simp [h1, errOf]

theorem Known_any (A : Option Addr) (n c : Nat) (l : List Int) (w : World) (hs : RdI w A n c l) (hn : n ≤ 10000) : Calls Try.prog 37 #[.slice A n c] w (GiveBN (knownA l) (knownA l) (knownE l) w) := by
  by_cases h1 : isSetS 300 l = true
  · refine (Known_yes _ _ _ _ _ hs h1 hn).mono fun e w' h => h.cast ?_ ?_ ?_
    · unfold knownA; rw [if_pos h1]
    · unfold knownA; rw [if_pos h1]
    · unfold knownE; rw [h1]; rfl
  · refine (Known_no _ _ _ _ _ hs (by simpa using h1)).mono fun e w' h => h.cast ?_ ?_ ?_
    · unfold knownA; rw [if_neg h1]
    · unfold knownA; rw [if_neg h1]
    · unfold knownE; simp [h1, errOf]

theorem rKnown_any (A : Option Addr) (n c : Nat) (l : List Int) (w : World) (hs : RdI w A n c l) (hn : n ≤ 10000) : Calls Try.prog 38 #[.slice A n c] w (GiveBN (knownA l) (knownA l) (knownE l) w) := by
  by_cases h1 : isSetS 300 l = true
  · refine (rKnown_yes _ _ _ _ _ hs h1 hn).mono fun e w' h => h.cast ?_ ?_ ?_
    · unfold knownA; rw [if_pos h1]
    · unfold knownA; rw [if_pos h1]
    · unfold knownE; rw [h1]; rfl
  · refine (rKnown_no _ _ _ _ _ hs (by simpa using h1)).mono fun e w' h => h.cast ?_ ?_ ?_
    · unfold knownA; rw [if_neg h1]
    · unfold knownA; rw [if_neg h1]
    · unfold knownE; simp [h1, errOf]
end Go.Proofs.Ytffcaoicokookaa
