/-
  What a comparison says lies between its bounds.
-/
import Derived.Test.YtlfanhlkoepodaaDoorKY
import Derived.Test.YtlfanhlkoepodaaDoorK38
import Derived.Test.YtlfanhlkoepodaaDoorK23
namespace Go.Proofs.YtlfanhlkoepodaaDoor
open Go.RowKit
set_option linter.unusedVariables false
set_option linter.unusedSimpArgs false
theorem behS_list (s : ByteArray) : (behS s).toList = behG s.toList := by
  unfold behS behG
  rw [behL_F]
  cases behF s.toList with
  | none => exact emp_list
  | some l => exact strB_toList l
/-- Is a comparison of two values of one kind true? -/
def holdB (o : Nat) (k n' : Int) (s' : ByteArray) (n : Int) (s : ByteArray) (x : Bool) : Bool :=
  if o = 0 then (if k = 4 then eqB s' s x else decide (cmpO k n' s' k n s = 0))
  else if o = 1 then decide (cmpO k n' s' k n s = 0)
  else if o = 2 then decide (cmpO k n' s' k n s < 0)
  else if o = 3 then decide (cmpO k n' s' k n s ≤ 0)
  else if o = 4 then decide (0 < cmpO k n' s' k n s)
  else decide (0 ≤ cmpO k n' s' k n s)
theorem both_0 {k n k' n' : Int} {s s' : ByteArray} (h : valE k n s = 0) (h' : valE k' n' s' = 0) : bothE k n s k' n' s' = 0 := by
  unfold bothE
  simp [h, h']
theorem cmpO_same {k n n' : Int} {s s' : ByteArray} (h : valE k n s = 0) (h' : valE k n' s' = 0) (h0 : k ≠ 0) : cmpO k n' s' k n s = if k = 4 then Lib.compareBytes s'.toList s.toList else cmpI n' n := by
  unfold cmpO
  rw [both_0 h' h]
  simp [h0]
theorem ki_list (k : Int) : (kiB k).toList = [byo k.toNat] := strB_toList _
theorem en_list {k : Int} (h0 : 0 ≤ k) (h : k ≤ 4) : (enB k).toList = [nxt (byo k.toNat)] := by
  unfold enB
  rw [behS_list, ki_list]
  have hv : (byo k.toNat).toNat = k.toNat := byo_val (by omega)
  unfold behG
  rw [behF_cons]
  simp [behF, hv, show k.toNat < 255 by omega, nxt]
/-- The keys of two values of one kind. -/
theorem val_ky {k n n' : Int} {s s' : ByteArray} {p c : Int} (h : valE k n s = 0) (h' : valE k n' s' = 0) (h0 : k ≠ 0) : Ky (kL k n' s' p c) (kL k n s p c) (byo k.toNat) := by
  have hi := val_in h
  have hv : (byo k.toNat).toNat = k.toNat := byo_val (by omega)
  have hk : k = 1 ∨ k = 2 ∨ k = 3 ∨ k = 4 := by omega
  rcases hk with rfl | rfl | rfl | rfl
  · exact same_ky (by omega) (by omega) rfl rfl (by intro e; have := congrArg List.length e; simp [highL_len] at this) (by simp [highL_len])
  · exact same_ky (by omega) (by omega) rfl rfl (by intro e; have := congrArg List.length e; simp [highL_len] at this) (by simp [highL_len])
  · exact same_ky (by omega) (by omega) rfl rfl (by intro e; have := congrArg List.length e; simp [highL_len] at this) (by simp [highL_len])
  · exact text_ky _ _
/-- What is to be shown of two bounds. -/
def Good (x lo hi : List UInt8) (b su : Bool) (fit : Prop) : Prop :=
  (b = true → isIn x lo hi) ∧ (isIn x lo hi → su = true → fit → b = true) ∧ NP x lo ∧ NP x hi ∧ ∃ c t, hi = c :: t ∧ 1 ≤ c.toNat
theorem Good.iff {x lo hi : List UInt8} {b su : Bool} {fit : Prop} (h : isIn x lo hi ↔ b = true) (h1 : NP x lo) (h2 : NP x hi) (h3 : ∃ c t, hi = c :: t ∧ 1 ≤ c.toNat) : Good x lo hi b su fit := ⟨h.2, fun a _ _ => h.1 a, h1, h2, h3⟩
variable {x K : List UInt8} {k : UInt8}
theorem Ky.up (h : Ky x K k) : ∃ c t, [nxt k] = c :: t ∧ 1 ≤ c.toNat := ⟨_, _, rfl, by rw [h.nxt_val]; omega⟩
theorem Ky.upK (h : Ky x K k) : ∃ c t, K = c :: t ∧ 1 ≤ c.toNat := by obtain ⟨q, hq⟩ := h.two; exact ⟨k, q, hq, h.low⟩
theorem Ky.upG (h : Ky x K k) : (∃ c t, behG K = c :: t ∧ 1 ≤ c.toNat) ∧ NP x (behG K) := by
  obtain ⟨y, h1, h2, h3, _, h5⟩ := h.beh
  rw [h2]
  exact ⟨h3, h5⟩
/-- The bounds of a plain comparison. -/
def plo (o : Nat) (k : UInt8) (K : List UInt8) : List UInt8 × List UInt8 :=
  if o = 0 ∨ o = 1 then (K, behG K) else if o = 2 then ([k], K) else if o = 3 then ([k], behG K) else if o = 4 then (behG K, [nxt k]) else (K, [nxt k])
def plb (o : Nat) (m : Int) : Bool := if o = 0 ∨ o = 1 then decide (m = 0) else if o = 2 then decide (m < 0) else if o = 3 then decide (m ≤ 0) else if o = 4 then decide (0 < m) else decide (0 ≤ m)
theorem plain_good {o : Nat} (h : Ky x K k) (su : Bool) (fit : Prop) : Good x (plo o k K).1 (plo o k K).2 (plb o (Lib.compareBytes x K)) su fit := by
  unfold plo plb
  by_cases h1 : o = 0 ∨ o = 1
  · simp only [if_pos h1]
    exact Good.iff (by rw [h.eq]; simp) h.npK h.upG.2 h.upG.1
  · simp only [if_neg h1]
    by_cases h2 : o = 2
    · simp only [if_pos h2]
      exact Good.iff (by rw [h.lt]; simp) (h.np1 _) h.npK h.upK
    · simp only [if_neg h2]
      by_cases h3 : o = 3
      · simp only [if_pos h3]
        exact Good.iff (by rw [h.le]; simp) (h.np1 _) h.upG.2 h.upG.1
      · simp only [if_neg h3]
        by_cases h4 : o = 4
        · simp only [if_pos h4]
          exact Good.iff (by rw [h.gt]; simp) h.upG.2 (h.np1 _) h.up
        · simp only [if_neg h4]
          exact Good.iff (by rw [h.ge]; simp) h.npK (h.np1 _) h.up
theorem pre_is (a b : ByteArray) : preB a b = b.toList.isPrefixOf a.toList := by
  have := pre_list a b (k := 0) (Nat.zero_le _)
  rw [List.drop_zero, ext0, take_all, strB_id] at this
  exact this
theorem trR_pre (l : List UInt8) (c : Int) : trR l c <+: l := by
  unfold trR
  have := List.dropWhile_suffix (l := l.reverse) (fun b => decide ((b.toNat : Int) = c))
  have h2 := List.reverse_prefix.2 this
  simpa using h2
theorem wlz (l : List UInt8) (p : Int) : Pg.wl l p 0 = l := by
  unfold Pg.wl
  refine (List.map_congr_left (g := id) ?_).trans (List.map_id l)
  intro b _
  show Pg.bOf (Pg.weightS (b.toNat : Int) p 0) = b
  have : Pg.weightS (b.toNat : Int) p 0 = (b.toNat : Int) := by unfold Pg.weightS; simp
  rw [this, bOf_byo, byo_toNat]
theorem wtz (s : ByteArray) (p : Int) : wt s p 0 = s.toList.take 48 := wlz _ p
theorem take_pre {a b : List UInt8} (h : a <+: b) (n : Nat) : a.take n <+: b.take n := by
  obtain ⟨r, rfl⟩ := h
  rw [List.take_append]
  exact List.prefix_append _ _
theorem wt_pre {a b : List UInt8} {s t : ByteArray} (hs : s.toList = a) (ht : t.toList = b) (h : a <+: b) (p c : Int) : (wt s p c).isPrefixOf (wt t p c) = true := by
  unfold wt Pg.wl
  rw [hs, ht]
  exact List.isPrefixOf_iff_prefix.2 ((take_pre h 48).map _)
theorem kL4 (n : Int) (s : ByteArray) (p c : Int) : kL 4 n s p c = byo 4 :: (escL (wt s p c) ++ [0, 0]) := rfl
theorem cmp_kL4 (n n' : Int) (s s' : ByteArray) (p c : Int) : Lib.compareBytes (kL 4 n' s' p c) (kL 4 n s p c) = Lib.compareBytes (wt s' p c) (wt s p c) := by
  rw [kL4, kL4, cmp_same]
  exact (cmp_esc _ _).1
theorem preS_list (s : ByteArray) (p c : Int) : (strB (preL s p c)).toList = byo 4 :: escL (wt s p c) := strB_toList _
theorem rng_good {o : Nat} (ho : o < 6) {k n n' : Int} {s s' : ByteArray} {ex : Bool} {p c : Int} (h : valE k n s = 0) (h' : valE k n' s' = 0) (h0 : k ≠ 0) :
    Good (kL k n' s' p c) (bnd o k n s ex p c).1.toList (bnd o k n s ex p c).2.toList (holdB o k n' s' n s ex) (sureB o k s ex c) (s'.size ≤ 48) := by
  have hky := val_ky (p := p) (c := c) h h' h0
  have hin := val_in h
  have hm := cmpO_same h h' h0
  by_cases h4 : k = 4
  · subst h4
    rw [if_pos rfl] at hm
    have ha := cmp_kL4 n n' s s' p c
    by_cases o0 : o = 0
    · subst o0
      have hb : bnd 0 4 n s ex p c = (neaL s ex p c, neaH s ex p c) := by unfold bnd; simp
      rw [hb]
      dsimp only
      unfold neaH neaL
      rw [behS_list, preS_list]
      obtain ⟨g1, _, _, g4, g5, g6⟩ := near_in (wt s' p c) (wt (trS s ex) p c)
      have hh : holdB 0 4 n' s' n s ex = eqB s' s ex := by unfold holdB; simp
      rw [hh]
      refine ⟨?_, ?_, g4, g5, g6⟩
      · intro hq
        refine g1.2 ?_
        cases ex with
        | true =>
          have hq2 : (trimR s' 32).toList = (trimR s 32).toList := by unfold eqB at hq; simpa using hq
          refine wt_pre (s := trimR s 32) (t := s') hq2.symm rfl ?_ p c
          show (strB (trR s'.toList 32)).toList <+: s'.toList
          rw [strB_toList]
          exact trR_pre _ _
        | false =>
          have hq2 : preB s' s = true := by unfold eqB at hq; simpa using hq
          rw [pre_is] at hq2
          exact wt_pre (s := s) (t := s') rfl rfl (List.isPrefixOf_iff_prefix.1 hq2) p c
      · intro hi hs hfit
        have hp := g1.1 hi
        unfold sureB at hs
        cases ex with
        | true => simp at hs
        | false =>
          simp at hs
          obtain ⟨rfl, hs⟩ := hs
          rw [wtz, wtz, show trS s false = s from rfl] at hp
          unfold eqB
          simp only [Bool.false_eq_true, if_false]
          rw [pre_is]
          rw [List.take_of_length_le (by rw [len_toList]; omega)] at hp
          exact List.isPrefixOf_iff_prefix.2 ((List.isPrefixOf_iff_prefix.1 hp).trans (List.take_prefix _ _))
    · have hh : holdB o 4 n' s' n s ex = plb o (Lib.compareBytes s'.toList s.toList) := by
        unfold holdB plb
        rw [hm, if_neg o0]
        simp [o0]
      rw [hh]
      by_cases hc : c = 0 ∧ s.size < 48
      · obtain ⟨rfl, hs⟩ := hc
        have hb : (bnd o 4 n s ex p 0).1.toList = (plo o (byo (4 : Int).toNat) (kL 4 n s p 0)).1 ∧ (bnd o 4 n s ex p 0).2.toList = (plo o (byo (4 : Int).toNat) (kL 4 n s p 0)).2 := by
          have hlo : ¬ 48 ≤ s.size := by omega
          unfold bnd plo
          have e1 := keyB_list 4 n s p 0
          have e2 := behS_list (keyB 4 n s p 0)
          have e3 := ki_list 4
          have e4 := en_list (k := 4) (by omega) (by omega)
          rw [e1] at e2
          simp only [hlo, o0, ne_eq, not_true_eq_false, false_or, false_and, and_false, if_false]
          split
          · exact ⟨e1, e2⟩
          · split
            · exact ⟨e3, e1⟩
            · split
              · exact ⟨e3, e2⟩
              · split
                · exact ⟨e2, e4⟩
                · exact ⟨e1, e4⟩
        rw [hb.1, hb.2]
        have hM : Lib.compareBytes s'.toList s.toList = Lib.compareBytes (kL 4 n' s' p 0) (kL 4 n s p 0) := by
          rw [ha, wtz, wtz, List.take_of_length_le (l := s.toList) (by rw [len_toList]; omega), cmp_take 48 _ _ (by rw [len_toList]; omega)]
        rw [hM]
        exact plain_good hky _ _
      · have hsu : sureB o 4 s ex c = false := by
          unfold sureB
          by_cases q : c = 0
          · have : ¬ s.size < 48 := fun q2 => hc ⟨q, q2⟩
            simp [this]
          · simp [q]
        have hlo : c ≠ 0 ∨ 48 ≤ s.size := by
          by_cases q : c = 0
          · exact Or.inr (by have : ¬ s.size < 48 := fun q2 => hc ⟨q, q2⟩; omega)
          · exact Or.inl q
        rw [hsu]
        obtain ⟨_, g2, g3, g4, g5, g6⟩ := near_in (wt s' p c) (wt s p c)
        by_cases o1 : o = 1
        · subst o1
          have hb : bnd 1 4 n s ex p c = (keyB 4 n s p c, behS (keyB 4 n s p c)) := by unfold bnd; simp
          rw [hb]
          dsimp only
          rw [behS_list, keyB_list]
          refine ⟨?_, fun _ q _ => absurd q (by simp), hky.npK, hky.upG.2, hky.upG.1⟩
          intro q
          rw [hky.eq, ha]
          have : Lib.compareBytes s'.toList s.toList = 0 := by unfold plb at q; simpa using q
          have e := cmp_zero _ _ this
          unfold wt
          rw [e, cmp_refl]
        · have o2 : 2 ≤ o := by omega
          by_cases hc0 : c = 0
          · subst hc0
            have ht := cmp_take2 48 s'.toList s.toList
            rw [← wtz s' p, ← wtz s p] at ht
            by_cases o3 : o = 2 ∨ o = 3
            · have hb : bnd o 4 n s ex p 0 = (kiB 4, behS (strB (preL s p 0))) := by unfold bnd; rw [if_pos ⟨rfl, hlo, o2⟩]; simp [o3]
              rw [hb]
              dsimp only
              rw [behS_list, ki_list, preS_list]
              refine ⟨?_, fun _ q _ => absurd q (by simp), hky.np1 _, g5, g6⟩
              intro q
              refine g2 (ht.1 ?_)
              unfold plb at q
              rcases o3 with rfl | rfl
              · simp at q; omega
              · simpa using q
            · have hb : bnd o 4 n s ex p 0 = (strB (preL s p 0), enB 4) := by unfold bnd; rw [if_pos ⟨rfl, hlo, o2⟩]; simp [o3]
              rw [hb]
              dsimp only
              rw [en_list (by omega) (by omega), preS_list]
              refine ⟨?_, fun _ q _ => absurd q (by simp), g4, hky.np1 _, hky.up⟩
              intro q
              refine g3 (ht.2 ?_)
              unfold plb at q
              have : o = 4 ∨ o = 5 := by omega
              rcases this with rfl | rfl
              · simp at q; omega
              · simpa using q
          · have hb : bnd o 4 n s ex p c = (kiB 4, enB 4) := by unfold bnd; rw [if_pos ⟨rfl, hlo, o2⟩, if_pos hc0]
            rw [hb]
            dsimp only
            rw [en_list (by omega) (by omega), ki_list]
            exact ⟨fun _ => hky.all, fun _ q _ => absurd q (by simp), hky.np1 _, hky.np1 _, hky.up⟩
  · rw [if_neg h4] at hm
    have hb : (bnd o k n s ex p c).1.toList = (plo o (byo k.toNat) (kL k n s p c)).1 ∧ (bnd o k n s ex p c).2.toList = (plo o (byo k.toNat) (kL k n s p c)).2 := by
      unfold bnd plo
      have e1 := keyB_list k n s p c
      have e2 := behS_list (keyB k n s p c)
      have e3 := ki_list k
      have e4 := en_list (k := k) (by omega) (by omega)
      rw [e1] at e2
      simp only [h4, false_and, and_false, if_false]
      split
      · exact ⟨e1, e2⟩
      · split
        · exact ⟨e3, e1⟩
        · split
          · exact ⟨e3, e2⟩
          · split
            · exact ⟨e2, e4⟩
            · exact ⟨e1, e4⟩
    rw [hb.1, hb.2]
    have hM := (ord_num (p := p) (c := c) h' h h0 h4).1
    have hh : holdB o k n' s' n s ex = plb o (Lib.compareBytes (kL k n' s' p c) (kL k n s p c)) := by
      unfold holdB plb
      rw [hm, hM, if_neg h4]
      by_cases o0 : o = 0
      · simp [o0]
      · simp [o0]
    rw [hh]
    exact plain_good hky _ _
end Go.Proofs.YtlfanhlkoepodaaDoor
