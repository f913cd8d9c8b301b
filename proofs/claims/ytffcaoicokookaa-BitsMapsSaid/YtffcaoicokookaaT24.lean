import Derived.Test.YtffcaoicokookaaT23
namespace Go.Proofs.Ytffcaoicokookaa
open Go.RowKit
set_option linter.unusedVariables false
set_option linter.unusedSimpArgs false

/-- Ascending, from 1 to h. -/
def Asd (o : List Int) (h : Int) : Prop := o.Pairwise (· < ·) ∧ (∀ y ∈ o, 1 ≤ y ∧ y ≤ h) ∧ (o.length : Int) ≤ h
theorem Asd.nil : Asd [] 0 := ⟨List.Pairwise.nil, by simp, by simp⟩
theorem Asd.mono {o : List Int} {h k : Int} (a : Asd o h) (hk : h ≤ k) : Asd o k := ⟨a.1, fun y hy => ⟨(a.2.1 y hy).1, Int.le_trans (a.2.1 y hy).2 hk⟩, Int.le_trans a.2.2 hk⟩
theorem Asd.snoc {o : List Int} {h x : Int} (a : Asd o h) (h0 : 0 ≤ h) (hx : h < x) : Asd (o ++ [x]) x := by
  refine ⟨?_, ?_, ?_⟩
  · rw [List.pairwise_append]
    refine ⟨a.1, by simp, fun y hy z hz => ?_⟩
    have := (a.2.1 y hy).2
    simp at hz
    omega
  · intro y hy
    rcases List.mem_append.1 hy with h' | h'
    · have := a.2.1 y h'; omega
    · simp at h'; omega
  · have := a.2.2
    simp
    omega
theorem Asd.set {o : List Int} {h : Int} (a : Asd o h) (hh : h ≤ 300) : isSetS 300 o = true := isSetS_of a.1 fun y hy => ⟨(a.2.1 y hy).1, Int.le_trans (a.2.1 y hy).2 hh⟩
def runTo (o : List Int) (b : Int) : Nat → List Int
  | 0 => o
  | i + 1 => runTo o b i ++ [b + i]
theorem runTo_succ (o : List Int) (b : Int) (i : Nat) : runTo o b (i + 1) = runTo o b i ++ [b + i] := rfl
theorem runTo_len (o : List Int) (b : Int) : ∀ i, (runTo o b i).length = o.length + i
  | 0 => rfl
  | i + 1 => by simp [runTo, runTo_len o b i]; omega
theorem Asd.run {o : List Int} {h b : Int} (a : Asd o h) (h0 : 0 ≤ h) (hb : h < b) : ∀ i, Asd (runTo o b i) (b + i - 1)
  | 0 => a.mono (by simp; omega)
  | i + 1 => by
    have := (Asd.run a h0 hb i).snoc (x := b + i) (by omega) (by omega)
    rw [runTo_succ]
    exact this.mono (by omega)
def nx (r : List UInt8) : List UInt8 := r.drop (tkN r)
def upk : Nat → List UInt8 → Int → List Int → Option (List Int)
  | 0, _, _, _ => none
  | f + 1, r, last, o => if r.length = 0 then some o else if tkN r = 0 then none else if tkN (nx r) = 0 then none else if 300 < last + tkV r + 1 + tkV (nx r) then none
    else upk f (nx (nx r)) (last + tkV r + 1 + tkV (nx r)) (runTo o (last + tkV r + 1) ((tkV (nx r)).toNat + 1))
def upkS (l : List UInt8) : Option (List Int) := upk (l.length + 1) l 0 []
def UpR (l r : List UInt8) (last : Int) (o : List Int) : Prop := ∃ f, r.length < f ∧ upk f r last o = upkS l
theorem nx_len (r : List UInt8) (h : 0 < tkN r) : (nx r).length < r.length := by have := tkN_le r; unfold nx; rw [List.length_drop]; omega
section
variable {l r : List UInt8} {last : Int} {o : List Int}
theorem UpR.start (l : List UInt8) : UpR l l 0 [] := ⟨_, Nat.lt_succ_self _, rfl⟩
theorem UpR.done (h : UpR l r last o) (h0 : r.length = 0) : upkS l = some o := by
  obtain ⟨f, hf, e⟩ := h
  obtain ⟨f, rfl⟩ : ∃ g, f = g + 1 := ⟨f - 1, by omega⟩
  rw [← e, upk, if_pos h0]
theorem UpR.bad1 (h : UpR l r last o) (h0 : r.length ≠ 0) (h1 : tkN r = 0) : upkS l = none := by
  obtain ⟨f, hf, e⟩ := h
  obtain ⟨f, rfl⟩ : ∃ g, f = g + 1 := ⟨f - 1, by omega⟩
  rw [← e, upk, if_neg h0, if_pos h1]
theorem UpR.bad2 (h : UpR l r last o) (h0 : r.length ≠ 0) (h1 : 0 < tkN r) (h2 : tkN (nx r) = 0) : upkS l = none := by
  obtain ⟨f, hf, e⟩ := h
  obtain ⟨f, rfl⟩ : ∃ g, f = g + 1 := ⟨f - 1, by omega⟩
  rw [← e, upk, if_neg h0, if_neg (by omega), if_pos h2]
theorem UpR.bad3 (h : UpR l r last o) (h0 : r.length ≠ 0) (h1 : 0 < tkN r) (h2 : 0 < tkN (nx r)) (h3 : 300 < last + tkV r + 1 + tkV (nx r)) : upkS l = none := by
  obtain ⟨f, hf, e⟩ := h
  obtain ⟨f, rfl⟩ : ∃ g, f = g + 1 := ⟨f - 1, by omega⟩
  rw [← e, upk, if_neg h0, if_neg (by omega), if_neg (by omega), if_pos h3]
theorem UpR.step (h : UpR l r last o) (h0 : r.length ≠ 0) (h1 : 0 < tkN r) (h2 : 0 < tkN (nx r)) (h3 : ¬ 300 < last + tkV r + 1 + tkV (nx r)) :
    UpR l (nx (nx r)) (last + tkV r + 1 + tkV (nx r)) (runTo o (last + tkV r + 1) ((tkV (nx r)).toNat + 1)) := by
  obtain ⟨f, hf, e⟩ := h
  obtain ⟨f, rfl⟩ : ∃ g, f = g + 1 := ⟨f - 1, by omega⟩
  have n1 := nx_len r h1
  have n2 := nx_len (nx r) h2
  refine ⟨f, by omega, ?_⟩
  rw [← e, upk, if_neg h0, if_neg (by omega), if_neg (by omega), if_neg h3]
end
def unpA (l : List UInt8) : List Int := match upkS l with | none => [] | some o => if packS o = l then o else []
def unpE (l : List UInt8) : Int := match upkS l with | none => 11 | some o => if packS o = l then 0 else 11
theorem unp_none {l : List UInt8} (h : upkS l = none) : unpA l = [] ∧ unpE l = 11 := by simp [unpA, unpE, h]
theorem unp_yes {l : List UInt8} {o : List Int} (h : upkS l = some o) (h2 : packS o = l) : unpA l = o ∧ unpE l = 0 := by simp [unpA, unpE, h, h2]
theorem unp_no {l : List UInt8} {o : List Int} (h : upkS l = some o) (h2 : packS o ≠ l) : unpA l = [] ∧ unpE l = 11 := by simp [unpA, unpE, h, h2]

set_option maxRecDepth 100000 in
set_option maxHeartbeats 4000000 in
theorem Unpack_any (A : Option Addr) (n c : Nat) (l : List UInt8) (w : World) (hs : RdB w A n c l) : Calls Try.prog 41 #[.slice A n c] w (GiveIN (unpA l) (unpE l) w) := by
  obtain ⟨i0, hi, hz0, hz1, hz2⟩ := info_parts Try.info3
  go_enter Try.func41, Try.ntmps41
  go_wp2_with fail
  go_loopw [4, 5, 6] (fun v la re wr => ∃ (o : List Int) (j : Nat) (last : Int) (B : Option Addr) (m d : Nat) (r : List UInt8), la = .int .i64 last ∧ re = .slice B m d ∧ Hid (RdB w B m d r) ∧ Hid (UpR l r last o) ∧ Hid (Asd o last) ∧ (0 ≤ last ∧ last ≤ 300) ∧ wr.ownsRow w.heap.size 3 1 v j (ints o) ∧ Below w.heap.size w wr) (fun _ _ re _ => lenOf re)
  case atStart => exact ⟨[], 0, 0, A, n, c, l, rfl, rfl, hs, UpR.start l, Asd.nil, by omega, World.ownsRow_nil _ _ _ _, Below.refl _ _⟩
  case round =>
    obtain ⟨o, j, last, B, m, d, r, rfl, rfl, hr, hU, hA, hla, hown, hb⟩ := hrel
    have hbs := hb.size
    have hrl := hr.out.len
    have hm := hr.out.max
    have hj : o.length = j := by have := hown.1; simpa [ints] using this
    have hj2 := hA.out.2.2
    have hj3 : j ≤ 300 := by omega
    rcases Nat.eq_zero_or_pos m with rfl | hm0
    · have hD := hid (hU.out.done hrl)
      obtain ⟨A1, c1, rfl, hcc⟩ := own_form hown
      have hset := hid (hA.out.set hla.2)
      have hR : Hid (RdI wr A1 j c1 o) := Rd.of_own hown
      have hF := hid (own_fresh hown)
      clear hrl hj hj2
      go_wp2_with fail
      refine (pack_any _ _ _ _ _ hR.out (by omega) hset.out).mono ?_
      rintro e w1 ⟨C, p, cp, rfl, hp, hx1, -⟩
      have hE := hid (Ext.trans hb hx1)
      clear hown
      go_wp2_with fail
      refine (bsame_any _ _ _ _ _ _ _ _ _ hp (hs.ext hE.out)).mono ?_
      rintro e w2 ⟨rfl, hd2⟩
      by_cases hq : packS o = l
      · have eq1 : decide (packS o = l) = true := by simpa using hq
        have hun := unp_yes hD.out hq
        have hU1 := hid hun.1
        have hU2 := hid hun.2
        clear hq hun
        go_wp2
        go_ret2
        exact ⟨A1, j, c1, by rw [hU2.out]; rfl, by rw [hU1.out]; exact hR.out.ext (hx1.trans hd2.ext), hE.out.trans hd2.ext, hF.out⟩
      · have eq1 : decide (packS o = l) = false := by simpa using hq
        have hun := unp_no hD.out hq
        have hU1 := hid hun.1
        have hU2 := hid hun.2
        clear hq hun
        go_wp2
        go_ret2
        exact ⟨none, 0, 0, by rw [hU2.out]; rfl, by rw [hU1.out]; exact RdI.nil _, hE.out.trans hd2.ext, Fr.none_ _⟩
    · have hrl0 : Hid (r.length ≠ 0) := by unfold Hid; omega
      have v1 := tkV_in r
      have v2 := tkV_in (nx r)
      clear hrl hj hj2
      go_wp2_with fail
      refine (take_any _ _ _ r _ (hr.out.ext hb)).mono ?_
      rintro e w1 (⟨h1, ⟨B1, m1, d1, rfl⟩, hd1⟩ | ⟨h1, ⟨B1, m1, d1, rfl, hr1⟩, hd1⟩)
      · have hun := unp_none (hU.out.bad1 hrl0.out h1.out)
        have hU1 := hid hun.1
        have hU2 := hid hun.2
        clear hun
        go_wp2
        go_ret2
        exact ⟨none, 0, 0, by rw [hU2.out]; rfl, by rw [hU1.out]; exact RdI.nil _, Ext.trans hb hd1.ext, Fr.none_ _⟩
      · have hR1 := hid (hr1 w hr.out)
        clear hr1
        go_wp2_with fail
        refine (take_any _ _ _ (nx r) _ (hR1.out.ext (Ext.trans hb hd1.ext))).mono ?_
        rintro e w2 (⟨h2, ⟨B2, m2, d2, rfl⟩, hd2⟩ | ⟨h2, ⟨B2, m2, d2, rfl, hr2⟩, hd2⟩)
        · have hun := unp_none (hU.out.bad2 hrl0.out h1.out h2.out)
          have hU1 := hid hun.1
          have hU2 := hid hun.2
          clear hun
          go_wp2
          go_ret2
          exact ⟨none, 0, 0, by rw [hU2.out]; rfl, by rw [hU1.out]; exact RdI.nil _, (Ext.trans hb hd1.ext).trans hd2.ext, Fr.none_ _⟩
        · have ew1 := IntWalk.i64_in (last + tkV r) (by omega)
          have ew2 := IntWalk.i64_in (last + tkV r + 1) (by omega)
          have ew3 := IntWalk.i64_in (last + tkV r + 1 + tkV (nx r)) (by omega)
          have ew4 := IntWalk.i64_in (tkV (nx r) + 1) (by omega)
          have ew5 := IntWalk.i64_in (tkV r + 1) (by omega)
          have ew6 := IntWalk.i64_in (tkV r + 1 + tkV (nx r)) (by omega)
          have ew7 := IntWalk.i64_in (last + (tkV r + 1 + tkV (nx r))) (by omega)
          by_cases h3 : 300 < last + tkV r + 1 + tkV (nx r)
          · have e3 : decide (300 < last + tkV r + 1 + tkV (nx r)) = true := by simpa using h3
            have hun := unp_none (hU.out.bad3 hrl0.out h1.out h2.out h3)
            have hU1 := hid hun.1
            have hU2 := hid hun.2
            clear hun h3
            go_wp2
            go_ret2
            exact ⟨none, 0, 0, by rw [hU2.out]; rfl, by rw [hU1.out]; exact RdI.nil _, (Ext.trans hb hd1.ext).trans hd2.ext, Fr.none_ _⟩
          · have e3 : decide (300 < last + tkV r + 1 + tkV (nx r)) = false := by simpa using h3
            have hU' := hid (hU.out.step hrl0.out h1.out h2.out h3)
            have hAr := hid (Asd.run hA.out hla.1 (b := last + tkV r + 1) (by omega))
            have hR2 := hid (hr2 w hR1.out)
            have Hle : Hid (last + tkV r + 1 + tkV (nx r) ≤ 300) := by unfold Hid; omega
            clear hr2 h3
            have hb2 : Below w.heap.size w w2 := Ext.below hb (hd1.ext.trans hd2.ext) hbs
            have hown2 := Ext.own (hd1.ext.trans hd2.ext) hown
            have hml : m2 < m := by
              have a1 : (nx (nx r)).length = m2 := hR2.out.len
              have a2 := hr.out.len
              have a3 := nx_len r h1.out
              have a4 := nx_len (nx r) h2.out
              omega
            have hbs2 := hb2.size
            clear hb hown
            go_wp2_with fail
            go_loopw [4, 43] (fun v i wi => ∃ (k : Nat), (k : Int) ≤ tkV (nx r) + 1 ∧ i = .int .i64 k ∧ wi.ownsRow w.heap.size 3 1 v (j + k) (ints (runTo o (last + tkV r + 1) k)) ∧ Below w.heap.size w wi) (fun _ i _ => (tkV (nx r) + 1 - intOf i).toNat)
            case atStart => exact ⟨0, by omega, rfl, hown2, hb2⟩
            case round =>
              obtain ⟨k, hk, rfl, hownk, hbk⟩ := hrel
              have hbsk := hbk.size
              have ew8 := IntWalk.i64_in (last + tkV r + 1 + k) (by omega)
              by_cases hlt : (k : Int) < tkV (nx r) + 1
              · have hst := hid (runTo_succ o (last + tkV r + 1) k)
                obtain ⟨A0, c0, rfl, -⟩ := own_form hownk
                go_wp2_with (at_builtin; refine wpList_pushI _ rfl _ _ 22 rfl w.heap.size 3 i0 Try.underlying22 hi hz0 hz1 hz2 _ _ _ rfl hownk (last + tkV r + 1 + (k : Int)) rfl (by omega) (by omega) ?_)
                intro g cap w3 hown3 hg3 _
                go_wp2
                go_roundw
                case rel => exact ⟨k + 1, by omega, by go_num, by rw [hst.out]; exact hown3, below_push hbk hownk hg3 hbsk⟩
                case measure => simp [intOf]; omega
              · have hk2 : k = (tkV (nx r)).toNat + 1 := by omega
                go_wp2
                go_roundw
                case rel => exact ⟨runTo o (last + tkV r + 1) k, j + k, last + tkV r + 1 + tkV (nx r), B2, m2, d2, nx (nx r), by go_num, rfl, hR2, by rw [hk2]; exact hU', (by have := Asd.mono (hAr.out k) (k := last + tkV r + 1 + tkV (nx r)) (by omega); exact this), (by have := Hle.out; omega), hownk, hbk⟩
                case measure => simp [lenOf]; omega
end Go.Proofs.Ytffcaoicokookaa
