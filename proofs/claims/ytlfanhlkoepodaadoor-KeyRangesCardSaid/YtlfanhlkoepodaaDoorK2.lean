/-
  The weights of a text in a key, and what is asked of a page and a collation: the program and the reference.
-/
import Derived.Test.YtlfanhlkoepodaaDoorK1
import Derived.Test.YtlfanhlkoepodaaDoorSh
import Derived.Lib.CountLaws
namespace Go.Proofs.YtlfanhlkoepodaaDoor
open Go.RowKit
set_option linter.unusedVariables false
set_option linter.unusedSimpArgs false
attribute [local go_sem] Pg.conv_new
theorem esc_swL : ∀ (n : Nat) (l : List UInt8), l.length ≤ n → swL [0] [0, 1] l = escL l
  | _, [], _ => swL_nil
  | 0, _ :: _, h => by simp at h
  | n + 1, b :: l, h => by
    have ih := esc_swL n l (by simpa using h)
    by_cases hb : b = 0
    · subst hb
      rw [swL_hit (by simp) (by simp) (by simp), esc_cons, if_pos rfl]
      show [0, 1] ++ swL [0] [0, 1] l = _
      rw [ih]
      rfl
    · have hf : ([0] : List UInt8).isPrefixOf (b :: l) = false := by
        show ((0 : UInt8) == b && _) = false
        have : ((0 : UInt8) == b) = false := by simpa using fun e => hb e.symm
        rw [this]
        rfl
      rw [swL_miss hf, esc_cons, if_neg hb, ih]
theorem esc_rep (s : ByteArray) (hs : s.size ≤ 2048) (w : World) (hm : ML w) : Calls Tryd.prog 86 #[.string s, .string ⟨#[0]⟩, .string ⟨#[0, 1]⟩] w (Give (.string (strB (escL s.toList))) w) := by
  obtain ⟨m, hm⟩ := hm
  have hc := Lib.countB_le ⟨#[0]⟩ (by decide) s.size s (Nat.le_refl _)
  refine (Tryd.strings_ReplaceAll s ⟨#[0]⟩ ⟨#[0, 1]⟩ m w (by omega) hm (by decide) (by show s.size + _ * 2 ≤ _; omega)).mono ?_
  rintro e w' ⟨rfl, hb⟩
  refine ⟨?_, hb⟩
  rw [← ByteArray.toList_eq]
  rw [show (⟨#[0]⟩ : ByteArray).data.toList = [0] from rfl, show (⟨#[0, 1]⟩ : ByteArray).data.toList = [0, 1] from rfl, all_swL (by simp), esc_swL _ _ (Nat.le_refl _)]
  rfl
/-- The weights of the begin of a text. -/
def wt (s : ByteArray) (p c : Int) : List UInt8 := Pg.wl (s.toList.take 48) p c
theorem wt_len (s : ByteArray) (p c : Int) : (wt s p c).length ≤ 48 := by unfold wt Pg.wl; rw [List.length_map, List.length_take]; omega
def Co (p c : Int) : Prop := Pg.Pg p ∧ (c = 0 ∨ c = 1)
theorem ask_ok {p c : Int} {s : ByteArray} (h : Co p c) (hs : s.size ≤ 2048) : Pg.askC p c [s] = 0 ∧ ∀ t, Pg.okC p c [s] t = t := by
  have h1 : Pg.askE p [s] = 0 := by
    unfold Pg.askE
    rw [if_neg (by simp [Pg.longTo]; omega), if_neg]
    rcases h.1 with rfl | rfl | rfl <;> decide
  have h2 : Pg.askC p c [s] = 0 := by
    unfold Pg.askC
    rw [if_pos h1, if_neg]
    rcases h.2 with rfl | rfl <;> decide
  exact ⟨h2, fun t => by unfold Pg.okC; rw [if_pos h2]⟩
theorem mapS_wt {s t : ByteArray} {p c : Int} (h : t.toList = s.toList.take 48) : (Pg.mapS (fun x => Pg.weightS x p c) t).toList = wt s p c := by
  unfold wt Pg.wl Pg.mapS Pg.strB
  rw [ByteArray.toList_eq, h]
theorem cut48 (s : ByteArray) (m : Nat) (h : m = min s.size 48) : (s.extract 0 m).toList = s.toList.take 48 := by
  rw [ext_str, strB_toList, List.drop_zero, Nat.sub_zero, h]
  rcases Nat.le_total s.size 48 with h1 | h1
  · rw [Nat.min_eq_left h1, List.take_of_length_le (by rw [len_toList]; exact Nat.le_refl _), List.take_of_length_le (by rw [len_toList]; exact h1)]
  · rw [Nat.min_eq_right h1]
set_option maxRecDepth 100000 in
set_option maxHeartbeats 4000000 in
theorem weights_any (s : ByteArray) (p c : Int) (h : Co p c) (w : World) (hm : ML w) : Calls Tryd.prog 63 #[.string s, .int .i64 p, .int .i64 c] w (Give (.string (strB (escL (wt s p c)))) w) := by
  obtain ⟨m, hm0⟩ : ∃ m : Nat, m = min s.size 48 := ⟨_, rfl⟩
  have em : min (s.size : Int) 48 = (m : Int) := by omega
  have hm1 : m ≤ s.size := by omega
  have hz : (s.extract 0 m).size ≤ 48 := by rw [ByteArray.size_extract]; omega
  have hl := cut48 s m hm0
  obtain ⟨a1, a2⟩ := ask_ok (s := s.extract 0 m) h (by omega)
  have hW := hid (fun w => Pg.Weights_any (s.extract 0 m) p c w)
  rw [a1, a2] at hW
  have hX := mapS_wt (p := p) (c := c) hl
  have hlen := wt_len s p c
  rw [← hX] at hlen ⊢
  rw [len_toList] at hlen
  generalize Pg.mapS (fun x => Pg.weightS x p c) (s.extract 0 m) = X at *
  have hR := hid (fun w hm => esc_rep X (by omega) w hm)
  generalize strB (escL X.toList) = Y at *
  replace hm := hid hm
  clear hX hl a1 a2 hz hm0 hlen
  go_enter Tryd.func63, Tryd.ntmps63
  go_wp2_with fail
  refine (hW.out _).mono ?_
  rintro e w1 ⟨rfl, hx1⟩
  go_wp2_with fail
  refine (hR.out _ (hm.out.ext hx1)).mono ?_
  rintro e w2 ⟨rfl, hx2⟩
  go_wp2
  go_ret
  exact ⟨rfl, hx1.trans hx2⟩
theorem esc_snoc (l : List UInt8) {k : Nat} (hk : k < l.length) : escL (l.take (k + 1)) = escL (l.take k) ++ (if l[k] = 0 then [0, 1] else [l[k]]) := by
  rw [List.take_succ_eq_append_getElem hk, escL_app]
  congr 1
theorem list_byte (s : ByteArray) {k : Nat} (hk : k < s.size) (hl : k < s.toList.length) : s.toList[k]'hl = s[k]'hk := by
  apply UInt8.toNat_inj.1
  have := byte_at s hk
  unfold bth at this
  simp [List.getD, hl] at this
  exact Int.ofNat.inj this.symm
set_option maxRecDepth 100000 in
set_option maxHeartbeats 4000000 in
theorem rweighed_any (s : ByteArray) (p c : Int) (h : Co p c) (w : World) : Calls Tryd.prog 78 #[.string s, .int .i64 p, .int .i64 c] w (Give (.string (strB (escL (wt s p c)))) w) := by
  have info5 : (Tryd.prog.info? 5).map (fun i => (i.zero, i.size, i.bytes)) = some (some (.int .u8 0), 1, 1) := by kernel_rfl
  obtain ⟨i0, hi, hz0, hz1, hz2⟩ := info_parts info5
  clear info5
  by_cases h48 : 48 < s.size
  · have hl := cut48 s 48 (by omega)
    have hz : (s.extract 0 48).size ≤ 48 := by rw [ByteArray.size_extract]; omega
    have d48 : decide ((48 : Int) < (s.size : Int)) = true := by simp; omega
    generalize hT : s.extract 0 48 = T at *
    obtain ⟨a1, a2⟩ := ask_ok (s := T) h (by omega)
    have hW := hid (fun w => Pg.rWeights_any T p c w)
    rw [a1, a2] at hW
    have hX := mapS_wt (p := p) (c := c) hl
    have hlen := wt_len s p c
    rw [← hX] at hlen ⊢
    rw [len_toList] at hlen
    generalize Pg.mapS (fun x => Pg.weightS x p c) T = X at *
    clear hX hl a1 a2 hz
    go_enter Tryd.func78, Tryd.ntmps78
    go_wp2_with fail
    refine (hW.out _).mono ?_
    rintro e w2 ⟨rfl, hx1⟩
    have hE := hid hx1
    clear hx1
    go_wp2_with fail
    go_loopw [9, 10] (fun v i wr => ∃ k n : Nat, k ≤ X.size ∧ i = .int .i64 k ∧ n ≤ 2 * k ∧ wr.ownsRow w2.heap.size 5 1 v n (Pg.bytesC (escL (X.toList.take k))) ∧ Below w2.heap.size w2 wr) (fun _ i _ => X.size - (intOf i).toNat)
    case atStart => exact ⟨0, 0, by omega, rfl, by omega, World.ownsRow_nil _ _ _ _, Below.refl _ _⟩
    case round =>
      obtain ⟨k, n, hk, rfl, hn, hown, hb⟩ := hrel
      have hbs := hb.size
      obtain ⟨A0, c0, rfl, hc0⟩ := own_form hown
      by_cases hlt : k < X.size
      · have hlt' : k < X.toList.length := by rw [len_toList]; exact hlt
        have hst := esc_snoc X.toList hlt'
        rw [list_byte X hlt hlt'] at hst
        have hb0 := (X[k]'hlt).toNat_lt
        have hof : Pg.bOf ((X[k]'hlt).toNat : Int) = X[k]'hlt := by rw [bOf_byo, byo_toNat]
        have hb1 := Pg.bytesC_snoc (escL (X.toList.take k)) ((X[k]'hlt).toNat : Int) (by omega) (by omega)
        rw [hof] at hb1
        replace hb1 := hid hb1
        rcases Bool.eq_false_or_eq_true (((X[k]'hlt).toNat : Int) == 0) with q | q
        · have hq : X[k]'hlt = 0 := UInt8.toNat_inj.1 (by show (X[k]'hlt).toNat = 0; simpa using q)
          rw [if_pos hq] at hst
          have hb2 := Pg.bytesC_snoc (escL (X.toList.take k) ++ [X[k]'hlt]) 1 (by omega) (by omega)
          have hst2 : Hid (escL (X.toList.take (k + 1)) = escL (X.toList.take k) ++ [X[k]'hlt] ++ [Pg.bOf 1]) := by
            unfold Hid
            rw [hst, List.append_assoc]
            congr 1
            rw [hq]
            rfl
          replace hb2 := hid hb2
          clear hq hst hof hlt'
          go_wp2_with (at_builtin; refine wpList_push _ rfl _ _ 49 rfl w2.heap.size 5 i0 _ 1 1 Tryd.underlying49 hi hz0 hz1 hz2 rfl (by decide) _ _ _ rfl hown [.int .u8 ((X[k]'hlt).toNat : Int)] rfl rfl (by simp [Value.oneCell']) (by unfold maxLen; omega) (by omega) hbs ?_)
          intro g cap wp ownp grp _
          rw [← hb1.out] at ownp
          have bel := below_push hb hown grp hbs
          clear grp hown hb
          have hbs2 := bel.size
          go_wp2_with (at_builtin; refine wpList_push _ rfl _ _ 49 rfl w2.heap.size 5 i0 _ 1 1 Tryd.underlying49 hi hz0 hz1 hz2 rfl (by decide) _ _ _ rfl ownp [.int .u8 1] rfl rfl (by simp [Value.oneCell']) (by unfold maxLen; omega) (by omega) hbs2 ?_)
          intro g2 cap2 wp2 ownp2 grp2 _
          rw [← hb2.out] at ownp2
          have bel2 := below_push bel ownp grp2 hbs2
          clear grp2 ownp bel
          go_wp2_with fail
          go_roundw
          case rel => exact ⟨k + 1, n + 1 + 1, by omega, by go_num, by omega, by rw [hst2.out]; exact ownp2, bel2⟩
          case measure => simp [intOf]; omega
        · have hq : ¬ X[k]'hlt = 0 := by
            intro e
            rw [e] at q
            exact absurd q (by decide)
          rw [if_neg hq] at hst
          have hst2 := hid hst
          clear hq hst hof hlt'
          go_wp2_with (at_builtin; refine wpList_push _ rfl _ _ 49 rfl w2.heap.size 5 i0 _ 1 1 Tryd.underlying49 hi hz0 hz1 hz2 rfl (by decide) _ _ _ rfl hown [.int .u8 ((X[k]'hlt).toNat : Int)] rfl rfl (by simp [Value.oneCell']) (by unfold maxLen; omega) (by omega) hbs ?_)
          intro g cap wp ownp grp _
          rw [← hb1.out] at ownp
          have bel := below_push hb hown grp hbs
          clear grp hown hb
          go_wp2_with fail
          go_roundw
          case rel => exact ⟨k + 1, n + 1, by omega, by go_num, by omega, by rw [hst2.out]; exact ownp, bel⟩
          case measure => simp [intOf]; omega
      · obtain rfl : k = X.size := by omega
        have hcv := Pg.conv_RdB (Rd.of_own hown)
        rw [List.take_of_length_le (by rw [len_toList]; exact Nat.le_refl _)] at hcv
        have hs : Pg.strB (escL X.toList) = strB (escL X.toList) := rfl
        rw [hs] at hcv
        clear hs
        go_wp2
        go_ret
        exact ⟨rfl, hE.out.trans hb⟩
  · have hl : s.toList = s.toList.take 48 := by rw [List.take_of_length_le]; rw [len_toList]; omega
    have hz : s.size ≤ 48 := by omega
    have d48 : decide ((48 : Int) < (s.size : Int)) = false := by simp; omega
    obtain ⟨T, hT⟩ : ∃ T, T = s := ⟨s, rfl⟩
    have hl : T.toList = s.toList.take 48 := by rw [hT]; exact hl
    have hz : T.size ≤ 48 := by rw [hT]; exact hz
    obtain ⟨a1, a2⟩ := ask_ok (s := T) h (by omega)
    have hW := hid (fun w => Pg.rWeights_any T p c w)
    rw [a1, a2] at hW
    rw [hT] at hW
    have hX := mapS_wt (p := p) (c := c) hl
    have hlen := wt_len s p c
    rw [← hX] at hlen ⊢
    rw [len_toList] at hlen
    rw [hT] at hlen ⊢
    generalize Pg.mapS (fun x => Pg.weightS x p c) s = X at *
    clear hT
    clear hl a1 a2 hz
    go_enter Tryd.func78, Tryd.ntmps78
    go_wp2_with fail
    refine (hW.out _).mono ?_
    rintro e w2 ⟨rfl, hx1⟩
    have hE := hid hx1
    clear hx1
    go_wp2_with fail
    go_loopw [9, 10] (fun v i wr => ∃ k n : Nat, k ≤ X.size ∧ i = .int .i64 k ∧ n ≤ 2 * k ∧ wr.ownsRow w2.heap.size 5 1 v n (Pg.bytesC (escL (X.toList.take k))) ∧ Below w2.heap.size w2 wr) (fun _ i _ => X.size - (intOf i).toNat)
    case atStart => exact ⟨0, 0, by omega, rfl, by omega, World.ownsRow_nil _ _ _ _, Below.refl _ _⟩
    case round =>
      obtain ⟨k, n, hk, rfl, hn, hown, hb⟩ := hrel
      have hbs := hb.size
      obtain ⟨A0, c0, rfl, hc0⟩ := own_form hown
      by_cases hlt : k < X.size
      · have hlt' : k < X.toList.length := by rw [len_toList]; exact hlt
        have hst := esc_snoc X.toList hlt'
        rw [list_byte X hlt hlt'] at hst
        have hb0 := (X[k]'hlt).toNat_lt
        have hof : Pg.bOf ((X[k]'hlt).toNat : Int) = X[k]'hlt := by rw [bOf_byo, byo_toNat]
        have hb1 := Pg.bytesC_snoc (escL (X.toList.take k)) ((X[k]'hlt).toNat : Int) (by omega) (by omega)
        rw [hof] at hb1
        replace hb1 := hid hb1
        rcases Bool.eq_false_or_eq_true (((X[k]'hlt).toNat : Int) == 0) with q | q
        · have hq : X[k]'hlt = 0 := UInt8.toNat_inj.1 (by show (X[k]'hlt).toNat = 0; simpa using q)
          rw [if_pos hq] at hst
          have hb2 := Pg.bytesC_snoc (escL (X.toList.take k) ++ [X[k]'hlt]) 1 (by omega) (by omega)
          have hst2 : Hid (escL (X.toList.take (k + 1)) = escL (X.toList.take k) ++ [X[k]'hlt] ++ [Pg.bOf 1]) := by
            unfold Hid
            rw [hst, List.append_assoc]
            congr 1
            rw [hq]
            rfl
          replace hb2 := hid hb2
          clear hq hst hof hlt'
          go_wp2_with (at_builtin; refine wpList_push _ rfl _ _ 49 rfl w2.heap.size 5 i0 _ 1 1 Tryd.underlying49 hi hz0 hz1 hz2 rfl (by decide) _ _ _ rfl hown [.int .u8 ((X[k]'hlt).toNat : Int)] rfl rfl (by simp [Value.oneCell']) (by unfold maxLen; omega) (by omega) hbs ?_)
          intro g cap wp ownp grp _
          rw [← hb1.out] at ownp
          have bel := below_push hb hown grp hbs
          clear grp hown hb
          have hbs2 := bel.size
          go_wp2_with (at_builtin; refine wpList_push _ rfl _ _ 49 rfl w2.heap.size 5 i0 _ 1 1 Tryd.underlying49 hi hz0 hz1 hz2 rfl (by decide) _ _ _ rfl ownp [.int .u8 1] rfl rfl (by simp [Value.oneCell']) (by unfold maxLen; omega) (by omega) hbs2 ?_)
          intro g2 cap2 wp2 ownp2 grp2 _
          rw [← hb2.out] at ownp2
          have bel2 := below_push bel ownp grp2 hbs2
          clear grp2 ownp bel
          go_wp2_with fail
          go_roundw
          case rel => exact ⟨k + 1, n + 1 + 1, by omega, by go_num, by omega, by rw [hst2.out]; exact ownp2, bel2⟩
          case measure => simp [intOf]; omega
        · have hq : ¬ X[k]'hlt = 0 := by
            intro e
            rw [e] at q
            exact absurd q (by decide)
          rw [if_neg hq] at hst
          have hst2 := hid hst
          clear hq hst hof hlt'
          go_wp2_with (at_builtin; refine wpList_push _ rfl _ _ 49 rfl w2.heap.size 5 i0 _ 1 1 Tryd.underlying49 hi hz0 hz1 hz2 rfl (by decide) _ _ _ rfl hown [.int .u8 ((X[k]'hlt).toNat : Int)] rfl rfl (by simp [Value.oneCell']) (by unfold maxLen; omega) (by omega) hbs ?_)
          intro g cap wp ownp grp _
          rw [← hb1.out] at ownp
          have bel := below_push hb hown grp hbs
          clear grp hown hb
          go_wp2_with fail
          go_roundw
          case rel => exact ⟨k + 1, n + 1, by omega, by go_num, by omega, by rw [hst2.out]; exact ownp, bel⟩
          case measure => simp [intOf]; omega
      · obtain rfl : k = X.size := by omega
        have hcv := Pg.conv_RdB (Rd.of_own hown)
        rw [List.take_of_length_le (by rw [len_toList]; exact Nat.le_refl _)] at hcv
        have hs : Pg.strB (escL X.toList) = strB (escL X.toList) := rfl
        rw [hs] at hcv
        clear hs
        go_wp2
        go_ret
        exact ⟨rfl, hE.out.trans hb⟩
def askP (p c : Int) : Int := if decide (p < 0) || decide (2 < p) || decide (c < 0) || decide (1 < c) then 1 else 0
theorem askP_ok {p c : Int} (h : askP p c = 0) : Co p c := by
  unfold askP at h
  split at h
  · cases h
  · rename_i h1
    simp at h1
    unfold Co Pg.Pg
    omega
set_option maxRecDepth 100000 in
set_option maxHeartbeats 4000000 in
theorem rAsked_any (p c : Int) (w : World) : Calls Tryd.prog 53 #[.int .i64 p, .int .i64 c] w fun e w' => e = .returned (.int .i64 (askP p c)) ∧ w = w' := by
  rcases Bool.eq_false_or_eq_true (decide (p < 0)) with d1 | d1 <;> rcases Bool.eq_false_or_eq_true (decide (2 < p)) with d2 | d2 <;> rcases Bool.eq_false_or_eq_true (decide (c < 0)) with d3 | d3 <;> rcases Bool.eq_false_or_eq_true (decide (1 < c)) with d4 | d4
  all_goals have Fin := hid (show askP p c = _ by unfold askP; rw [d1, d2, d3, d4])
  all_goals go_enter Tryd.func53, Tryd.ntmps53
  all_goals go_wp2
  all_goals go_ret
  all_goals exact ⟨by rw [Fin.out]; rfl, rfl⟩
end Go.Proofs.YtlfanhlkoepodaaDoor
