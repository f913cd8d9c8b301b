/-
  tidy of the reference: the walk.
-/
import Derived.Test.YtcgjhloiokpicaaMt
namespace Go.Proofs.Ytcgjhloiokpicaa
open Go.RowKit Go.Shelf
set_option linter.unusedVariables false
set_option linter.unusedSimpArgs false
def fo (l : List En) (k : Nat) : List En := (l.take k).foldl stepE []
theorem fo_succ {l : List En} {k : Nat} (h : k < l.length) : fo l (k + 1) = stepE (fo l k) (eth l k) := by
  unfold fo
  rw [List.take_succ_eq_append_getElem h, List.foldl_append, eth_get h]
  rfl
theorem lastF_eth {o : List En} (h : 0 < o.length) : lastF o = ((eth o (o.length - 1)).kind == 0) := by
  rcases List.eq_nil_or_concat o with rfl | ⟨q, y, rfl⟩
  · simp at h
  · rw [List.concat_eq_append, lastF_snoc, List.length_append, List.length_singleton, Nat.add_sub_cancel, eth_mid]
theorem dropLast_set {o : List En} (h : 0 < o.length) (x : En) : o.dropLast ++ [x] = o.set (o.length - 1) x := by
  rcases List.eq_nil_or_concat o with rfl | ⟨q, y, rfl⟩
  · simp at h
  · rw [List.concat_eq_append, List.dropLast_concat, List.length_append, List.length_singleton, Nat.add_sub_cancel, set_mid]
theorem step_len (o : List En) (y : En) : (stepE o y).length ≤ o.length + 1 := by
  unfold stepE
  split
  · simp
    try omega
  · simp
theorem fo_len (l : List En) : ∀ k, k ≤ l.length → (fo l k).length ≤ k
  | 0, _ => by simp [fo]
  | k + 1, h => by
    rw [fo_succ (by omega)]
    have := fo_len l k (by omega)
    have := step_len (fo l k) (eth l k)
    omega
theorem fo_bound {l : List En} (h : ∀ k, k < l.length → 0 ≤ (eth l k).blocks ∧ (eth l k).blocks ≤ 4096) : ∀ k, k ≤ l.length → ∀ j, j < (fo l k).length → 0 ≤ (eth (fo l k) j).blocks ∧ (eth (fo l k) j).blocks ≤ 4096 * k
  | 0, _, j, hj => by simp [fo] at hj
  | k + 1, hk, j, hj => by
    have ih := fo_bound h k (by omega)
    have hy := h k (by omega)
    rw [fo_succ (by omega)] at hj ⊢
    generalize fo l k = o at *
    unfold stepE at hj ⊢
    by_cases hc : (lastF o && ((eth l k).kind == 0)) = true
    · rw [if_pos hc] at hj ⊢
      have h0 : 0 < o.length := by
        rcases Nat.eq_zero_or_pos o.length with h | h
        · have : o = [] := List.eq_nil_of_length_eq_zero h
          subst this
          simp [lastF] at hc
        · exact h
      rw [dropLast_set h0] at hj ⊢
      rw [eth_set _ _ _ _ (by omega)]
      rw [List.length_set] at hj
      by_cases e : o.length - 1 = j
      · rw [if_pos e]
        have := ih (o.length - 1) (by omega)
        show 0 ≤ (eth o (o.length - 1)).blocks + (eth l k).blocks ∧ (eth o (o.length - 1)).blocks + (eth l k).blocks ≤ _
        push_cast
        omega
      · rw [if_neg e]
        have := ih j hj
        push_cast
        omega
    · rw [if_neg hc] at hj ⊢
      rw [List.length_append, List.length_singleton] at hj
      rcases Nat.lt_or_ge j o.length with h1 | h1
      · have := ih j h1
        have e : eth (o ++ [eth l k]) j = eth o j := by simp [eth, List.getD, List.getElem?_append_left h1]
        rw [e]
        push_cast
        omega
      · obtain rfl : j = o.length := by omega
        rw [eth_mid]
        push_cast
        omega
set_option maxRecDepth 100000 in
set_option maxHeartbeats 4000000 in
theorem tidy_any (size : Int) (r : Nat) (v : Value) (l : List En) (w : World) (h : RA w r size v l) (hll : l.length ≤ 5000) (hin : ∀ k, k < l.length → 0 ≤ (eth l k).blocks ∧ (eth l k).blocks ≤ 4096) :
    Calls Try.prog 65 #[.pointer (some ⟨r, 0, none⟩)] w fun e w' => e = .returned (.tuple #[]) ∧ ∃ v', RA w' r size v' (tidyL l) ∧ RT r v v' w w' := by
  obtain ⟨i0, hi0, hz0, hz1, hz2⟩ := info_parts infoRe
  have c1 := h.c1
  have lg := h.lt
  obtain ⟨A, c, rfl, hr⟩ := h.rd
  have hmx := Rd.max hr
  replace hr := hid hr
  have hfb := hid (fo_bound hin)
  have hfl := hid (fo_len l)
  have hfs := hid (fun k => fo_succ (l := l) (k := k))
  have hT : Hid (tidyL l = if lastF (fo l l.length) then (fo l l.length).dropLast else fo l l.length) := by unfold Hid tidyL fo; rw [List.take_length]
  have hf0 : Hid (fo l 0 = []) := rfl
  replace hin := hid hin
  go_enter Try.func65, Try.ntmps65
  go_wp2_with fail
  go_loopw [2, 3] (fun vo i wr => ∃ k : Nat, k ≤ l.length ∧ i = .int .i64 k ∧ Hid (wr.ownsRow w.heap.size 87 3 vo (fo l k).length (rents (fo l k))) ∧ Hid (Ext w wr)) (fun _ i _ => l.length - (intOf i).toNat)
  case atStart => exact ⟨0, by omega, rfl, by rw [hf0.out]; exact World.ownsRow_nil _ _ _ _, Ext.refl _⟩
  case round =>
    obtain ⟨k, hk, rfl, hown, hx⟩ := hrel
    have hmk := hfl.out k hk
    have hbo := hid (hfb.out k hk)
    have hc1 := hx.out.cell c1
    have lg1 := World.block_lt_of_cell? wr _ hc1
    dsimp only at lg1
    have hrw := hid (hr.out.ext hx.out)
    by_cases hlt : k < l.length
    · have hst := hid (hfs.out k hlt)
      generalize hO2e : fo l (k + 1) = O2 at *
      replace hO2e := hid hO2e
      generalize fo l k = O at *
      have hby := hin.out k hlt
      obtain ⟨ad, rfl, x0, x1, x2⟩ := hrw.out.at_ hlt
      have la := World.block_lt_of_cell? wr _ x0
      have hkk : (k : Int) < (l.length : Int) := by omega
      by_cases hm : O.length = 0
      · have hO : O = [] := List.eq_nil_of_length_eq_zero hm
        subst hO
        have hO2 : Hid (O2 = [eth l k]) := by rw [hst.out]; rfl
        have hre : Hid (rents O2 = rcells (eth l k) ∧ O2.length = 1) := by rw [hO2.out]; exact ⟨by simp [rents], rfl⟩
        obtain ⟨Ao, co, rfl, -⟩ := own_form hown.out
        have hown1 : Hid (wr.ownsRow w.heap.size 87 3 (.slice Ao 0 co) 0 []) := hown.out
        clear hst hO2 hown hbo hm
        unfold rcells at hre
        generalize (eth l k).blocks = z at *
        generalize ((eth l k).kind == 0) = fr at *
        generalize (eth l k).s = z3 at *
        go_wp2_with (at_builtin; refine wpList_push _ rfl _ _ 83 rfl w.heap.size 87 i0 _ 3 32 Try.underlying83 hi0 hz0 hz1 hz2 rfl (by decide) _ _ _ rfl hown1.out [.int .i64 z, .bool fr, .string z3] rfl rfl (by simp [Value.oneCell']) (by unfold maxLen; omega) (by omega) hx.out.size ?_)
        intro g2 d2 w2 own2 hg2 _
        have hx2 : Hid (Ext w w2) := ext_push hx.out hown1.out hg2
        try simp only [List.nil_append, Nat.zero_add] at own2
        rw [← hre.out.1, ← hre.out.2] at own2
        have hl2 := hre.out.2
        rw [← hl2]
        replace own2 := hid own2
        clear hg2 hown1 hre
        go_wp2_with fail
        go_roundw
        case rel => exact ⟨k + 1, by omega, by go_num, by rw [hO2e.out]; exact own2.out, hx2⟩
        case measure => simp [intOf]; omega
      · have hO : 0 < O.length := by omega
        obtain ⟨go, co, rfl, hgB, hgl, hnc, hcc, hfz⟩ := own_sliceK hown.out hO
        obtain ⟨y0, y1, y2⟩ := own_entR hown.out (k := O.length - 1) (by omega)
        have hlf := hid (lastF_eth hO)
        have hw1 : IntKind.i64.wrap ((O.length : Int) - 1) = ((O.length - 1 : Nat) : Int) := by rw [IntWalk.i64_in _ (by omega)]; omega
        have hml : ((O.length - 1 : Nat) : Int) < (O.length : Int) := by omega
        have hm0 : (0 : Int) < (O.length : Int) := by omega
        have hbl := hbo.out (O.length - 1) (by omega)
        by_cases hl0 : (eth O (O.length - 1)).kind = 0
        · have dl : ((eth O (O.length - 1)).kind == 0) = true := by rw [hl0]; rfl
          by_cases hy0 : (eth l k).kind = 0
          · have dy : ((eth l k).kind == 0) = true := by rw [hy0]; rfl
            have hO2 : O2 = O.set (O.length - 1) (grow (eth O (O.length - 1)) (eth l k).blocks) := by
              rw [hst.out]
              unfold stepE
              rw [hlf.out, dl, dy, if_pos (by rfl), dropLast_set hO]
            have hws : IntKind.i64.wrap ((eth O (O.length - 1)).blocks + (eth l k).blocks) = (eth O (O.length - 1)).blocks + (eth l k).blocks := IntWalk.i64_in _ (by omega)
            have hfz0 := hfz ((O.length - 1) * 3)
            have hset : Hid (∀ W : World, W.ownsRow w.heap.size 87 3 (.slice (some ⟨go, 0, none⟩) O.length co) O.length (rents O) → (W.setCell ⟨go, (O.length - 1) * 3, none⟩ (.int .i64 ((eth O (O.length - 1)).blocks + (eth l k).blocks))).ownsRow w.heap.size 87 3 (.slice (some ⟨go, 0, none⟩) O.length co) O2.length (rents O2)) := by
              intro W hW
              have e := rents_set O (O.length - 1) 0 (.int .i64 ((eth O (O.length - 1)).blocks + (eth l k).blocks)) (by omega) (by decide) (grow (eth O (O.length - 1)) (eth l k).blocks) (fun i hi => by
                rcases i with _ | _ | _ | i
                · rfl
                · rfl
                · rfl
                · omega)
              have h2 := own_setK (o := (O.length - 1) * 3) (u := .int .i64 ((eth O (O.length - 1)).blocks + (eth l k).blocks)) hW
              rw [Nat.add_zero] at e
              rw [e, ← hO2] at h2
              have e2 : O2.length = O.length := by rw [hO2, List.length_set]
              rw [e2]
              exact h2
            clear hO2 hst hlf hl0 hy0 hbo hfz y2 x2
            generalize ((eth O (O.length - 1)).kind == 0) = lf at *
            generalize ((eth l k).kind == 0) = fr at *
            subst dl dy
            generalize (eth O (O.length - 1)).blocks = zl at *
            generalize (eth l k).blocks = z at *
            go_upto_region 6 with fail
            go_region
            have hown2 : Hid ((wr.setCell ⟨go, (O.length - 1) * 3, none⟩ (.int .i64 (zl + z))).drew.ownsRow w.heap.size 87 3 (.slice (some ⟨go, 0, none⟩) O.length co) O2.length (rents O2)) := hset.out _ hown.out
            have hx2 : Hid (Ext w (wr.setCell ⟨go, (O.length - 1) * 3, none⟩ (.int .i64 (zl + z))).drew) := (hx.out.set hgB _).drew_right
            go_wp2_with fail
            go_roundw
            case rel => exact ⟨k + 1, by omega, by go_num, by rw [hO2e.out]; exact hown2.out, hx2⟩
            case measure => simp [intOf]; omega
          · have dy : ((eth l k).kind == 0) = false := by rw [beq_eq_false_iff_ne]; exact hy0
            have hO2 : Hid (O2 = O ++ [eth l k]) := by rw [hst.out]; unfold Hid stepE; rw [dy, if_neg (by simp)]
            have hre : Hid (rents O2 = rents O ++ rcells (eth l k) ∧ O2.length = O.length + 1) := by rw [hO2.out]; exact ⟨by simp [rents, rents_append], by simp⟩
            have hown1 := hown
            clear hO2 hst hlf hl0 hy0 hbo hfz y2 hown
            unfold rcells at hre
            generalize ((eth O (O.length - 1)).kind == 0) = lf at *
            generalize ((eth l k).kind == 0) = fr at *
            subst dl dy
            generalize (eth O (O.length - 1)).blocks = zl at *
            generalize (eth l k).blocks = z at *
            generalize (eth l k).s = z3 at *
            go_wp2_with (at_builtin; refine wpList_push _ rfl _ _ 83 rfl w.heap.size 87 i0 _ 3 32 Try.underlying83 hi0 hz0 hz1 hz2 rfl (by decide) _ _ _ rfl hown1.out [.int .i64 z, .bool false, .string z3] rfl rfl (by simp [Value.oneCell']) (by unfold maxLen; omega) (by omega) hx.out.size ?_)
            intro g2 d2 w2 own2 hg2 _
            have hx2 : Hid (Ext w w2) := ext_push hx.out hown1.out hg2
            try simp only [List.nil_append, Nat.zero_add] at own2
            rw [← hre.out.1, ← hre.out.2] at own2
            have hl2 := hre.out.2
            rw [← hl2]
            replace own2 := hid own2
            clear hg2 hown1 hre
            go_wp2_with fail
            go_roundw
            case rel => exact ⟨k + 1, by omega, by go_num, by rw [hO2e.out]; exact own2.out, hx2⟩
            case measure => simp [intOf]; omega
        · have dl : ((eth O (O.length - 1)).kind == 0) = false := by rw [beq_eq_false_iff_ne]; exact hl0
          have hO2 : Hid (O2 = O ++ [eth l k]) := by rw [hst.out]; unfold Hid stepE; rw [hlf.out, dl, if_neg (by simp)]
          have hre : Hid (rents O2 = rents O ++ rcells (eth l k) ∧ O2.length = O.length + 1) := by rw [hO2.out]; exact ⟨by simp [rents, rents_append], by simp⟩
          have hown1 := hown
          clear hO2 hst hlf hl0 hbo hfz y2 hown
          unfold rcells at hre
          generalize ((eth O (O.length - 1)).kind == 0) = lf at *
          subst dl
          generalize (eth O (O.length - 1)).blocks = zl at *
          generalize ((eth l k).kind == 0) = fr at *
          generalize (eth l k).blocks = z at *
          generalize (eth l k).s = z3 at *
          go_wp2_with (at_builtin; refine wpList_push _ rfl _ _ 83 rfl w.heap.size 87 i0 _ 3 32 Try.underlying83 hi0 hz0 hz1 hz2 rfl (by decide) _ _ _ rfl hown1.out [.int .i64 z, .bool fr, .string z3] rfl rfl (by simp [Value.oneCell']) (by unfold maxLen; omega) (by omega) hx.out.size ?_)
          intro g2 d2 w2 own2 hg2 _
          have hx2 : Hid (Ext w w2) := ext_push hx.out hown1.out hg2
          try simp only [List.nil_append, Nat.zero_add] at own2
          rw [← hre.out.1, ← hre.out.2] at own2
          have hl2 := hre.out.2
          rw [← hl2]
          replace own2 := hid own2
          clear hg2 hown1 hre
          go_wp2_with fail
          go_roundw
          case rel => exact ⟨k + 1, by omega, by go_num, by rw [hO2e.out]; exact own2.out, hx2⟩
          case measure => simp [intOf]; omega
    · obtain rfl : k = l.length := by omega
      have hkn : ¬ (l.length : Int) < (l.length : Int) := by omega
      generalize fo l l.length = O at *
      clear hfs hfb hfl hf0 hin
      have hcf := (h.ext hx.out).free 1
      by_cases hm : O.length = 0
      · have hO : O = [] := List.eq_nil_of_length_eq_zero hm
        subst hO
        obtain ⟨Ao, co, rfl, -⟩ := own_form hown.out
        have hown1 : Hid (wr.ownsRow w.heap.size 87 3 (.slice Ao 0 co) 0 []) := hown.out
        have hTL : tidyL l = [] := hT.out
        obtain ⟨hR, hTT⟩ := h.fresh hx.out hown1.out (l' := tidyL l) (by rw [hTL]; rfl) (by rw [hTL]; rfl)
        replace hR := hid hR
        replace hTT := hid hTT
        clear hTL hT
        go_wp2_with fail
        go_end0
        exact ⟨rfl, _, hR.out, hTT.out⟩
      · have hO : 0 < O.length := by omega
        obtain ⟨go, co, rfl, hgB, hgl, hnc, hcc, hfz⟩ := own_sliceK hown.out hO
        obtain ⟨y0, y1, y2⟩ := own_entR hown.out (k := O.length - 1) (by omega)
        have hlf := lastF_eth hO
        have hw1 : IntKind.i64.wrap ((O.length : Int) - 1) = ((O.length - 1 : Nat) : Int) := by rw [IntWalk.i64_in _ (by omega)]; omega
        have hml : ((O.length - 1 : Nat) : Int) < (O.length : Int) := by omega
        have hm0 : (0 : Int) < (O.length : Int) := by omega
        have hmc : O.length - 1 ≤ co := by omega
        have hmc2 : O.length - 1 ≤ O.length := by omega
        by_cases hl0 : (eth O (O.length - 1)).kind = 0
        · have dl : ((eth O (O.length - 1)).kind == 0) = true := by rw [hl0]; rfl
          have hTL : tidyL l = O.take (O.length - 1) := by rw [hT.out, hlf, dl, if_pos rfl, List.dropLast_eq_take]
          have hown2 := own_takeK hown.out (m := O.length - 1) (by omega)
          rw [rents_take] at hown2
          obtain ⟨hR, hTT⟩ := h.fresh hx.out hown2 (l' := tidyL l) (by rw [hTL, List.length_take]; omega) (by rw [hTL])
          replace hR := hid hR
          replace hTT := hid hTT
          clear hlf hTL hT
          generalize ((eth O (O.length - 1)).kind == 0) = lf at *
          subst dl
          go_wp2_with fail
          go_end0
          exact ⟨rfl, _, hR.out, hTT.out⟩
        · have dl : ((eth O (O.length - 1)).kind == 0) = false := by rw [beq_eq_false_iff_ne]; exact hl0
          have hTL : tidyL l = O := by rw [hT.out, hlf, dl, if_neg (by decide)]
          obtain ⟨hR, hTT⟩ := h.fresh hx.out hown.out (l' := tidyL l) (by rw [hTL]) (by rw [hTL])
          replace hR := hid hR
          replace hTT := hid hTT
          clear hlf hTL hT
          generalize ((eth O (O.length - 1)).kind == 0) = lf at *
          subst dl
          go_wp2_with fail
          go_end0
          exact ⟨rfl, _, hR.out, hTT.out⟩
end Go.Proofs.Ytcgjhloiokpicaa
