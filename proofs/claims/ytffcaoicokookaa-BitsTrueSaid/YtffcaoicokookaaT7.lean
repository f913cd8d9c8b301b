import Derived.Test.YtffcaoicokookaaT6
namespace Go.Proofs.Ytffcaoicokookaa
open Go.RowKit
def shR (l r : List Int) (k : Nat) : List Int := (filtS (notHas r) l k).map (movedS r)
def refShiftS (l r : List Int) : List Int := shR l r l.length
theorem shR_yes (l r : List Int) (k : Nat) (hk : k < l.length) (h : hasS r (nth l k) = false) : shR l r (k+1) = shR l r k ++ [nth l k - cntS r (nth l k)] := by
  unfold shR
  rw [filtS_yes _ _ _ hk (by simp [notHas, h]), List.map_append]
  rfl
theorem shR_no (l r : List Int) (k : Nat) (hk : k < l.length) (h : hasS r (nth l k) = true) : shR l r (k+1) = shR l r k := by
  unfold shR
  rw [filtS_no _ _ _ hk (by simp [notHas, h])]
def cntT (r : List Int) (x : Int) (k : Nat) : Nat := cntS (r.take k) x
theorem cntT_yes (r : List Int) (x : Int) (k : Nat) (hk : k < r.length) (h : nth r k < x) : cntT r x (k+1) = cntT r x k + 1 := by
  unfold cntT cntS
  rw [List.take_succ_eq_append_getElem hk, List.filter_append, ← nth_lt hk]
  simp [h]
theorem cntT_no (r : List Int) (x : Int) (k : Nat) (hk : k < r.length) (h : ¬ nth r k < x) : cntT r x (k+1) = cntT r x k := by
  unfold cntT cntS
  rw [List.take_succ_eq_append_getElem hk, List.filter_append, ← nth_lt hk]
  simp [h]
theorem cntT_le (r : List Int) (x : Int) (k : Nat) : cntT r x k ≤ k := by
  unfold cntT
  exact Nat.le_trans (cntS_le _ _) (List.length_take_le _ _)
theorem cntT_all (r : List Int) (x : Int) : cntT r x r.length = cntS r x := by unfold cntT; rw [List.take_of_length_le (Nat.le_refl _)]

set_option maxRecDepth 100000 in
set_option maxHeartbeats 400000 in
theorem rShift_no (A : Option Addr) (n c : Nat) (l : List Int) (B : Option Addr) (m d : Nat) (r : List Int) (w : World) (hs : RdI w A n c l) (ht : RdI w B m d r) (h : isSetS 300 l = false ∨ isSetS 300 r = false) :
    Calls Try.prog 14 #[.slice A n c, .slice B m d] w (GiveIN [] 1 w) := by
  by_cases h1 : isSetS 300 l = true
  · have h2 : isSetS 300 r = false := by rcases h with h | h; simp [h] at h1; exact h
    clear h
    go_enter Try.func14, Try.ntmps14
    go_wp2_with fail
    refine (IsSet_any _ _ _ _ _ hs).mono ?_
    rintro e w' ⟨rfl, k1, rfl⟩
    go_wp2_with fail
    refine (IsSet_any _ _ _ _ _ (ht.drewN _)).mono ?_
    rintro e w' ⟨rfl, k2, rfl⟩
    go_wp2
    go_ret2
    exact ⟨none, 0, 0, rfl, RdI.nil _, by first | exact Ext.drewN _ _ | exact (Ext.drewN _ _).drewN_right _, Fr.none_ _⟩
  · replace h1 : isSetS 300 l = false := by simpa using h1
    clear h
    go_enter Try.func14, Try.ntmps14
    go_wp2_with fail
    refine (IsSet_any _ _ _ _ _ hs).mono ?_
    rintro e w' ⟨rfl, k1, rfl⟩
    go_wp2
    go_ret2
    exact ⟨none, 0, 0, rfl, RdI.nil _, by first | exact Ext.drewN _ _ | exact (Ext.drewN _ _).drewN_right _, Fr.none_ _⟩

set_option maxRecDepth 100000 in
set_option maxHeartbeats 1000000 in
theorem rShift_yes (A : Option Addr) (n c : Nat) (l : List Int) (B : Option Addr) (m d : Nat) (r : List Int) (w : World) (hs : RdI w A n c l) (ht : RdI w B m d r) (h1 : isSetS 300 l = true) (h2 : isSetS 300 r = true) (hn : n ≤ 3000) (hm : m ≤ 3000) :
    Calls Try.prog 14 #[.slice A n c, .slice B m d] w (GiveIN (refShiftS l r) 0 w) := by
  obtain ⟨i0, hi, hz0, hz1, hz2⟩ := info_parts Try.info3
  have hJm : Hid (∀ y, y ∈ l → 1 ≤ y ∧ y ≤ 300) := fun y hy => isSetS_mem h1 hy
  have Hl := hid hs.len
  have Hr := hid ht.len
  go_enter Try.func14, Try.ntmps14
  go_wp2_with fail
  refine (IsSet_any _ _ _ _ _ hs).mono ?_
  rintro e w' ⟨rfl, k1, rfl⟩
  go_wp2_with fail
  refine (IsSet_any _ _ _ _ _ (ht.drewN _)).mono ?_
  rintro e w' ⟨rfl, k2, rfl⟩
  go_wp2_with fail
  clear h1 h2
  go_loopw [6, 7] (fun v i wr => ∃ k j : Nat, k ≤ n ∧ j ≤ k ∧ i = .int .i64 k ∧ wr.ownsRow w.heap.size 3 1 v j (ints (shR l r k)) ∧ Below w.heap.size w wr) (fun _ i _ => n - (intOf i).toNat)
  case atStart => exact ⟨0, 0, by omega, by omega, rfl, World.ownsRow_nil _ _ _ _, below_drewN (Below.refl _ _) _⟩
  case round =>
    obtain ⟨k, j, hk, hj, rfl, hown, hb⟩ := hrel
    obtain ⟨wo, rfl⟩ : ∃ wo : World, wo = wr := ⟨_, rfl⟩
    have hbs := hb.size
    by_cases hlt : k < n
    · have hs1 := hs.ext (w' := wo) hb
      have ht1 := ht.ext (w' := wo) hb
      obtain ⟨ad, rfl, hc⟩ := hs1.at_ hlt
      have hkl : k < l.length := by rw [Hl.out]; exact hlt
      have hbd := hJm.out (nth l k) (by rw [nth_lt hkl]; exact List.getElem_mem _)
      by_cases hh : hasS r (nth l k) = true
      · have hq := hid (shR_no l r k hkl hh)
        clear hkl
        go_wp2_with (go_at_call 32; refine (has_any _ _ _ _ _ _ ht1).mono ?_; rintro e w' ⟨rfl, rfl⟩)
        go_roundw
        case rel => exact ⟨k + 1, j, by omega, by omega, by go_num, by rw [hq.out]; exact hown, hb⟩
        case measure => simp [intOf]; omega
      · replace hh : hasS r (nth l k) = false := by simpa using hh
        have hq := hid (shR_yes l r k hkl hh)
        clear hkl
        go_wp2_with (go_at_call 32; refine (has_any _ _ _ _ _ _ ht1).mono ?_; rintro e w' ⟨rfl, rfl⟩)
        go_loopw [8, 9] (fun a b wi => ∃ q : Nat, q ≤ m ∧ a = .int .i64 (nth l k - cntT r (nth l k) q) ∧ b = .int .i64 q ∧ Dr wo wi) (fun _ b _ => m - (intOf b).toNat)
        case atStart => exact ⟨0, by omega, by simp [cntT, cntS], rfl, Dr.refl _⟩
        case round =>
          obtain ⟨q, hq', rfl, rfl, z, rfl⟩ := hrel
          have hle := cntT_le r (nth l k) q
          by_cases hlq : q < m
          · obtain ⟨bd, rfl, hd⟩ := ht1.at_ hlq
            have hql : q < r.length := by rw [Hr.out]; exact hlq
            by_cases hx : nth r q < nth l k
            · have hcq := hid (cntT_yes r (nth l k) q hql hx)
              have hx' : decide (nth r q < nth l k) = true := by simpa using hx
              clear hx hql
              go_wp2
              go_quiet (fail)
              go_wp2
              go_roundw
              case rel => exact ⟨q + 1, by omega, by rw [hcq.out]; go_num, by go_num, by first | exact Dr.mk1 _ _ | exact Dr.mk2 _ _ _⟩
              case measure => simp [intOf]; omega
            · have hcq := hid (cntT_no r (nth l k) q hql hx)
              have hx' : decide (nth r q < nth l k) = false := by simpa using hx
              clear hx hql
              go_wp2
              go_quiet (fail)
              go_wp2
              go_roundw
              case rel => exact ⟨q + 1, by omega, by rw [hcq.out], by go_num, by first | exact Dr.mk1 _ _ | exact Dr.mk2 _ _ _⟩
              case measure => simp [intOf]; omega
          · obtain rfl : q = m := by omega
            go_wp2_with ((at_builtin; refine wpList_pushI _ rfl _ _ 22 rfl w.heap.size 3 i0 Try.underlying22 hi hz0 hz1 hz2 _ _ _ rfl (own_drewN hown _) (nth l k - cntT r (nth l k) q) rfl (by omega) (by simp; omega) ?_))
            intro g cap w1 hown1 hg1 _
            go_wp2
            go_roundw
            case rel => exact ⟨k + 1, j + 1, by omega, by omega, by go_num, by rw [hq.out, ← cntT_all, Hr.out]; exact hown1, below_push (below_drewN hb _) (own_drewN hown _) hg1 hbs⟩
            case measure => simp [intOf]; omega
    · go_wp2
      obtain ⟨A1, c1, rfl, hcc⟩ := own_form hown
      go_ret2
      obtain rfl : k = n := by omega
      exact ⟨A1, _, c1, rfl, by unfold refShiftS; rw [Hl.out]; exact RdI.of_own hown, hb, own_fresh hown⟩
end Go.Proofs.Ytffcaoicokookaa
