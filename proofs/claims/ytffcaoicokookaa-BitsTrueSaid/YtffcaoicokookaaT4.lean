import Derived.Test.YtffcaoicokookaaT3
namespace Go.Proofs.Ytffcaoicokookaa
open Go.RowKit
def filtS (p : Int → Bool) (l : List Int) (k : Nat) : List Int := (l.take k).filter p
theorem filtS_yes (p : Int → Bool) (l : List Int) (k : Nat) (hk : k < l.length) (h : p (nth l k) = true) : filtS p l (k+1) = filtS p l k ++ [nth l k] := by
  unfold filtS
  rw [List.take_succ_eq_append_getElem hk]
  rw [nth_lt hk] at *
  rw [List.filter_append]
  simp [h]
theorem filtS_no (p : Int → Bool) (l : List Int) (k : Nat) (hk : k < l.length) (h : p (nth l k) = false) : filtS p l (k+1) = filtS p l k := by
  unfold filtS
  rw [List.take_succ_eq_append_getElem hk]
  rw [nth_lt hk] at *
  rw [List.filter_append]
  simp [h]
theorem filtS_len (p : Int → Bool) (l : List Int) (k : Nat) : (filtS p l k).length ≤ k := by
  unfold filtS
  exact Nat.le_trans (List.length_filter_le _ _) (List.length_take_le _ _)
def interS (l r : List Int) : List Int := filtS (hasS r) l l.length
def notHas (r : List Int) (x : Int) : Bool := !hasS r x
def lessS (l r : List Int) : List Int := filtS (notHas r) l l.length
def inAny (l r : List Int) (x : Int) : Bool := hasS l x || hasS r x
def eitherS (l r : List Int) : List Int := filtS (inAny l r) (upS 300) 300

set_option maxHeartbeats 400000 in
theorem inBoth_any (A : Option Addr) (n c : Nat) (l : List Int) (B : Option Addr) (m d : Nat) (r : List Int) (w : World) (hs : RdI w A n c l) (ht : RdI w B m d r) (hsz : n ≤ 10000) :
    Calls Try.prog 55 #[.slice A n c, .slice B m d] w (GiveI (interS l r) w) := by
  obtain ⟨i0, hi, hz0, hz1, hz2⟩ := info_parts Try.info3
  have Hl := hid hs.len
  go_enter Try.func55, Try.ntmps55
  go_wp2
  go_loopw [5, 6] (fun v i wr => ∃ k j : Nat, k ≤ n ∧ j ≤ k ∧ i = .int .i64 k ∧ wr.ownsRow w.heap.size 3 1 v j (ints (filtS (hasS r) l k)) ∧ Below w.heap.size w wr) (fun _ i _ => n - (intOf i).toNat)
  case atStart => exact ⟨0, 0, by omega, by omega, rfl, World.ownsRow_nil _ _ _ _, Below.refl _ _⟩
  case round =>
    obtain ⟨k, j, hk, hj, rfl, hown, hb⟩ := hrel
    have hbs := hb.size
    by_cases hlt : k < n
    · have hs1 := hs.ext (w' := wr) hb
      have ht1 := ht.ext (w' := wr) hb
      obtain ⟨ad, rfl, hc⟩ := hs1.at_ hlt
      have hkl : k < l.length := by rw [Hl.out]; exact hlt
      by_cases hh : hasS r (nth l k) = true
      · have hq := hid (filtS_yes (hasS r) l k hkl hh)
        have hh' : hasS r (nth l k) = true := by simpa using hh
        clear hh
        go_wp2_with (first | (go_at_call 32; refine (has_any _ _ _ _ _ _ ht1).mono ?_; rintro e w' ⟨rfl, rfl⟩) | (at_builtin; refine wpList_pushI _ rfl _ _ 22 rfl w.heap.size 3 i0 Try.underlying22 hi hz0 hz1 hz2 _ _ _ rfl hown (nth l k) rfl (by omega) (by omega) ?_))
        intro g cap w1 hown1 hg1 _
        go_wp2
        go_roundw
        case rel => exact ⟨k + 1, j + 1, by omega, by omega, by go_num, by rw [hq.out]; exact hown1, below_push hb hown hg1 hbs⟩
        case measure => simp [intOf]; omega
      · have hh' : hasS r (nth l k) = false := by simpa using hh
        have hq := hid (filtS_no (hasS r) l k hkl (by simpa using hh))
        clear hh
        go_wp2_with (first | (go_at_call 32; refine (has_any _ _ _ _ _ _ ht1).mono ?_; rintro e w' ⟨rfl, rfl⟩))
        go_roundw
        case rel => exact ⟨k + 1, j, by omega, by omega, by go_num, by rw [hq.out]; exact hown, hb⟩
        case measure => simp [intOf]; omega
    · go_wp2
      obtain ⟨A1, c1, rfl, hcc⟩ := own_form hown
      go_ret
      obtain rfl : k = n := by omega
      exact ⟨A1, _, c1, rfl, by unfold interS; rw [Hl.out]; exact RdI.of_own hown, hb, own_fresh hown⟩
set_option maxHeartbeats 400000 in
theorem less_any (A : Option Addr) (n c : Nat) (l : List Int) (B : Option Addr) (m d : Nat) (r : List Int) (w : World) (hs : RdI w A n c l) (ht : RdI w B m d r) (hsz : n ≤ 10000) :
    Calls Try.prog 62 #[.slice A n c, .slice B m d] w (GiveI (lessS l r) w) := by
  obtain ⟨i0, hi, hz0, hz1, hz2⟩ := info_parts Try.info3
  have Hl := hid hs.len
  go_enter Try.func62, Try.ntmps62
  go_wp2
  go_loopw [5, 6] (fun v i wr => ∃ k j : Nat, k ≤ n ∧ j ≤ k ∧ i = .int .i64 k ∧ wr.ownsRow w.heap.size 3 1 v j (ints (filtS (notHas r) l k)) ∧ Below w.heap.size w wr) (fun _ i _ => n - (intOf i).toNat)
  case atStart => exact ⟨0, 0, by omega, by omega, rfl, World.ownsRow_nil _ _ _ _, Below.refl _ _⟩
  case round =>
    obtain ⟨k, j, hk, hj, rfl, hown, hb⟩ := hrel
    have hbs := hb.size
    by_cases hlt : k < n
    · have hs1 := hs.ext (w' := wr) hb
      have ht1 := ht.ext (w' := wr) hb
      obtain ⟨ad, rfl, hc⟩ := hs1.at_ hlt
      have hkl : k < l.length := by rw [Hl.out]; exact hlt
      by_cases hh : hasS r (nth l k) = false
      · have hq := hid (filtS_yes (notHas r) l k hkl (by simp [notHas, hh]))
        have hh' : hasS r (nth l k) = false := hh
        clear hh
        go_wp2_with (first | (go_at_call 32; refine (has_any _ _ _ _ _ _ ht1).mono ?_; rintro e w' ⟨rfl, rfl⟩) | (at_builtin; refine wpList_pushI _ rfl _ _ 22 rfl w.heap.size 3 i0 Try.underlying22 hi hz0 hz1 hz2 _ _ _ rfl hown (nth l k) rfl (by omega) (by omega) ?_))
        intro g cap w1 hown1 hg1 _
        go_wp2
        go_roundw
        case rel => exact ⟨k + 1, j + 1, by omega, by omega, by go_num, by rw [hq.out]; exact hown1, below_push hb hown hg1 hbs⟩
        case measure => simp [intOf]; omega
      · replace hh : hasS r (nth l k) = true := by simpa using hh
        have hh' := hh
        have hq := hid (filtS_no (notHas r) l k hkl (by simp [notHas, hh]))
        clear hh
        go_wp2_with (first | (go_at_call 32; refine (has_any _ _ _ _ _ _ ht1).mono ?_; rintro e w' ⟨rfl, rfl⟩))
        go_roundw
        case rel => exact ⟨k + 1, j, by omega, by omega, by go_num, by rw [hq.out]; exact hown, hb⟩
        case measure => simp [intOf]; omega
    · go_wp2
      obtain ⟨A1, c1, rfl, hcc⟩ := own_form hown
      go_ret
      obtain rfl : k = n := by omega
      exact ⟨A1, _, c1, rfl, by unfold lessS; rw [Hl.out]; exact RdI.of_own hown, hb, own_fresh hown⟩

theorem nth_up {k n : Nat} (h : k < n) : nth (upS n) k = k + 1 := by simp [nth, upS, h]
set_option maxRecDepth 100000 in
set_option maxHeartbeats 400000 in
theorem either_any (A : Option Addr) (n c : Nat) (l : List Int) (B : Option Addr) (m d : Nat) (r : List Int) (w : World) (hs : RdI w A n c l) (ht : RdI w B m d r) :
    Calls Try.prog 57 #[.slice A n c, .slice B m d] w (GiveI (eitherS l r) w) := by
  obtain ⟨i0, hi, hz0, hz1, hz2⟩ := info_parts Try.info3
  go_enter Try.func57, Try.ntmps57
  go_wp2
  go_loopw [5, 6] (fun v i wr => ∃ k j : Nat, k ≤ 300 ∧ j ≤ k ∧ i = .int .i64 (k + 1) ∧ wr.ownsRow w.heap.size 3 1 v j (ints (filtS (inAny l r) (upS 300) k)) ∧ Below w.heap.size w wr) (fun _ i _ => 301 - (intOf i).toNat)
  case atStart => exact ⟨0, 0, by omega, by omega, rfl, World.ownsRow_nil _ _ _ _, Below.refl _ _⟩
  case round =>
    obtain ⟨k, j, hk, hj, rfl, hown, hb⟩ := hrel
    have hbs := hb.size
    by_cases hlt : k < 300
    · have hs1 := hs.ext (w' := wr) hb
      have ht1 := ht.ext (w' := wr) hb
      have hn := nth_up hlt
      have hkl : k < (upS 300).length := by rw [upS_len]; exact hlt
      by_cases hh : inAny l r (k + 1) = true
      · have hq := filtS_yes (inAny l r) (upS 300) k hkl (by rw [hn]; exact hh)
        rw [hn] at hq
        have Hq := hid hq
        clear hq hn hkl
        by_cases h1 : hasS l (k + 1) = true
        · clear hh
          go_wp2_with (first | (go_at_call 32; refine (has_any _ _ _ _ _ _ hs1).mono ?_; rintro e w' ⟨rfl, rfl⟩) | (at_builtin; refine wpList_pushI _ rfl _ _ 22 rfl w.heap.size 3 i0 Try.underlying22 hi hz0 hz1 hz2 _ _ _ rfl hown (k + 1) rfl (by omega) (by omega) ?_))
          intro g cap w1 hown1 hg1 _
          go_wp2
          go_roundw
          case rel => exact ⟨k + 1, j + 1, by omega, by omega, by go_num, by rw [Hq.out]; exact hown1, below_push hb hown hg1 hbs⟩
          case measure => simp [intOf]; omega
        · have h2 : hasS r (k + 1) = true := by simpa [inAny, h1] using hh
          replace h1 : hasS l (k + 1) = false := by simpa using h1
          clear hh
          go_wp2_with (first | (go_at_call 32; refine (has_any _ _ _ _ _ _ (by assumption)).mono ?_; rintro e w' ⟨rfl, rfl⟩) | (at_builtin; refine wpList_pushI _ rfl _ _ 22 rfl w.heap.size 3 i0 Try.underlying22 hi hz0 hz1 hz2 _ _ _ rfl hown (k + 1) rfl (by omega) (by omega) ?_))
          intro g cap w1 hown1 hg1 _
          go_wp2
          go_roundw
          case rel => exact ⟨k + 1, j + 1, by omega, by omega, by go_num, by rw [Hq.out]; exact hown1, below_push hb hown hg1 hbs⟩
          case measure => simp [intOf]; omega
      · have hq := filtS_no (inAny l r) (upS 300) k hkl (by rw [hn]; simpa using hh)
        have Hq := hid hq
        clear hq hn hkl
        have h1 : hasS l (k + 1) = false := by simp [inAny] at hh; exact hh.1
        have h2 : hasS r (k + 1) = false := by simp [inAny] at hh; exact hh.2
        clear hh
        go_wp2_with ((go_at_call 32; refine (has_any _ _ _ _ _ _ (by assumption)).mono ?_; rintro e w' ⟨rfl, rfl⟩))
        go_roundw
        case rel => exact ⟨k + 1, j, by omega, by omega, by go_num, by rw [Hq.out]; exact hown, hb⟩
        case measure => simp [intOf]; omega
    · go_wp2
      obtain ⟨A1, c1, rfl, hcc⟩ := own_form hown
      go_ret
      obtain rfl : k = 300 := by omega
      exact ⟨A1, _, c1, rfl, RdI.of_own hown, hb, own_fresh hown⟩
end Go.Proofs.Ytffcaoicokookaa
