import Derived.Test.YtffcaoicokookaaT2
namespace Go.Proofs.Ytffcaoicokookaa
open Go.RowKit
theorem Try.info3 : (Try.prog.info? 3).map (fun i => (i.zero, i.size, i.bytes)) = some (some (.int .i64 0), 1, 8) := by kernel_rfl
def upS (n : Nat) : List Int := (List.range n).map (fun (i : Nat) => (i : Int) + 1)
theorem upS_succ (n : Nat) : upS (n+1) = upS n ++ [(n:Int)+1] := by simp [upS, List.range_succ]
theorem upS_len (n : Nat) : (upS n).length = n := by simp [upS]

set_option maxHeartbeats 400000 in
theorem all_any (N : Nat) (w : World) (hN : N ≤ 300) :
    Calls Try.prog 60 #[.int .i64 N] w (GiveI (upS N) w) := by
  obtain ⟨i0, hi, hz0, hz1, hz2⟩ := info_parts Try.info3
  obtain ⟨B, HB⟩ : ∃ B, B = w.heap.size := ⟨_, rfl⟩
  have HB' := hid HB; clear HB
  go_enter Try.func60, Try.ntmps60
  go_wp2
  go_loopw [3, 6] (fun v i wr => ∃ k : Nat, k ≤ N ∧ i = .int .i64 k ∧ wr.ownsRow w.heap.size 3 1 v k (ints (upS k)) ∧ Below w.heap.size w wr) (fun _ i _ => N - (intOf i).toNat)
  case atStart => exact ⟨0, by omega, rfl, World.ownsRow_nil _ _ _ _, Below.refl _ _⟩
  case round =>
    obtain ⟨k, hk, rfl, hown, hb⟩ := hrel
    have hbs := hb.size
    by_cases hlt : k < N
    · go_wp2_with (at_builtin; refine wpList_pushI _ rfl _ _ 22 rfl w.heap.size 3 i0 Try.underlying22 hi hz0 hz1 hz2 _ _ _ rfl hown (k + 1) rfl (by omega) (by omega) ?_)
      intro g cap w1 hown1 hg1 _
      go_wp2
      go_roundw
      case rel => exact ⟨k + 1, by omega, by go_num, by rw [upS_succ]; exact hown1, below_push hb hown hg1 hbs⟩
      case measure => simp [intOf]; omega
    · go_wp2
      obtain ⟨A, c, rfl, hc⟩ := own_form hown
      go_ret
      obtain rfl : k = N := by omega
      exact ⟨A, _, c, rfl, RdI.of_own hown, hb, own_fresh hown⟩

set_option maxHeartbeats 400000 in
theorem upTo_any (N : Nat) (w : World) (hN : N ≤ 300) :
    Calls Try.prog 63 #[.int .i64 N] w (GiveI (upS N) w) := by
  obtain ⟨i0, hi, hz0, hz1, hz2⟩ := info_parts Try.info3
  go_enter Try.func63, Try.ntmps63
  go_wp2
  go_loopw [3, 4] (fun v i wr => ∃ k : Nat, k ≤ N ∧ i = .int .i64 (k + 1) ∧ wr.ownsRow w.heap.size 3 1 v k (ints (upS k)) ∧ Below w.heap.size w wr) (fun _ i _ => N + 1 - (intOf i).toNat)
  case atStart => exact ⟨0, by omega, rfl, World.ownsRow_nil _ _ _ _, Below.refl _ _⟩
  case round =>
    obtain ⟨k, hk, rfl, hown, hb⟩ := hrel
    have hbs := hb.size
    by_cases hlt : k < N
    · go_wp2_with (at_builtin; refine wpList_pushI _ rfl _ _ 22 rfl w.heap.size 3 i0 Try.underlying22 hi hz0 hz1 hz2 _ _ _ rfl hown (k + 1) rfl (by omega) (by omega) ?_)
      intro g cap w1 hown1 hg1 _
      go_wp2
      go_roundw
      case rel => exact ⟨k + 1, by omega, by go_num, by rw [upS_succ]; exact hown1, below_push hb hown hg1 hbs⟩
      case measure => simp [intOf]; omega
    · go_wp2
      obtain ⟨A, c, rfl, hc⟩ := own_form hown
      go_ret
      obtain rfl : k = N := by omega
      exact ⟨A, _, c, rfl, RdI.of_own hown, hb, own_fresh hown⟩

/-! joined -/
def joinS (g : Bool → Bool → Bool) : List Int → List Int → List Int
  | [], [] => []
  | x :: a, [] => (if g true false then [x] else []) ++ joinS g a []
  | [], y :: b => (if g false true then [y] else []) ++ joinS g [] b
  | x :: a, y :: b =>
    if x < y then (if g true false then [x] else []) ++ joinS g a (y :: b)
    else if y < x then (if g false true then [y] else []) ++ joinS g (x :: a) b
    else (if g true true then [x] else []) ++ joinS g a b
  termination_by a b => a.length + b.length

theorem joinS_len (g : Bool → Bool → Bool) : ∀ (k : Nat) (a b : List Int), a.length + b.length ≤ k → (joinS g a b).length ≤ a.length + b.length := by
  intro k
  induction k with
  | zero =>
    intro a b h
    have ha : a = [] := List.eq_nil_of_length_eq_zero (by omega)
    have hb : b = [] := List.eq_nil_of_length_eq_zero (by omega)
    subst ha hb
    simp [joinS]
  | succ k ih =>
    intro a b h
    match a, b with
    | [], [] => simp [joinS]
    | x :: a, [] =>
      have := ih a [] (by simp at h ⊢; omega)
      rw [joinS]; split <;> simp at this ⊢ <;> omega
    | [], y :: b =>
      have := ih [] b (by simp at h ⊢; omega)
      rw [joinS]; split <;> simp at this ⊢ <;> omega
    | x :: a, y :: b =>
      have h1 := ih a (y :: b) (by simp at h ⊢; omega)
      have h2 := ih (x :: a) b (by simp at h ⊢; omega)
      have h3 := ih a b (by simp at h ⊢; omega)
      rw [joinS]
      split
      · split <;> simp at h1 ⊢ <;> omega
      · split
        · split <;> simp at h2 ⊢ <;> omega
        · split <;> simp at h3 ⊢ <;> omega

theorem head_of {a : List Int} (h : 0 < a.length) : a = nth a 0 :: a.drop 1 := by
  match a, h with
  | x :: a, _ => simp [nth]
theorem joinS_lt (g : Bool → Bool → Bool) {a b : List Int} (ha : 0 < a.length) (hb : 0 < b.length) (h : nth a 0 < nth b 0) :
    joinS g a b = (if g true false then [nth a 0] else []) ++ joinS g (a.drop 1) b := by
  match a, b, ha, hb with
  | x :: a, y :: b, _, _ => simp [nth] at h; rw [joinS, if_pos h]; simp [nth]
theorem joinS_gt (g : Bool → Bool → Bool) {a b : List Int} (ha : 0 < a.length) (hb : 0 < b.length) (h : nth b 0 < nth a 0) :
    joinS g a b = (if g false true then [nth b 0] else []) ++ joinS g a (b.drop 1) := by
  match a, b, ha, hb with
  | x :: a, y :: b, _, _ => simp [nth] at h; rw [joinS, if_neg (by omega), if_pos h]; simp [nth]
theorem joinS_eq (g : Bool → Bool → Bool) {a b : List Int} (ha : 0 < a.length) (hb : 0 < b.length) (h : nth a 0 = nth b 0) :
    joinS g a b = (if g true true then [nth a 0] else []) ++ joinS g (a.drop 1) (b.drop 1) := by
  match a, b, ha, hb with
  | x :: a, y :: b, _, _ => simp [nth] at h; rw [joinS, if_neg (by omega), if_neg (by omega)]; simp [nth]
theorem joinS_l (g : Bool → Bool → Bool) {a b : List Int} (ha : 0 < a.length) (hb : b.length = 0) :
    joinS g a b = (if g true false then [nth a 0] else []) ++ joinS g (a.drop 1) b := by
  obtain rfl := List.eq_nil_of_length_eq_zero hb
  match a, ha with
  | x :: a, _ => rw [joinS]; simp [nth]
theorem joinS_r (g : Bool → Bool → Bool) {a b : List Int} (ha : a.length = 0) (hb : 0 < b.length) :
    joinS g a b = (if g false true then [nth b 0] else []) ++ joinS g a (b.drop 1) := by
  obtain rfl := List.eq_nil_of_length_eq_zero ha
  match b, hb with
  | x :: a, _ => rw [joinS]; simp [nth]
theorem joinS_nil (g : Bool → Bool → Bool) {a b : List Int} (ha : a.length = 0) (hb : b.length = 0) : joinS g a b = [] := by
  obtain rfl := List.eq_nil_of_length_eq_zero ha
  obtain rfl := List.eq_nil_of_length_eq_zero hb
  rw [joinS]
theorem out_yes {out J R s : List Int} {x : Int} {c : Bool} (h : out ++ J = R) (hJ : J = (if c then [x] else []) ++ s) (hc : c = true) : (out ++ [x]) ++ s = R := by
  rw [← h, hJ, hc]; simp
theorem out_no {out J R s : List Int} {x : Int} {c : Bool} (h : out ++ J = R) (hJ : J = (if c then [x] else []) ++ s) (hc : ¬ c = true) : out ++ s = R := by
  rw [← h, hJ, if_neg hc]; simp

theorem enter50 (args : Array Value) (w : World) : (callFunc 50 args).run Try.prog w = .ok (.enter 50 args) w := by kernel_rfl
theorem enter53 (args : Array Value) (w : World) : (callFunc 53 args).run Try.prog w = .ok (.enter 53 args) w := by kernel_rfl
theorem enter56 (args : Array Value) (w : World) : (callFunc 56 args).run Try.prog w = .ok (.enter 56 args) w := by kernel_rfl
set_option maxHeartbeats 1000000 in
set_option maxRecDepth 100000 in
theorem joined_any (f : Nat) (g : Bool → Bool → Bool) (hcf : ∀ args w, (callFunc f args).run Try.prog w = .ok (.enter f args) w) (hf : ∀ a b w, Calls Try.prog f #[.bool a, .bool b] w fun e w' => e = .returned (.bool (g a b)) ∧ w = w')
    (A : Option Addr) (n c : Nat) (l : List Int) (B : Option Addr) (m d : Nat) (r : List Int) (w : World) (hs : RdI w A n c l) (ht : RdI w B m d r) (hsz : n + m ≤ 10000) :
    Calls Try.prog 49 #[.slice A n c, .slice B m d, .func (.func f) #[] #[]] w (GiveI (joinS g l r) w) := by
  obtain ⟨i0, hi, hz0, hz1, hz2⟩ := info_parts Try.info3
  have HF := hid hf
  clear hf
  go_enter Try.func49, Try.ntmps49
  go_wp2
  go_loopw [0, 1, 7] (fun u v o wr => ∃ A n c a B m d b k out, u = .slice A n c ∧ v = .slice B m d ∧ RdI w A n c a ∧ RdI w B m d b ∧ wr.ownsRow w.heap.size 3 1 o k (ints out) ∧ Below w.heap.size w wr ∧ k + n + m ≤ 10000 ∧ out ++ joinS g a b = joinS g l r) (fun u v _ _ => lenOf u + lenOf v)
  case atStart => exact ⟨_, _, _, _, _, _, _, _, 0, [], rfl, rfl, hs, ht, World.ownsRow_nil _ _ _ _, Below.refl _ _, by omega, rfl⟩
  case round =>
    clear hs ht hsz
    obtain ⟨A, n, c, a, B, m, d, b, k, out, rfl, rfl, hs, ht, hown, hb, hsz, hout⟩ := hrel
    have Hout := hid hout
    clear hout
    have hs1 := hs.ext (w' := wr) hb
    have ht1 := ht.ext (w' := wr) hb
    have hbs := hb.size
    by_cases hn : 0 < n
    · obtain ⟨ad, rfl, -⟩ := hs1.at_ hn
      have hc := hs1.cell0 hn
      have g1 : decide (0 < n) = true := by simp; omega
      have g3 : ((n : Int) == 0) = false := by simp; omega
      have La : 0 < a.length := by rw [hs.len]; exact hn
      by_cases hm : 0 < m
      · obtain ⟨bd, rfl, -⟩ := ht1.at_ hm
        have hd := ht1.cell0 hm
        have g2 : decide (0 < m) = true := by simp; omega
        have g4 : ((m : Int) == 0) = false := by simp; omega
        have Lb : 0 < b.length := by rw [ht.len]; exact hm
        rcases Int.lt_trichotomy (nth a 0) (nth b 0) with hxy | hxy | hxy
        · have t1 : decide (nth a 0 ≤ nth b 0) = true := by simp; omega
          have t2 : decide (nth b 0 ≤ nth a 0) = false := by simp; omega
          have J := hid (joinS_lt g La Lb hxy)
          clear hxy La Lb
          go_wp2
          go_quiet (fail)
          go_wp2
          go_quiet (fail)
          go_wp2_with (first | (refine (HF.out _ _ _).mono ?_; rintro e w' ⟨rfl, rfl⟩) | (at_builtin; refine wpList_pushI _ rfl _ _ 22 rfl w.heap.size 3 i0 Try.underlying22 hi hz0 hz1 hz2 _ _ _ rfl (own_drewN hown _) (nth a 0) rfl (by omega) (by simp; omega) ?_))
          · intro g1 cap w1 hown1 hg1 _
            have hgr := hid (below_push (below_drewN hb _) (own_drewN hown _) hg1 hbs)
            clear hg1 hb hown hs1 ht1
            go_wp2
            go_roundw
            case rel => exact ⟨_, _, _, _, _, _, _, _, _, _, rfl, rfl, hs.cut (k := 1) (by omega), ht, hown1, hgr.out, by omega, out_yes Hout.out J.out (by assumption)⟩
            case measure => simp [lenOf]; omega
          · go_roundw
            case rel => exact ⟨_, _, _, _, _, _, _, _, _, _, rfl, rfl, hs.cut (k := 1) (by omega), ht, hown, below_drewN hb _, by omega, out_no Hout.out J.out (by assumption)⟩
            case measure => simp [lenOf]; omega
        · have t1 : decide (nth a 0 ≤ nth b 0) = true := by simp; omega
          have t2 : decide (nth b 0 ≤ nth a 0) = true := by simp; omega
          have J := hid (joinS_eq g La Lb hxy)
          clear hxy La Lb
          go_wp2
          go_quiet (fail)
          go_wp2
          go_quiet (fail)
          go_wp2_with (first | (refine (HF.out _ _ _).mono ?_; rintro e w' ⟨rfl, rfl⟩) | (at_builtin; refine wpList_pushI _ rfl _ _ 22 rfl w.heap.size 3 i0 Try.underlying22 hi hz0 hz1 hz2 _ _ _ rfl (own_drewN hown _) (nth a 0) rfl (by omega) (by simp; omega) ?_))
          · intro g1 cap w1 hown1 hg1 _
            have hgr := hid (below_push (below_drewN hb _) (own_drewN hown _) hg1 hbs)
            clear hg1 hb hown hs1 ht1
            go_wp2
            go_roundw
            case rel => exact ⟨_, _, _, _, _, _, _, _, _, _, rfl, rfl, hs.cut (k := 1) (by omega), ht.cut (k := 1) (by omega), hown1, hgr.out, by omega, out_yes Hout.out J.out (by assumption)⟩
            case measure => simp [lenOf]; omega
          · go_roundw
            case rel => exact ⟨_, _, _, _, _, _, _, _, _, _, rfl, rfl, hs.cut (k := 1) (by omega), ht.cut (k := 1) (by omega), hown, below_drewN hb _, by omega, out_no Hout.out J.out (by assumption)⟩
            case measure => simp [lenOf]; omega
        · have t1 : decide (nth a 0 ≤ nth b 0) = false := by simp; omega
          have t2 : decide (nth b 0 ≤ nth a 0) = true := by simp; omega
          have J := hid (joinS_gt g La Lb hxy)
          clear hxy La Lb
          go_wp2
          go_quiet (fail)
          go_wp2
          go_quiet (fail)
          go_wp2_with (first | (refine (HF.out _ _ _).mono ?_; rintro e w' ⟨rfl, rfl⟩) | (at_builtin; refine wpList_pushI _ rfl _ _ 22 rfl w.heap.size 3 i0 Try.underlying22 hi hz0 hz1 hz2 _ _ _ rfl (own_drewN hown _) (nth b 0) rfl (by omega) (by simp; omega) ?_))
          · intro g1 cap w1 hown1 hg1 _
            have hgr := hid (below_push (below_drewN hb _) (own_drewN hown _) hg1 hbs)
            clear hg1 hb hown hs1 ht1
            go_wp2
            go_roundw
            case rel => exact ⟨_, _, _, _, _, _, _, _, _, _, rfl, rfl, hs, ht.cut (k := 1) (by omega), hown1, hgr.out, by omega, out_yes Hout.out J.out (by assumption)⟩
            case measure => simp [lenOf]; omega
          · go_roundw
            case rel => exact ⟨_, _, _, _, _, _, _, _, _, _, rfl, rfl, hs, ht.cut (k := 1) (by omega), hown, below_drewN hb _, by omega, out_no Hout.out J.out (by assumption)⟩
            case measure => simp [lenOf]; omega
      · have g2 : decide (0 < m) = false := by simp; omega
        have g4 : ((m : Int) == 0) = true := by simp; omega
        have Lb : b.length = 0 := by rw [ht.len]; omega
        have J := hid (joinS_l g La Lb)
        clear La Lb
        go_wp2
        go_quiet (fail)
        go_wp2
        go_quiet (fail)
        go_wp2_with (first | (refine (HF.out _ _ _).mono ?_; rintro e w' ⟨rfl, rfl⟩) | (at_builtin; refine wpList_pushI _ rfl _ _ 22 rfl w.heap.size 3 i0 Try.underlying22 hi hz0 hz1 hz2 _ _ _ rfl (own_drewN hown _) (nth a 0) rfl (by omega) (by simp; omega) ?_))
        · intro g1 cap w1 hown1 hg1 _
          have hgr := hid (below_push (below_drewN hb _) (own_drewN hown _) hg1 hbs)
          clear hg1 hb hown hs1 ht1
          go_wp2
          go_roundw
          case rel => exact ⟨_, _, _, _, _, _, _, _, _, _, rfl, rfl, hs.cut (k := 1) (by omega), ht, hown1, hgr.out, by omega, out_yes Hout.out J.out (by assumption)⟩
          case measure => simp [lenOf]; omega
        · go_roundw
          case rel => exact ⟨_, _, _, _, _, _, _, _, _, _, rfl, rfl, hs.cut (k := 1) (by omega), ht, hown, below_drewN hb _, by omega, out_no Hout.out J.out (by assumption)⟩
          case measure => simp [lenOf]; omega
    · have g1 : decide (0 < n) = false := by simp; omega
      have g3 : ((n : Int) == 0) = true := by simp; omega
      have La : a.length = 0 := by rw [hs.len]; omega
      by_cases hm : 0 < m
      · obtain ⟨bd, rfl, -⟩ := ht1.at_ hm
        have hd := ht1.cell0 hm
        have g2 : decide (0 < m) = true := by simp; omega
        have g4 : ((m : Int) == 0) = false := by simp; omega
        have Lb : 0 < b.length := by rw [ht.len]; exact hm
        have J := hid (joinS_r g La Lb)
        clear La Lb
        go_wp2
        go_quiet (fail)
        go_wp2
        go_quiet (fail)
        go_wp2_with (first | (refine (HF.out _ _ _).mono ?_; rintro e w' ⟨rfl, rfl⟩) | (at_builtin; refine wpList_pushI _ rfl _ _ 22 rfl w.heap.size 3 i0 Try.underlying22 hi hz0 hz1 hz2 _ _ _ rfl (own_drewN hown _) (nth b 0) rfl (by omega) (by simp; omega) ?_))
        · intro g1 cap w1 hown1 hg1 _
          have hgr := hid (below_push (below_drewN hb _) (own_drewN hown _) hg1 hbs)
          clear hg1 hb hown hs1 ht1
          go_wp2
          go_roundw
          case rel => exact ⟨_, _, _, _, _, _, _, _, _, _, rfl, rfl, hs, ht.cut (k := 1) (by omega), hown1, hgr.out, by omega, out_yes Hout.out J.out (by assumption)⟩
          case measure => simp [lenOf]; omega
        · go_roundw
          case rel => exact ⟨_, _, _, _, _, _, _, _, _, _, rfl, rfl, hs, ht.cut (k := 1) (by omega), hown, below_drewN hb _, by omega, out_no Hout.out J.out (by assumption)⟩
          case measure => simp [lenOf]; omega
      · have g2 : decide (0 < m) = false := by simp; omega
        have J := hid (joinS_nil g La (by rw [ht.len]; omega))
        clear La
        go_wp2
        obtain ⟨A1, c1, rfl, hcc⟩ := own_form hown
        go_ret
        refine ⟨A1, _, c1, rfl, ?_, hb, own_fresh hown⟩
        rw [← Hout.out, J.out, List.append_nil]
        exact RdI.of_own hown
end Go.Proofs.Ytffcaoicokookaa
