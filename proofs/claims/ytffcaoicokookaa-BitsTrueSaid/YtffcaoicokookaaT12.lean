import Derived.Test.YtffcaoicokookaaT11
namespace Go.Proofs.Ytffcaoicokookaa
open Go.RowKit
set_option linter.unusedVariables false
/-- Pairs as cells. -/
def flat : List (Int × Int) → List Value
  | [] => []
  | p :: ps => .int .i64 p.1 :: .int .i64 p.2 :: flat ps
theorem flat_len : ∀ ps, (flat ps).length = ps.length * 2
  | [] => rfl
  | p :: ps => by simp [flat, flat_len ps]; omega
theorem flat_append : ∀ ps qs, flat (ps ++ qs) = flat ps ++ flat qs
  | [], qs => rfl
  | p :: ps, qs => by simp [flat, flat_append ps qs]
theorem flat_one : ∀ ps, ∀ u ∈ flat ps, u.oneCell' = true
  | [], u, h => by simp [flat] at h
  | p :: ps, u, h => by
    simp only [flat, List.mem_cons] at h
    rcases h with rfl | rfl | h
    · rfl
    · rfl
    · exact flat_one ps u h
theorem flat_last (qs : List (Int × Int)) (a b : Int) (j : Nat) (h : qs.length = j) : (flat (qs ++ [(a, b)]))[j * 2 + 1]? = some (.int .i64 b) := by
  rw [flat_append, List.getElem?_append_right (by rw [flat_len]; omega), flat_len, h]
  simp [flat, show j * 2 + 1 - j * 2 = 1 by omega]
theorem flat_set (qs : List (Int × Int)) (a b x : Int) (j : Nat) (h : qs.length = j) : (flat (qs ++ [(a, b)])).set (j * 2 + 1) (.int .i64 x) = flat (qs ++ [(a, x)]) := by
  rw [flat_append, List.set_append_right _ _ (by rw [flat_len]; omega), flat_append, flat_len, h]
  simp [flat, show j * 2 + 1 - j * 2 = 1 by omega]
def stepR (ps : List (Int × Int)) (x : Int) : List (Int × Int) :=
  match ps.getLast? with
  | some p => if p.2 + 1 = x then ps.dropLast ++ [(p.1, x)] else ps ++ [(x, x)]
  | none => [(x, x)]
theorem stepR_nil (x : Int) : stepR [] x = [(x, x)] := rfl
theorem stepR_on (qs : List (Int × Int)) (a b x : Int) (h : b + 1 = x) : stepR (qs ++ [(a, b)]) x = qs ++ [(a, x)] := by simp [stepR, h]
theorem stepR_new (qs : List (Int × Int)) (a b x : Int) (h : ¬ b + 1 = x) : stepR (qs ++ [(a, b)]) x = qs ++ [(a, b)] ++ [(x, x)] := by simp [stepR, h]
def rgTo (l : List Int) (k : Nat) : List (Int × Int) := (l.take k).foldl stepR []
def rangesS (l : List Int) : List (Int × Int) := rgTo l l.length
theorem rgTo_succ (l : List Int) (k : Nat) (hk : k < l.length) : rgTo l (k + 1) = stepR (rgTo l k) (nth l k) := by
  unfold rgTo
  rw [List.take_succ_eq_append_getElem hk, List.foldl_append, nth_lt hk]
  rfl
theorem stepR_len (ps : List (Int × Int)) (x : Int) : (stepR ps x).length ≤ ps.length + 1 := by
  rcases List.eq_nil_or_concat ps with rfl | ⟨qs, ⟨a, b⟩, rfl⟩
  · simp [stepR]
  · rw [List.concat_eq_append]
    by_cases h : b + 1 = x
    · rw [stepR_on _ _ _ _ h]; simp
    · rw [stepR_new _ _ _ _ h]; simp
/-- The last number of the last pair is the last one that was seen. -/
theorem rgTo_last (l : List Int) : ∀ k, k < l.length → ∃ qs a, rgTo l (k + 1) = qs ++ [(a, nth l k)] := by
  intro k hk
  rw [rgTo_succ l k hk]
  rcases List.eq_nil_or_concat (rgTo l k) with h | ⟨qs, ⟨a, b⟩, h⟩
  · rw [h]; exact ⟨[], nth l k, rfl⟩
  · rw [h, List.concat_eq_append]
    by_cases e : b + 1 = nth l k
    · rw [stepR_on _ _ _ _ e]; exact ⟨qs, a, rfl⟩
    · rw [stepR_new _ _ _ _ e]; exact ⟨_, _, rfl⟩
theorem rgTo_b (l : List Int) (k : Nat) (hk : k ≤ l.length) (qs : List (Int × Int)) (a b : Int) (h : rgTo l k = qs ++ [(a, b)]) : 0 < k ∧ b = nth l (k - 1) := by
  rcases Nat.eq_zero_or_pos k with rfl | h0
  · simp [rgTo] at h
  · refine ⟨h0, ?_⟩
    obtain ⟨qs', a', h'⟩ := rgTo_last l (k - 1) (by omega)
    rw [show k - 1 + 1 = k by omega, h] at h'
    have := congrArg List.getLast? h'
    simp at this
    exact this.2
/-- A slice of pairs. -/
def RdP (w : World) (A : Option Addr) (n c : Nat) (ps : List (Int × Int)) : Prop := Rd w 2 A n c (flat ps)
theorem Try.info38 : (Try.prog.info? 38).map (fun i => (i.zero, i.size, i.bytes)) = some (some (.agg #[.int .i64 0, .int .i64 0]), 2, 16) := by kernel_rfl
def GiveP (l : List (Int × Int)) (w : World) (e : Ending) (w' : World) : Prop := ∃ A n c, e = .returned (.slice A n c) ∧ RdP w' A n c l ∧ Ext w w' ∧ Fr w.heap.size A
def GivePN (l : List (Int × Int)) (x : Int) (w : World) (e : Ending) (w' : World) : Prop := ∃ A n c, e = .returned (.tuple #[.slice A n c, .int .i64 x]) ∧ RdP w' A n c l ∧ Ext w w' ∧ Fr w.heap.size A
def Small (l : List Int) : Prop := ∀ y ∈ l, 0 ≤ y ∧ y ≤ 1000
theorem small_nth {l : List Int} (h : Small l) {k : Nat} (hk : k < l.length) : 0 ≤ nth l k ∧ nth l k ≤ 1000 := h _ (by rw [nth_lt hk]; exact List.getElem_mem _)

set_option maxRecDepth 100000 in
set_option maxHeartbeats 1000000 in
theorem ranges_any (A : Option Addr) (n c : Nat) (l : List Int) (w : World) (hs : RdI w A n c l) (hn : n ≤ 10000) (hsm : Small l) :
    Calls Try.prog 58 #[.slice A n c] w (GiveP (rangesS l) w) := by
  obtain ⟨i0, hi, hz0, hz1, hz2⟩ := info_parts Try.info38
  have Hl := hid hs.len
  have Hsm := hid hsm
  clear hsm
  go_enter Try.func58, Try.ntmps58
  go_wp2
  go_loopw [3, 9] (fun v i wr => ∃ k j : Nat, k ≤ n ∧ j ≤ k ∧ i = .int .i64 k ∧ wr.ownsRow w.heap.size 38 2 v j (flat (rgTo l k)) ∧ Below w.heap.size w wr) (fun _ i _ => n - (intOf i).toNat)
  case atStart => exact ⟨0, 0, by omega, by omega, rfl, World.ownsRow_nil _ _ _ _, Below.refl _ _⟩
  case round =>
    obtain ⟨k, j, hk, hj, rfl, hown, hb⟩ := hrel
    have hbs := hb.size
    by_cases hlt : k < n
    · have hs1 := hs.ext (w' := wr) hb
      obtain ⟨ad, rfl, hc⟩ := hs1.at_ hlt
      have hkl : k < l.length := by rw [Hl.out]; exact hlt
      have Hst := hid (rgTo_succ l k hkl)
      have hbd := small_nth Hsm.out hkl
      have jl : (rgTo l k).length = j := by have := hown.1; rw [flat_len] at this; omega
      clear hkl
      rcases Nat.eq_zero_or_pos j with h0 | h0
      · subst h0
        have hq : rgTo l k = [] := List.eq_nil_of_length_eq_zero jl
        have Hq := hid hq
        clear hq jl
        obtain ⟨A0, c0, rfl, -⟩ := own_form hown
        go_wp2_with (at_builtin; refine wpList_push _ rfl _ _ 35 rfl w.heap.size 38 i0 _ 2 16 Try.underlying35 hi hz0 hz1 hz2 rfl (by decide) _ _ _ rfl hown [.int .i64 (nth l k), .int .i64 (nth l k)] rfl rfl (by simp [Value.oneCell']) (by unfold maxLen; omega) (by omega) (by omega) ?_)
        intro g cap w1 hown1 hg1 _
        go_wp2
        go_roundw
        case rel => exact ⟨k + 1, 1, by omega, by omega, by go_num, by rw [Hst.out, Hq.out, stepR_nil]; rw [Hq.out] at hown1; exact hown1, below_push hb hown hg1 hbs⟩
        case measure => simp [intOf]; omega
      · obtain ⟨j, rfl⟩ : ∃ j', j = j' + 1 := ⟨j - 1, by omega⟩
        rcases List.eq_nil_or_concat (rgTo l k) with hq | ⟨qs, ⟨a, b⟩, hq⟩
        · rw [hq] at jl; simp at jl
        rw [List.concat_eq_append] at hq
        have ql : qs.length = j := by rw [hq] at jl; simpa using jl
        obtain ⟨g, cap, rfl, hgb, hgl⟩ := World.ownsRow.form hown (by omega)
        rw [hq] at hown Hst
        have hcell : wr.cell? ⟨g, j * 2 + 1, none⟩ = some (.int .i64 b) := by rw [World.ownsRow.cellAt hown _ (by omega)]; exact flat_last qs a b j ql
        have hfree : wr.frozen? ⟨g, j * 2 + 1, none⟩ = false := World.ownsRow.frozenAt hown _
        have hbb : 0 ≤ b ∧ b ≤ 1000 := by
          obtain ⟨k0, rfl⟩ := rgTo_b l k (by rw [Hl.out]; omega) qs a b hq
          exact small_nth Hsm.out (by rw [Hl.out]; omega)
        have Hq := hid hq
        have Ql := hid ql
        clear hq ql jl
        by_cases hx : b + 1 = nth l k
        · have e1 : (b + 1 == nth l k) = true := by simpa using hx
          have st := hid (stepR_on qs a b (nth l k) hx)
          clear hx
          have st1 := World.ownsRow.stored hown (j * 2 + 1) (.int .i64 (nth l k))
          rw [flat_set qs a b (nth l k) j Ql.out] at st1
          have St1 := hid st1.1
          have St2 := hid (below_push hb hown st1.2 hbs)
          clear st1
          go_wp2_with fail
          go_roundw
          case rel => exact ⟨k + 1, j + 1, by omega, by omega, by go_num, by rw [Hst.out, st.out]; exact St1.out, St2.out⟩
          case measure => simp [intOf]; omega
        · have e1 : (b + 1 == nth l k) = false := by simpa using hx
          have st := hid (stepR_new qs a b (nth l k) hx)
          clear hx
          go_wp2_with (at_builtin; refine wpList_push _ rfl _ _ 35 rfl w.heap.size 38 i0 _ 2 16 Try.underlying35 hi hz0 hz1 hz2 rfl (by decide) _ _ _ rfl hown [.int .i64 (nth l k), .int .i64 (nth l k)] rfl rfl (by simp [Value.oneCell']) (by unfold maxLen; omega) (by omega) (by omega) ?_)
          intro g' cap' w1 hown1 hg1 _
          go_wp2
          go_roundw
          case rel => exact ⟨k + 1, j + 1 + 1, by omega, by omega, by go_num, by rw [Hst.out, st.out, flat_append (qs ++ [(a, b)])]; exact hown1, below_push hb hown hg1 hbs⟩
          case measure => simp [intOf]; omega
    · go_wp2
      obtain ⟨A1, c1, rfl, hcc⟩ := own_form hown
      go_ret
      obtain rfl : k = n := by omega
      exact ⟨A1, _, c1, rfl, by unfold rangesS; rw [Hl.out]; exact Rd.of_own hown, hb, own_fresh hown⟩
end Go.Proofs.Ytffcaoicokookaa
