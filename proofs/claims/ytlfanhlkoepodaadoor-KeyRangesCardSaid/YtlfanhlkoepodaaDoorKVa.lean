/-
  Contracts that were proved for another law's share, for this one.
-/
import Derived.Test.YtlfanhlkoepodaaDoorProg
import Derived.Test.YtlfanhlkoepodaaDoorKVp
import Derived.ChangeKeysEq
namespace Go.Proofs.YtlfanhlkoepodaaDoor
open Go.RowKit
set_option linter.unusedVariables false
set_option linter.unusedSimpArgs false
theorem leapN_t {y : Int} (h : leapB y = true) : leapN y = 1 := by unfold leapN; rw [if_pos h]
theorem leapN_f {y : Int} (h : leapB y = false) : leapN y = 0 := by unfold leapN; rw [if_neg (by rw [h]; simp)]
/-- What is wrong with a date. -/
def dayE (y m d : Int) : Int := if 1 ≤ y ∧ y ≤ 9999 ∧ 1 ≤ m ∧ m ≤ 12 ∧ 1 ≤ d ∧ d ≤ mdS y m then 0 else 1
def dayO (y m d : Int) : Int := if 1 ≤ y ∧ y ≤ 9999 ∧ 1 ≤ m ∧ m ≤ 12 ∧ 1 ≤ d ∧ d ≤ mdS y m then dayS y m d else 0
theorem day_ok {y m d : Int} (h : okD y m d) : dayE y m d = 0 ∧ dayO y m d = dayS y m d := by unfold dayE dayO; exact ⟨if_pos h, if_pos h⟩
theorem day_no {y m d : Int} (h : ¬ okD y m d) : dayE y m d = 1 ∧ dayO y m d = 0 := by unfold dayE dayO; exact ⟨if_neg h, if_neg h⟩
def Give2 (x y : Int) (w : World) (e : Ending) (w' : World) : Prop := e = .returned (.tuple #[.int .i64 x, .int .i64 y]) ∧ Ext w w'
theorem cum_in (y : Int) (k : Nat) : 0 ≤ cumS y k ∧ cumS y k ≤ 31 * k := by
  induction k with
  | zero => simp [cumS]
  | succ k ih =>
    have := md_in y ((k : Int) + 1)
    have e : cumS y (k + 1) = cumS y k + mdS y ((k : Int) + 1) := rfl
    rw [e]
    omega
theorem yd_in {y : Int} (h1 : 1 ≤ y) (h2 : y ≤ 10000) : 0 ≤ ydS y ∧ ydS y ≤ 3652059 := by
  have b := yd_mono h1
  have c := yd_mono h2
  rw [yd_1] at b
  rw [yd_10000] at c
  omega
theorem results_tmp4 {fn : Func} {t u v x : Tmp} (h : fn.results = #[.tmp t, .tmp u, .tmp v, .tmp x]) (tmps : Array Value) (P : Program) (w : World) :
    (results fn tmps).run P w = .ok (.tuple #[tmps.getD t undef, tmps.getD u undef, tmps.getD v undef, tmps.getD x undef]) w := by
  simp [results, h]
def isDayB (n : Int) : Bool := decide (0 ≤ n) && decide (n ≤ 3652059)
theorem isDay_any (n : Int) (w : World) : Calls Tryd.prog 102 #[.int .i64 n] w fun e w' => e = .returned (.bool (isDayB n)) ∧ w = w' := by
  rcases Bool.eq_false_or_eq_true (decide (0 ≤ n)) with h1 | h1 <;> rcases Bool.eq_false_or_eq_true (decide (n ≤ 3652059)) with h2 | h2
  all_goals have Fin := hid (show isDayB n = _ by unfold isDayB; rw [h1, h2])
  all_goals go_enter Tryd.func102, Tryd.ntmps102
  all_goals go_wp2
  all_goals go_ret
  all_goals exact ⟨ret_bool (by rw [Fin.out]; rfl), rfl⟩
def Give4 (a b c d : Int) (w : World) (e : Ending) (w' : World) : Prop := e = .returned (.tuple #[.int .i64 a, .int .i64 b, .int .i64 c, .int .i64 d]) ∧ Ext w w'
/-- The date of a day that there is. -/
noncomputable def spY (n : Int) : Int := if isDayB n then (if n = 0 then 0 else (dateS n).1) else 0
noncomputable def spM (n : Int) : Int := if isDayB n then (if n = 0 then 0 else (dateS n).2.1) else 0
noncomputable def spD (n : Int) : Int := if isDayB n then (if n = 0 then 0 else (dateS n).2.2) else 0
def spE (n : Int) : Int := if isDayB n then 0 else 1
theorem sp_no {n : Int} (h : isDayB n = false) : spY n = 0 ∧ spM n = 0 ∧ spD n = 0 ∧ spE n = 1 := by unfold spY spM spD spE; rw [h]; simp
theorem sp_zero : spY 0 = 0 ∧ spM 0 = 0 ∧ spD 0 = 0 ∧ spE 0 = 0 := by unfold spY spM spD spE; simp; decide
theorem isDay_iff {n : Int} : isDayB n = true ↔ 0 ≤ n ∧ n ≤ 3652059 := by unfold isDayB; simp
theorem sp_day {y m d n : Int} (h : okD y m d) (e : dayS y m d = n) : spY n = y ∧ spM n = m ∧ spD n = d ∧ spE n = 0 := by
  have hi := day_in h
  have hb : isDayB n = true := isDay_iff.2 (by omega)
  have hd := date_eq h e
  unfold spY spM spD spE
  rw [hb, hd]
  rw [if_pos rfl, if_pos rfl, if_pos rfl, if_pos rfl, if_neg (by omega), if_neg (by omega), if_neg (by omega)]
  exact ⟨rfl, rfl, rfl, rfl⟩
theorem cum_12s (y : Int) (h : 1 ≤ y) : ydS (y + 1) = ydS y + cumS y 12 := by rw [cum_12, leap_succ y h]; omega
theorem year_of (n : Int) (h1 : 1 ≤ n) : ∀ k : Nat, n ≤ ydS ((k : Int) + 1) → ∃ y : Int, 1 ≤ y ∧ y ≤ k ∧ ydS y < n ∧ n ≤ ydS (y + 1)
  | 0, h => by
    have := yd_1
    rw [show ((0 : Nat) : Int) + 1 = 1 from rfl, this] at h
    omega
  | k + 1, h => by
    by_cases hk : n ≤ ydS ((k : Int) + 1)
    · obtain ⟨y, a, b, c, d⟩ := year_of n h1 k hk
      exact ⟨y, a, by omega, c, d⟩
    · refine ⟨(k : Int) + 1, by omega, by omega, by omega, ?_⟩
      exact h
theorem month_of (y r : Int) (h1 : 1 ≤ r) : ∀ k : Nat, r ≤ cumS y k → ∃ j : Nat, j < k ∧ cumS y j < r ∧ r ≤ cumS y (j + 1)
  | 0, h => by
    have : cumS y 0 = 0 := rfl
    omega
  | k + 1, h => by
    by_cases hk : r ≤ cumS y k
    · obtain ⟨j, a, b, c⟩ := month_of y r h1 k hk
      exact ⟨j, by omega, b, c⟩
    · exact ⟨k, by omega, by omega, h⟩
theorem date_of {n : Int} (h1 : 1 ≤ n) (h2 : n ≤ 3652059) : ∃ y m d, okD y m d ∧ dayS y m d = n := by
  obtain ⟨y, a, b, c, d⟩ := year_of n h1 9999 (by have := yd_10000; rw [show ((9999 : Nat) : Int) + 1 = 10000 from rfl, this]; exact h2)
  rw [cum_12s y a] at d
  obtain ⟨j, e, f, g⟩ := month_of y (n - ydS y) (by omega) 12 (by omega)
  have hc : cumS y (j + 1) = cumS y j + mdS y ((j : Int) + 1) := rfl
  refine ⟨y, (j : Int) + 1, n - ydS y - cumS y j, ⟨a, by omega, by omega, by omega, by omega, by omega⟩, ?_⟩
  unfold dayS
  rw [show ((j : Int) + 1 - 1).toNat = j by omega]
  omega
theorem sp_ok {n : Int} (h : isDayB n = true) (h0 : n ≠ 0) : okD (spY n) (spM n) (spD n) ∧ dayS (spY n) (spM n) (spD n) = n ∧ spE n = 0 := by
  have hn := isDay_iff.1 h
  obtain ⟨y, m, d, hk, he⟩ := date_of (n := n) (by omega) hn.2
  obtain ⟨a, b, c, e⟩ := sp_day hk he
  rw [a, b, c]
  exact ⟨hk, he, e⟩
noncomputable def mthK (day n : Int) : Int := 12 * spY day + spM day - 1 + n
noncomputable def mthO (day n : Int) : Int :=
  if isDayB day = false ∨ day = 0 then 0 else if n < -200000 ∨ 200000 < n then 0 else if mthK day n < 12 ∨ 9999 < mthK day n / 12 then 0
  else dayO (mthK day n / 12) (mthK day n % 12 + 1) (min (spD day) (mdS (mthK day n / 12) (mthK day n % 12 + 1)))
noncomputable def mthE (day n : Int) : Int :=
  if isDayB day = false then 1 else if day = 0 then 0 else if n < -200000 ∨ 200000 < n then 1 else if mthK day n < 12 ∨ 9999 < mthK day n / 12 then 1
  else dayE (mthK day n / 12) (mthK day n % 12 + 1) (min (spD day) (mdS (mthK day n / 12) (mthK day n % 12 + 1)))
/-- A value. -/
def vV (k n : Int) (s : ByteArray) : Value := .agg #[.int .i64 k, .int .i64 n, .string s]
def vR (k n : Int) (s : ByteArray) (why : Int) : Value := .agg #[.int .i64 k, .int .i64 n, .string s, .int .i64 why]
def isNumB (n : Int) : Bool := decide (-1000000000000000 ≤ n) && decide (n ≤ 1000000000000000)
theorem isNum_iff {n : Int} : isNumB n = true ↔ -1000000000000000 ≤ n ∧ n ≤ 1000000000000000 := by unfold isNumB; simp
theorem isNum_any (n : Int) (w : World) : Calls Tryd.prog 101 #[.int .i64 n] w fun e w' => e = .returned (.bool (isNumB n)) ∧ w = w' := by
  rcases Bool.eq_false_or_eq_true (decide (-1000000000000000 ≤ n)) with h1 | h1 <;> rcases Bool.eq_false_or_eq_true (decide (n ≤ 1000000000000000)) with h2 | h2
  all_goals have Fin := hid (show isNumB n = _ by unfold isNumB; rw [h1, h2])
  all_goals go_enter Tryd.func101, Tryd.ntmps101
  all_goals go_wp2
  all_goals go_ret
  all_goals exact ⟨ret_bool (by rw [Fin.out]; rfl), rfl⟩
def isV (k n : Int) (s : ByteArray) : Bool :=
  if k = 4 then decide (n = 0) else if s.size ≠ 0 then false else
  if k = 0 then decide (n = 0) else if k = 1 then decide (n = 0 ∨ n = 1) else if k = 2 then isNumB n else if k = 3 then isDayB n else false
theorem empty_iff (s : ByteArray) : s.toList.isEmpty = decide (s.size = 0) := by
  rw [← len_toList]
  cases s.toList <;> simp
set_option maxRecDepth 100000 in
set_option maxHeartbeats 4000000 in
theorem isValue_any (k n : Int) (s : ByteArray) (w : World) : Calls Tryd.prog 92 #[vV k n s] w (Give (.bool (isV k n s)) w) := by
  unfold vV
  by_cases k4 : k = 4
  · subst k4
    by_cases n0 : n = 0
    · subst n0
      have Fin : Hid (isV 4 0 s = true) := by unfold Hid isV; simp
      go_enter Tryd.func92, Tryd.ntmps92
      go_wp2
      go_ret
      exact ⟨ret_bool Fin.out.symm, (Ext.refl w).alloc_right _⟩
    · have d : (n != 0) = true := by simpa using n0
      have Fin : Hid (isV 4 n s = false) := by unfold Hid isV; simp [n0]
      clear n0
      go_enter Tryd.func92, Tryd.ntmps92
      go_wp2
      go_ret
      exact ⟨ret_bool Fin.out.symm, (Ext.refl w).alloc_right _⟩
  · have d4 : (k != 4) = true := by simpa using k4
    have e4 : (k == 4) = false := by simpa using k4
    rcases Bool.eq_false_or_eq_true (s.toList.isEmpty) with hs | hs
    · have hz : s.size = 0 := by have := empty_iff s; rw [hs] at this; simpa using this.symm
      have hv : Hid (isV k n s = if k = 0 then decide (n = 0) else if k = 1 then decide (n = 0 ∨ n = 1) else if k = 2 then isNumB n else if k = 3 then isDayB n else false) := by unfold Hid isV; rw [if_neg k4, if_neg (by simpa using hz)]
      have hs1 : s.toList = [] := by simpa using hs
      have hs2 : (!s.toList.isEmpty) = false := by rw [hs]; rfl
      clear hz k4
      by_cases k0 : k = 0
      · subst k0
        have Fin : Hid (isV 0 n s = (n == 0)) := by unfold Hid; rw [hv.out]; rfl
        go_enter Tryd.func92, Tryd.ntmps92
        go_wp2
        go_ret
        exact ⟨ret_bool Fin.out.symm, (Ext.refl w).alloc_right _⟩
      · have d0 : (k == 0) = false := by simpa using k0
        by_cases k1 : k = 1
        · subst k1
          rcases Bool.eq_false_or_eq_true (n == 0) with n0 | n0 <;> rcases Bool.eq_false_or_eq_true (n == 1) with n1 | n1
          all_goals have Fin := hid (show isV 1 n s = (n == 0 || n == 1) by rw [hv.out]; simp; rcases Decidable.em (n = 0) with h | h <;> rcases Decidable.em (n = 1) with h' | h' <;> simp [h, h'])
          all_goals go_enter Tryd.func92, Tryd.ntmps92
          all_goals go_wp2
          all_goals go_ret
          all_goals exact ⟨ret_bool (by rw [Fin.out, n0, n1]; rfl), (Ext.refl w).alloc_right _⟩
        · have d1 : (k == 1) = false := by simpa using k1
          by_cases k2 : k = 2
          · subst k2
            have Fin : Hid (isV 2 n s = isNumB n) := by unfold Hid; rw [hv.out]; rfl
            go_enter Tryd.func92, Tryd.ntmps92
            go_wp2_with fail
            refine (isNum_any _ _).mono ?_
            rintro e w' ⟨rfl, rfl⟩
            go_wp2
            go_ret
            exact ⟨ret_bool Fin.out.symm, (Ext.refl w).alloc_right _⟩
          · have d2 : (k == 2) = false := by simpa using k2
            by_cases k3 : k = 3
            · subst k3
              have Fin : Hid (isV 3 n s = isDayB n) := by unfold Hid; rw [hv.out]; rfl
              go_enter Tryd.func92, Tryd.ntmps92
              go_wp2_with fail
              refine (isDay_any _ _).mono ?_
              rintro e w' ⟨rfl, rfl⟩
              go_wp2
              go_ret
              exact ⟨ret_bool Fin.out.symm, (Ext.refl w).alloc_right _⟩
            · have d3 : (k == 3) = false := by simpa using k3
              have Fin : Hid (isV k n s = false) := by unfold Hid; rw [hv.out, if_neg k0, if_neg k1, if_neg k2, if_neg k3]
              clear k0 k1 k2 k3
              go_enter Tryd.func92, Tryd.ntmps92
              go_wp2
              go_ret
              exact ⟨ret_bool Fin.out.symm, (Ext.refl w).alloc_right _⟩
    · have hz : s.size ≠ 0 := by have := empty_iff s; rw [hs] at this; simpa using this.symm
      have hs2 : (!s.toList.isEmpty) = true := by rw [hs]; rfl
      have Fin : Hid (isV k n s = false) := by unfold Hid isV; rw [if_neg k4, if_pos hz]
      clear hz k4
      go_enter Tryd.func92, Tryd.ntmps92
      go_wp2
      go_ret
      exact ⟨ret_bool Fin.out.symm, (Ext.refl w).alloc_right _⟩
def valE (k n : Int) (s : ByteArray) : Int := if 2048 < s.size then 3 else if isV k n s then 0 else 1
set_option maxRecDepth 100000 in
set_option maxHeartbeats 2000000 in
theorem Validate_any (k n : Int) (s : ByteArray) (w : World) : Calls Tryd.prog 72 #[vV k n s] w (Give (.int .i64 (valE k n s)) w) := by
  unfold vV
  by_cases hb : 2048 < s.size
  · have e1 : decide ((2048 : Int) < (s.size : Int)) = true := by simp; omega
    have Fin : Hid (valE k n s = 3) := by unfold Hid valE; rw [if_pos hb]
    clear hb
    go_enter Tryd.func72, Tryd.ntmps72
    go_wp2
    go_ret
    exact ⟨ret_int Fin.out.symm, (Ext.refl w).alloc_right _⟩
  · have e1 : decide ((2048 : Int) < (s.size : Int)) = false := by simp; omega
    rcases Bool.eq_false_or_eq_true (isV k n s) with hv | hv
    · have Fin : Hid (valE k n s = 0) := by unfold Hid valE; rw [if_neg hb, if_pos hv]
      clear hb
      go_enter Tryd.func72, Tryd.ntmps72
      go_wp2_with fail
      refine (isValue_any k n s _).mono ?_
      rintro e w1 ⟨rfl, hx⟩
      go_wp2
      go_ret
      exact ⟨ret_int Fin.out.symm, ((Ext.refl w).alloc_right _).trans hx⟩
    · have Fin : Hid (valE k n s = 1) := by unfold Hid valE; rw [if_neg hb, if_neg (by rw [hv]; simp)]
      clear hb
      go_enter Tryd.func72, Tryd.ntmps72
      go_wp2_with fail
      refine (isValue_any k n s _).mono ?_
      rintro e w1 ⟨rfl, hx⟩
      go_wp2
      go_ret
      exact ⟨ret_int Fin.out.symm, ((Ext.refl w).alloc_right _).trans hx⟩
def bothE (k n : Int) (s : ByteArray) (k' n' : Int) (s' : ByteArray) : Int := if valE k n s ≠ 0 then valE k n s else valE k' n' s'
theorem There.newb (w : World) (cs : Array Value) (t : TypeId) {n b : Nat} (hb : w.heap.size = b) (hn : n ≤ cs.size) : There (w.alloc (.cells cs t)) b n := hb ▸ There.new w cs t hn
theorem set_get {w : World} {p : Addr} {v : Value} {u : Value} (h : w.cell? p = some u) : (w.setCell p v).cell? p = some v := World.cell?_setCell_same _ _ _ h
theorem set_keep {w : World} {p q : Addr} {v u : Value} (h : w.cell? q = some u) (hne : p ≠ q) : (w.setCell p v).cell? q = some u := by rw [World.cell?_setCell_other _ _ _ _ hne]; exact h
theorem off_ne {b i j : Nat} (h : i ≠ j) : (⟨b, i, none⟩ : Addr) ≠ ⟨b, j, none⟩ := fun e => h (by injection e)
theorem put4 {w : World} {b : Nat} (t : There w b 4) (v0 v1 v2 v3 : Value) :
    ((((w.setCell ⟨b, 0, none⟩ v0).setCell ⟨b, 1, none⟩ v1).setCell ⟨b, 2, none⟩ v2).setCell ⟨b, 3, none⟩ v3).cell? ⟨b, 0, none⟩ = some v0 ∧
    ((((w.setCell ⟨b, 0, none⟩ v0).setCell ⟨b, 1, none⟩ v1).setCell ⟨b, 2, none⟩ v2).setCell ⟨b, 3, none⟩ v3).cell? ⟨b, 1, none⟩ = some v1 ∧
    ((((w.setCell ⟨b, 0, none⟩ v0).setCell ⟨b, 1, none⟩ v1).setCell ⟨b, 2, none⟩ v2).setCell ⟨b, 3, none⟩ v3).cell? ⟨b, 2, none⟩ = some v2 ∧
    ((((w.setCell ⟨b, 0, none⟩ v0).setCell ⟨b, 1, none⟩ v1).setCell ⟨b, 2, none⟩ v2).setCell ⟨b, 3, none⟩ v3).cell? ⟨b, 3, none⟩ = some v3 :=
  ⟨set_keep (set_keep (set_keep (set_get (t.cell (o := 0) (by omega))) (off_ne (by decide))) (off_ne (by decide))) (off_ne (by decide)),
   set_keep (set_keep (set_get ((t.set _ _).cell (o := 1) (by omega))) (off_ne (by decide))) (off_ne (by decide)),
   set_keep (set_get (((t.set _ _).set _ _).cell (o := 2) (by omega))) (off_ne (by decide)),
   set_get ((((t.set _ _).set _ _).set _ _).cell (o := 3) (by omega))⟩
theorem put3 {w : World} {b : Nat} (t : There w b 3) (v0 v1 v2 : Value) :
    (((w.setCell ⟨b, 0, none⟩ v0).setCell ⟨b, 1, none⟩ v1).setCell ⟨b, 2, none⟩ v2).cell? ⟨b, 0, none⟩ = some v0 ∧
    (((w.setCell ⟨b, 0, none⟩ v0).setCell ⟨b, 1, none⟩ v1).setCell ⟨b, 2, none⟩ v2).cell? ⟨b, 1, none⟩ = some v1 ∧
    (((w.setCell ⟨b, 0, none⟩ v0).setCell ⟨b, 1, none⟩ v1).setCell ⟨b, 2, none⟩ v2).cell? ⟨b, 2, none⟩ = some v2 :=
  ⟨set_keep (set_keep (set_get (t.cell (o := 0) (by omega))) (off_ne (by decide))) (off_ne (by decide)),
   set_keep (set_get ((t.set _ _).cell (o := 1) (by omega))) (off_ne (by decide)),
   set_get (((t.set _ _).set _ _).cell (o := 2) (by omega))⟩
theorem cell_alloc {w : World} {a : Addr} {v : Value} (h : w.cell? a = some v) (o : Obj) : (w.alloc o).cell? a = some v := (Ext.refl w).alloc_right o |>.cell h
abbrev Res := Int × Int × ByteArray × Int
/-- A result as a value. -/
def rV (r : Res) : Value := .agg #[.int .i64 r.1, .int .i64 r.2.1, .string r.2.2.1, .int .i64 r.2.2.2]
def diedR (why : Int) : Res := (0, 0, ByteArray.empty, why)
def dayR (a b : Int) : Res := if a = 0 then (3, 0, ByteArray.empty, 0) else if a + b < 1 ∨ 3652059 < a + b then diedR 3 else (3, a + b, ByteArray.empty, 0)
def textR (s : ByteArray) : Res := if 2048 < s.size then diedR 3 else (4, 0, s, 0)
theorem Text_any (s : ByteArray) (w : World) : Calls Tryd.prog 31 #[.string s] w (Give (vV 4 0 s) w) := by
  go_enter Tryd.func31, Tryd.ntmps31
  go_wp2
  exact bodyPost_ret (v := .agg #[.int .i64 4, .int .i64 0, .string s]) (by simp [results, Tryd.results31, go_sem]) rfl ⟨rfl, (Ext.refl w).alloc_right _⟩
def sizeOf' : Value → Nat | .string s => s.size | _ => 0
set_option maxRecDepth 100000 in
set_option maxHeartbeats 1000000 in
theorem trimRB_any (s : ByteArray) (c : Int) (hs : s.size ≤ maxLen) (w : World) : Calls Tryd.prog 116 #[.string s, .int .u8 c] w fun e w' => e = .returned (.string (trimR s c)) ∧ w = w' := by
  unfold maxLen at hs
  go_enter Tryd.func116, Tryd.ntmps116
  go_wp2_with fail
  go_loopw [0] (fun v wr => (∃ t : ByteArray, t.size ≤ s.size ∧ v = .string t ∧ Hid (trimR t c = trimR s c)) ∧ wr = w) (fun v _ => sizeOf' v)
  case atStart => exact ⟨⟨s, by omega, rfl, rfl⟩, rfl⟩
  case round =>
    obtain ⟨⟨t, ht, rfl, hid1⟩, rfl⟩ := hrel
    by_cases h0 : t.size = 0
    · have hz : Hid (t = trimR s c) := by unfold Hid; rw [← hid1.out, trim_none t c h0]
      have d0 : decide ((0 : Int) < (t.size : Int)) = false := by rw [h0]; decide
      go_wp2
      go_ret
      exact ⟨by rw [← hz.out]; rfl, rfl⟩
    · obtain ⟨j, hj⟩ : ∃ j, t.size = j + 1 := ⟨t.size - 1, by omega⟩
      have hb := byte_at t (k := j) (by omega)
      have htl := hid (trim_last t c hj)
      have hj2 : j + 1 ≤ 9223372036854775807 := by omega
      have ej : ((j + 1 : Nat) : Int) - 1 = (j : Int) := by omega
      have ew : IntKind.i64.wrap (((j + 1 : Nat) : Int) - 1) = (j : Int) := by rw [ej]; exact IntWalk.i64_in _ (by omega)
      have d0 : decide ((0 : Int) < ((j + 1 : Nat) : Int)) = true := by simp
      rcases Bool.eq_false_or_eq_true (((t[j]'(by omega)).toNat : Int) == c) with q | q
      · have hn : Hid (trimR (t.extract 0 j) c = trimR s c) := by
          unfold Hid
          rw [← hid1.out]
          exact htl.out.1 (by rw [← hb]; simpa using q)
        have hsz : (t.extract 0 j).size = j := by rw [ByteArray.size_extract]; omega
        have hsz := hid hsz
        clear hb
        go_wp2
        go_roundw
        case rel => exact ⟨⟨t.extract 0 j, by rw [hsz.out]; omega, rfl, hn⟩, by trivial⟩
        case measure => simp only [sizeOf']; rw [hsz.out]; omega
      · have hn : Hid (t = trimR s c) := by
          unfold Hid
          rw [← hid1.out]
          exact (htl.out.2 (by rw [← hb]; simpa using q)).symm
        clear hb
        go_wp2
        go_ret
        exact ⟨by rw [← hn.out]; rfl, rfl⟩
set_option maxRecDepth 100000 in
set_option maxHeartbeats 1000000 in
theorem TrimRight_any (s : ByteArray) (hs : s.size ≤ maxLen) (w : World) : Calls Tryd.prog 104 #[.string s, .string { data := #[32] }] w fun e w' => e = .returned (.string (trimR s 32)) ∧ w = w' := by
  rcases Bool.eq_false_or_eq_true (s.toList.isEmpty) with hz | hz
  · have h0 : s.size = 0 := by have := empty_iff s; rw [hz] at this; simpa using this.symm
    have Fin := hid (trim_none s 32 h0)
    have hs1 : s.toList = [] := by simpa using hz
    clear h0 hs
    go_enter Tryd.func104, Tryd.ntmps104
    go_wp2
    go_ret
    exact ⟨by rw [Fin.out]; rfl, rfl⟩
  · go_enter Tryd.func104, Tryd.ntmps104
    go_wp2_with fail
    refine (trimRB_any s 32 hs _).mono ?_
    rintro e w' ⟨rfl, rfl⟩
    go_wp2
    go_ret
    exact ⟨rfl, rfl⟩
def sizeN (n : Int) : Int := max n (-n)
theorem mul_small {a b : Int} (h : ¬ 1000000000000000 / sizeN b < sizeN a) (hb : b ≠ 0) : -1000000000000000 ≤ a * b ∧ a * b ≤ 1000000000000000 := by
  have hsb : 0 < sizeN b := by unfold sizeN; omega
  have h1 : sizeN a ≤ 1000000000000000 / sizeN b := by omega
  have h2 : sizeN a * sizeN b ≤ 1000000000000000 := Int.le_trans (Int.mul_le_mul_of_nonneg_right h1 (by omega)) (Int.ediv_mul_le _ (by omega))
  have ea : sizeN a = a ∨ sizeN a = -a := by unfold sizeN; omega
  have eb : sizeN b = b ∨ sizeN b = -b := by unfold sizeN; omega
  have hp : 0 ≤ sizeN a * sizeN b := Int.mul_nonneg (by unfold sizeN; omega) (by omega)
  rcases ea with e | e <;> rcases eb with e' | e' <;> rw [e, e'] at h2 hp <;> (try simp only [Int.mul_neg, Int.neg_mul, Int.neg_neg] at h2 hp) <;> omega
theorem div_in {a b : Int} (ha : -1000000000000000 ≤ a ∧ a ≤ 1000000000000000) (hb : b ≠ 0) : -1000000000000000 ≤ a.tdiv b ∧ a.tdiv b ≤ 1000000000000000 := by
  have h : (a.tdiv b).natAbs ≤ a.natAbs := Int.natAbs_tdiv_le_natAbs a b
  omega
theorem mod_in {a b : Int} (ha : -1000000000000000 ≤ a ∧ a ≤ 1000000000000000) (hb : b ≠ 0) : -1000000000000000 ≤ a.tmod b ∧ a.tmod b ≤ 1000000000000000 := by
  have h : (a.tmod b).natAbs = a.natAbs % b.natAbs := Int.natAbs_tmod a b
  have := Nat.mod_le a.natAbs b.natAbs
  omega
theorem pair_under : Tryd.prog.underlying 79 = some (.array 2 3) := by kernel_rfl
theorem pair_guard : Tryd.prog.eqGuardType Tryd.prog.depth 79 = false := by kernel_rfl
theorem pair_info : (Tryd.prog.info? 3).map (fun i => i.size) = some 1 := by kernel_rfl
theorem pair_int : Tryd.prog.underlying 3 = some (.int .i64) := by kernel_rfl
theorem pair_cells : Tryd.prog.cellsOf 3 = 1 := by kernel_rfl
theorem pair_eq (w : World) (d : Nat) (a b c e : Int) : (Op.equalIn (d + 2) 79 (.agg #[.int .i64 a, .int .i64 b]) (.agg #[.int .i64 c, .int .i64 e])).run Tryd.prog w = .ok (a == c && b == e) w := by
  obtain ⟨i, hi, -⟩ := Option.map_eq_some_iff.1 pair_info
  rw [run_equalIn_array w (d + 1) _ _ pair_under hi, pair_cells]
  have p1 : ∀ (x y : Int) (w : World), (part 3 #[.int .i64 x, .int .i64 y] (0 * 1)).run Tryd.prog w = .ok (.int .i64 x) w := by intro x y w; go_simp
  have p2 : ∀ (x y : Int) (w : World), (part 3 #[.int .i64 x, .int .i64 y] (1 * 1)).run Tryd.prog w = .ok (.int .i64 y) w := by intro x y w; go_simp
  have q1 : ∀ (x y : Int) (w : World), (Op.equalIn (d + 1) 3 (.int .i64 x) (.int .i64 y)).run Tryd.prog w = .ok (x == y) w := fun x y w => run_equalIn_int w d 3 .i64 .i64 x y pair_int
  simp only [show List.range 2 = [0, 1] from rfl, Op.eqItems, Sem.run_bind, p1, p2, Result.andThen_ok, q1]
  by_cases h1 : a == c <;> by_cases h2 : b == e <;> simp_all
end Go.Proofs.YtlfanhlkoepodaaDoor
