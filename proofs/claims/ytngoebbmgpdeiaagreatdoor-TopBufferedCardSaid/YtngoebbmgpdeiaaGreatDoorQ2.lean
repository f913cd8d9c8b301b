/-
  Contracts that were proved for another law's share, for this one; DERIVED: THE SHELF's CONTRACTS AT THIS DUMP, IN PLAIN WORDS (tools/lay-plain.mjs out of 'YtngoebbmgpdeiaaGreatDoorSh.lean', which tools/lay-shelf.mjs wrote): THE SAME DECLARATIONS UNDER THE SAME NAMES: 'import', 'namespace', 'open', 'def', 'theorem' AND NOTHING ELSE: no command of the shelf's: FOR A HAND-IN. Each laying: the table of numbers ('.._ren') and one theorem, a field a fact of the dump's own or the kernel's comparison; each contract: ONE APPLICATION; Numbers and days in columns: what was proved of them for other seats, turned to this one; Small functions of tables: pages, the place of a field, bytes of the null flags, the length of a record; append, at the types that this claim needs.
-/
import Derived.Test.YtngoebbmgpdeiaaGreatDoorQ1
import Derived.Maps.AppendAt
import Derived.Lib.Strings
import Derived.Lib.ReplaceLaws
import Derived.Test.YtngoebbmgpdeiaaGreatDoorProg
import Derived.ChangeKeysEq
import Derived.Shelf.Strings.Trim
import Derived.Shelf.Strings.SlTrimAscii
import Derived.Shelf.Strings.BuilderK
import Derived.Shelf.Strings.Prefix
import Derived.Shelf.Strings.Repeat
import Derived.Deep.RegionHeld3
set_option maxRecDepth 100000
set_option maxHeartbeats 40000000
set_option linter.unusedVariables false
set_option linter.unusedSimpArgs false
namespace Go.Proofs.YtngoebbmgpdeiaaGreatDoor
open Go.RowKit Go.Shelf
theorem app_at {P : Program} (w : World) (lo : Nat) (t ty e : TypeId) (i : TypeInfo) (z : Value) (size bytes : Nat) (ht : P.underlying t = some (.slice e)) (hi : P.info? e = some i) (hz : i.zero = some z)
    (hsize : i.size = size) (hby : i.bytes = bytes) (hzs : z.cells.size = size) (hsz : 0 < size) (v : Value) (n : Nat) (xs : List Value) (hown : w.ownsRow lo e size v n xs)
    (A : Option Addr) (m c : Nat) (es : List Value) (hr : Rd w size A m c es) (h1 : ∀ u ∈ es, u.oneCell' = true) (hlo : lo ≤ w.heap.size) (h63 : n + m ≤ maxLen) (hbytes : (n + m) * bytes ≤ 140737488355328) :
    ∃ A' c' w', (Builtin.append_ #[t, t] ty #[v, .slice A m c]).run P w = .ok (.slice A' (n + m) c') w' ∧ w'.ownsRow lo e size (.slice A' (n + m) c') (n + m) (xs ++ es) ∧ w.grownBy w' v.ownBlock ∧ ((Value.slice A' (n + m) c').ownBlock = v.ownBlock ∨ ∀ k, (Value.slice A' (n + m) c').ownBlock = some k → w.heap.size ≤ k) := by
  have fin : ∀ v' w', (Builtin.append_ #[t, t] ty #[v, .slice A m c]).run P w = .ok v' w' → w'.ownsRow lo e size v' (n + m) (xs ++ es) → w.grownBy w' v.ownBlock → (v'.ownBlock = v.ownBlock ∨ ∀ k, v'.ownBlock = some k → w.heap.size ≤ k) →
      ∃ A' c' w', (Builtin.append_ #[t, t] ty #[v, .slice A m c]).run P w = .ok (.slice A' (n + m) c') w' ∧ w'.ownsRow lo e size (.slice A' (n + m) c') (n + m) (xs ++ es) ∧ w.grownBy w' v.ownBlock ∧ ((Value.slice A' (n + m) c').ownBlock = v.ownBlock ∨ ∀ k, (Value.slice A' (n + m) c').ownBlock = some k → w.heap.size ≤ k) := fun v' w' a b c d => by
    obtain ⟨A', c', rfl, -⟩ := own_form b
    exact ⟨A', c', w', a, b, c, d⟩
  rcases A with _ | ad
  · have hm : m = 0 := by
      rcases Nat.eq_zero_or_pos m with h0 | h0
      · exact h0
      · obtain ⟨ad, h, _⟩ := hr.2.2.2 h0
        cases h
    subst hm
    have hn : es = [] := List.eq_nil_of_length_eq_zero (by simpa using hr.1)
    subst hn
    exact fin v w (run_append_nilsrc (P := P) w lo t ty e i size ht hi v n xs hown c) (by simpa using hown) (World.grownBy.refl w _) (.inl rfl)
  · have hcells : ∀ j u, es[j]? = some u → w.cell? (ad.add j) = some u := fun j u hu => by
      rcases Nat.eq_zero_or_pos m with h0 | h0
      · subst h0
        have hn : es = [] := List.eq_nil_of_length_eq_zero (by simpa using hr.1)
        subst hn
        simp at hu
      · obtain ⟨ad', e', hc⟩ := hr.2.2.2 h0
        injection e' with e'
        subst e'
        exact hc j u hu
    obtain ⟨v', w', hr', h2, h3, _, h5⟩ := run_append_own_at (P := P) w lo t ty e i z size bytes ht hi hz hsize hby hzs hsz v n xs hown ad m c es hr.1 hcells h1 h63 hbytes hlo
    refine fin v' w' hr' h2 h3 ?_
    rcases h5 with h5 | h5
    · exact .inl h5
    · exact .inr (fun k hk => by rw [h5] at hk; injection hk with hk; omega)
theorem app27 (w : World) (lo : Nat) (ty : TypeId) (v : Value) (n : Nat) (xs : List Value) (hown : w.ownsRow lo 66 3 v n xs) (A : Option Addr) (m c : Nat) (es : List Value) (hr : Rd w 3 A m c es) (h1 : ∀ u ∈ es, u.oneCell' = true) (hlo : lo ≤ w.heap.size) (hn : n + m ≤ 1000000000000) :
    ∃ A' c' w', (Builtin.append_ #[27, 27] ty #[v, .slice A m c]).run Tryz.prog w = .ok (.slice A' (n + m) c') w' ∧ w'.ownsRow lo 66 3 (.slice A' (n + m) c') (n + m) (xs ++ es) ∧ w.grownBy w' v.ownBlock ∧ ((Value.slice A' (n + m) c').ownBlock = v.ownBlock ∨ ∀ k, (Value.slice A' (n + m) c').ownBlock = some k → w.heap.size ≤ k) := by
  obtain ⟨i0, hi0, hz0, hz1, hz2⟩ := info_parts info66
  exact app_at w lo 27 ty 66 i0 _ 3 32 Tryz.underlying27 hi0 hz0 hz1 hz2 rfl (by decide) v n xs hown A m c es hr h1 hlo (by unfold maxLen; omega) (by omega)
theorem app23 (w : World) (lo : Nat) (ty : TypeId) (v : Value) (n : Nat) (xs : List Value) (hown : w.ownsRow lo 69 2 v n xs) (A : Option Addr) (m c : Nat) (es : List Value) (hr : Rd w 2 A m c es) (h1 : ∀ u ∈ es, u.oneCell' = true) (hlo : lo ≤ w.heap.size) (hn : n + m ≤ 1000000000000) :
    ∃ A' c' w', (Builtin.append_ #[23, 23] ty #[v, .slice A m c]).run Tryz.prog w = .ok (.slice A' (n + m) c') w' ∧ w'.ownsRow lo 69 2 (.slice A' (n + m) c') (n + m) (xs ++ es) ∧ w.grownBy w' v.ownBlock ∧ ((Value.slice A' (n + m) c').ownBlock = v.ownBlock ∨ ∀ k, (Value.slice A' (n + m) c').ownBlock = some k → w.heap.size ≤ k) := by
  obtain ⟨i0, hi0, hz0, hz1, hz2⟩ := info_parts info69
  exact app_at w lo 23 ty 69 i0 _ 2 32 Tryz.underlying23 hi0 hz0 hz1 hz2 rfl (by decide) v n xs hown A m c es hr h1 hlo (by unfold maxLen; omega) (by omega)
theorem info3 : (Tryz.prog.info? 3).map (fun i => (i.zero, i.size, i.bytes)) = some (some (.int .i64 0), 1, 8) := by kernel_rfl
theorem app51 (w : World) (lo : Nat) (ty : TypeId) (v : Value) (n : Nat) (xs : List Value) (hown : w.ownsRow lo 3 1 v n xs) (A : Option Addr) (m c : Nat) (es : List Value) (hr : Rd w 1 A m c es) (h1 : ∀ u ∈ es, u.oneCell' = true) (hlo : lo ≤ w.heap.size) (hn : n + m ≤ 1000000000000) :
    ∃ A' c' w', (Builtin.append_ #[51, 51] ty #[v, .slice A m c]).run Tryz.prog w = .ok (.slice A' (n + m) c') w' ∧ w'.ownsRow lo 3 1 (.slice A' (n + m) c') (n + m) (xs ++ es) ∧ w.grownBy w' v.ownBlock ∧ ((Value.slice A' (n + m) c').ownBlock = v.ownBlock ∨ ∀ k, (Value.slice A' (n + m) c').ownBlock = some k → w.heap.size ≤ k) := by
  obtain ⟨i0, hi0, hz0, hz1, hz2⟩ := info_parts info3
  exact app_at w lo 51 ty 3 i0 _ 1 8 Tryz.underlying51 hi0 hz0 hz1 hz2 rfl (by decide) v n xs hown A m c es hr h1 hlo (by unfold maxLen; omega) (by omega)
theorem app94 (w : World) (lo : Nat) (ty : TypeId) (v : Value) (n : Nat) (xs : List Value) (hown : w.ownsRow lo 5 1 v n xs) (A : Option Addr) (m c : Nat) (es : List Value) (hr : Rd w 1 A m c es) (h1 : ∀ u ∈ es, u.oneCell' = true) (hlo : lo ≤ w.heap.size) (hn : n + m ≤ 1000000000000) :
    ∃ A' c' w', (Builtin.append_ #[94, 94] ty #[v, .slice A m c]).run Tryz.prog w = .ok (.slice A' (n + m) c') w' ∧ w'.ownsRow lo 5 1 (.slice A' (n + m) c') (n + m) (xs ++ es) ∧ w.grownBy w' v.ownBlock ∧ ((Value.slice A' (n + m) c').ownBlock = v.ownBlock ∨ ∀ k, (Value.slice A' (n + m) c').ownBlock = some k → w.heap.size ≤ k) := by
  obtain ⟨i0, hi0, hz0, hz1, hz2⟩ := info_parts info5
  exact app_at w lo 94 ty 5 i0 _ 1 1 Tryz.underlying94 hi0 hz0 hz1 hz2 rfl (by decide) v n xs hown A m c es hr h1 hlo (by unfold maxLen; omega) (by omega)
theorem info25 : (Tryz.prog.info? 25).map (fun i => (i.zero, i.size, i.bytes)) = some (some (.agg #[.int .i64 0, .slice none 0 0, .slice none 0 0]), 3, 56) := by kernel_rfl
theorem app105 (w : World) (lo : Nat) (ty : TypeId) (v : Value) (n : Nat) (xs : List Value) (hown : w.ownsRow lo 25 3 v n xs) (A : Option Addr) (m c : Nat) (es : List Value) (hr : Rd w 3 A m c es) (h1 : ∀ u ∈ es, u.oneCell' = true) (hlo : lo ≤ w.heap.size) (hn : n + m ≤ 1000000000000) :
    ∃ A' c' w', (Builtin.append_ #[105, 105] ty #[v, .slice A m c]).run Tryz.prog w = .ok (.slice A' (n + m) c') w' ∧ w'.ownsRow lo 25 3 (.slice A' (n + m) c') (n + m) (xs ++ es) ∧ w.grownBy w' v.ownBlock ∧ ((Value.slice A' (n + m) c').ownBlock = v.ownBlock ∨ ∀ k, (Value.slice A' (n + m) c').ownBlock = some k → w.heap.size ≤ k) := by
  obtain ⟨i0, hi0, hz0, hz1, hz2⟩ := info_parts info25
  exact app_at w lo 105 ty 25 i0 _ 3 56 Tryz.underlying105 hi0 hz0 hz1 hz2 rfl (by decide) v n xs hown A m c es hr h1 hlo (by unfold maxLen; omega) (by omega)
theorem one_rd (w : World) (xs : List Value) (e : TypeId) (k : Nat) (hk : xs.length = k) : Rd (w.alloc (.cells xs.toArray e)) k (some ⟨w.heap.size, 0, none⟩) 1 1 xs :=
  ⟨by omega, Nat.le_refl _, by unfold maxLen; omega, fun _ => ⟨_, rfl, fun j u hu => by rw [lit_add0]; exact Cs.new w xs e j u hu⟩⟩
theorem R2.keep {w w' : World} {b : Nat} {g : Bool} {A : Option Addr} {n c : Nat} (h : R2 w b g A n c) (hb : w'.heap[b]? = w.heap[b]?) (hs : w.heap.size ≤ w'.heap.size) : R2 w' b g A n c :=
  ⟨(World.cell?_of_block hb).trans h.1, (World.cell?_of_block hb).trans h.2.1, Nat.lt_of_lt_of_le h.2.2 hs⟩
theorem R2.set1 {w : World} {b : Nat} {g : Bool} {A A' : Option Addr} {n c n' c' : Nat} (h : R2 w b g A n c) : R2 (w.setCell ⟨b, 1, none⟩ (.slice A' n' c')) b g A' n' c' :=
  ⟨set_keep h.1 (off_ne (by decide)), set_get h.2.1, by rw [(setCell_at _ _ _ _).1]; exact h.2.2⟩
theorem HB.tt {w : World} {b n : Nat} {t : TypeId} (h : HB w b n t) : There w b n := by
  have ht := h.there
  intro o ho
  have := ht o ho
  rw [Nat.zero_add] at this
  obtain ⟨h1, h2⟩ := this
  exact ⟨Option.isSome_iff_exists.1 h1, h2⟩
theorem HB.set {w : World} {b n g o : Nat} {t : TypeId} (h : HB w b n t) (u : Value) : HB (w.setCell ⟨g, o, none⟩ u) b n t := by
  obtain ⟨cur, h1, h2⟩ := h
  by_cases e : g = b
  · subst e
    refine ⟨cur.setIfInBounds o u, ?_, by simpa using h2⟩
    simp [World.setCell, Array.getElem?_modify, h1]
  · exact ⟨cur, ((setCell_at w g o u).2 b (Ne.symm e)).trans h1, h2⟩
theorem HB.keep {w w' : World} {b n : Nat} {t : TypeId} (h : HB w b n t) (hb : w'.heap[b]? = w.heap[b]?) : HB w' b n t := by
  obtain ⟨cur, h1, h2⟩ := h
  exact ⟨cur, hb.trans h1, h2⟩
theorem HB.new (w : World) (xs : List Value) (t : TypeId) : HB (w.alloc (.cells xs.toArray t)) w.heap.size xs.length t := ⟨_, heap_alloc_new w _, by simp⟩
theorem wrote2 {u w : World} {g : Nat} (t : There w g 2) (hx : Ext u w) (hg : u.heap.size ≤ g) (a b : Value) :
    (((w.setCell ⟨g, 0, none⟩ a).setCell ⟨g, 1, none⟩ b).cell? ⟨g, 0, none⟩ = some a ∧ ((w.setCell ⟨g, 0, none⟩ a).setCell ⟨g, 1, none⟩ b).cell? ⟨g, 1, none⟩ = some b) ∧ Ext u ((w.setCell ⟨g, 0, none⟩ a).setCell ⟨g, 1, none⟩ b) ∧
    (∀ k, k ≠ g → ((w.setCell ⟨g, 0, none⟩ a).setCell ⟨g, 1, none⟩ b).heap[k]? = w.heap[k]?) :=
  ⟨⟨set_keep (set_get (t.cell (by omega))) (off_ne (by decide)), set_get (set_keep (t.cell (o := 1) (by omega)) (off_ne (by decide)))⟩, (hx.set hg a).set (p := ⟨g, 1, none⟩) hg b, fun k hk => by rw [(setCell_at _ _ _ _).2 k hk, (setCell_at _ _ _ _).2 k hk]⟩
theorem F4.keep {w w' : World} {b : Nat} {f : Fd} (h : F4 w b f) (hb : w'.heap[b]? = w.heap[b]?) (hs : w.heap.size ≤ w'.heap.size) : F4 w' b f :=
  ⟨(World.cell?_of_block hb).trans h.1, (World.cell?_of_block hb).trans h.2.1, (World.cell?_of_block hb).trans h.2.2.1, (World.cell?_of_block hb).trans h.2.2.2.1, Nat.lt_of_lt_of_le h.2.2.2.2 hs⟩
theorem Ext.app {w w1 w2 : World} (h : Ext w w1) {v : Value} (hg : w1.grownBy w2 v.ownBlock) (hb : ∀ k, v.ownBlock = some k → w.heap.size ≤ k) : Ext w w2 :=
  ⟨hg.os.trans h.os, hg.tape.trans h.tape, hg.output.trans h.output, Nat.le_trans h.size hg.size, fun k hk => (hg.block k (Nat.lt_of_lt_of_le hk h.size) (fun e => by have := hb k e.symm; omega)).trans (h.block hk)⟩
end Go.Proofs.YtngoebbmgpdeiaaGreatDoor
namespace Go.Proofs.YtngoebbmgpdeiaaGreatDoor.Ky
def leapB (y : Int) : Bool := (y % 4 == 0) && ((y % 100 != 0) || (y % 400 == 0))
def leapN (y : Int) : Int := if leapB y then 1 else 0
def mdS (y m : Int) : Int := if m = 2 then 28 + leapN y else if m = 4 ∨ m = 6 ∨ m = 9 ∨ m = 11 then 30 else 31
def ydS (y : Int) : Int := 365 * (y - 1) + (y - 1) / 4 - (y - 1) / 100 + (y - 1) / 400
def cumS (y : Int) : Nat → Int
  | 0 => 0
  | k + 1 => cumS y k + mdS y ((k : Int) + 1)
def dayS (y m d : Int) : Int := ydS y + cumS y (m - 1).toNat + d
def okD (y m d : Int) : Prop := 1 ≤ y ∧ y ≤ 9999 ∧ 1 ≤ m ∧ m ≤ 12 ∧ 1 ≤ d ∧ d ≤ mdS y m
theorem leapN_in (y : Int) : 0 ≤ leapN y ∧ leapN y ≤ 1 := by unfold leapN; split <;> omega
theorem md_in (y m : Int) : 28 ≤ mdS y m ∧ mdS y m ≤ 31 := by
  have := leapN_in y
  unfold mdS
  repeat' split
  all_goals omega
theorem leap_succ (y : Int) (h : 1 ≤ y) : ydS (y + 1) = ydS y + 365 + leapN y := by
  unfold ydS leapN leapB
  by_cases h4 : y % 4 = 0
  · by_cases h100 : y % 100 = 0
    · by_cases h400 : y % 400 = 0
      · simp [h4, h100, h400]; omega
      · simp [h4, h100, h400]; omega
    · simp [h4, h100]; omega
  · simp [h4]; omega
theorem cum_12 (y : Int) : cumS y 12 = 365 + leapN y := by
  simp [cumS, mdS]
  omega
theorem cum_mono (y : Int) {a b : Nat} (h : a ≤ b) : cumS y a ≤ cumS y b := by
  induction b with
  | zero => have : a = 0 := by omega
            subst this; exact Int.le_refl _
  | succ b ih =>
    by_cases e : a = b + 1
    · subst e; exact Int.le_refl _
    · have := ih (by omega)
      have := md_in y ((b : Int) + 1)
      have e : cumS y (b + 1) = cumS y b + mdS y ((b : Int) + 1) := rfl
      rw [e]
      omega
theorem yd_mono {a b : Int} (h : a ≤ b) : ydS a ≤ ydS b := by unfold ydS; omega
theorem day_year {y m d : Int} (h : okD y m d) : ydS y < dayS y m d ∧ dayS y m d ≤ ydS (y + 1) := by
  obtain ⟨h1, h2, h3, h4, h5, h6⟩ := h
  have e := leap_succ y h1
  have c0 := cum_mono y (Nat.zero_le (m - 1).toNat)
  have c12 := cum_mono y (show (m - 1).toNat + 1 ≤ 12 by omega)
  rw [cum_12] at c12
  have e2 : cumS y ((m - 1).toNat + 1) = cumS y (m - 1).toNat + mdS y (((m - 1).toNat : Int) + 1) := rfl
  rw [show (((m - 1).toNat : Int) + 1) = m by omega] at e2
  have z : cumS y 0 = 0 := rfl
  unfold dayS
  omega
theorem day_inj {y m d y' m' d' : Int} (h : okD y m d) (h' : okD y' m' d') (e : dayS y m d = dayS y' m' d') : y = y' ∧ m = m' ∧ d = d' := by
  have a := day_year h
  have b := day_year h'
  have hy : y = y' := by
    rcases Int.lt_trichotomy y y' with q | q | q
    · have := yd_mono (show y + 1 ≤ y' by omega); omega
    · exact q
    · have := yd_mono (show y' + 1 ≤ y by omega); omega
  subst hy
  obtain ⟨h1, h2, h3, h4, h5, h6⟩ := h
  obtain ⟨_, _, k3, k4, k5, k6⟩ := h'
  have step : ∀ m : Int, 1 ≤ m → cumS y ((m - 1).toNat + 1) = cumS y (m - 1).toNat + mdS y m := by
    intro m hm
    have e2 : cumS y ((m - 1).toNat + 1) = cumS y (m - 1).toNat + mdS y (((m - 1).toNat : Int) + 1) := rfl
    rw [show (((m - 1).toNat : Int) + 1) = m by omega] at e2
    exact e2
  unfold dayS at e
  have hm : m = m' := by
    rcases Int.lt_trichotomy m m' with q | q | q
    · have c := cum_mono y (show (m - 1).toNat + 1 ≤ (m' - 1).toNat by omega)
      rw [step m h3] at c
      omega
    · exact q
    · have c := cum_mono y (show (m' - 1).toNat + 1 ≤ (m - 1).toNat by omega)
      rw [step m' k3] at c
      omega
  subst hm
  exact ⟨rfl, rfl, by omega⟩
theorem yd_1 : ydS 1 = 0 := by decide
theorem yd_10000 : ydS 10000 = 3652059 := by decide
theorem day_in {y m d : Int} (h : okD y m d) : 1 ≤ dayS y m d ∧ dayS y m d ≤ 3652059 := by
  have a := day_year h
  have b := yd_mono h.1
  have c := yd_mono (show y + 1 ≤ 10000 by have := h.2.1; omega)
  rw [yd_1] at b
  rw [yd_10000] at c
  omega
noncomputable def dateS (n : Int) : Int × Int × Int := by
  classical
  exact if h : ∃ t : Int × Int × Int, okD t.1 t.2.1 t.2.2 ∧ dayS t.1 t.2.1 t.2.2 = n then Classical.choose h else (0, 0, 0)
theorem date_eq {y m d n : Int} (h : okD y m d) (e : dayS y m d = n) : dateS n = (y, m, d) := by
  classical
  have hx : ∃ t : Int × Int × Int, okD t.1 t.2.1 t.2.2 ∧ dayS t.1 t.2.1 t.2.2 = n := ⟨(y, m, d), h, e⟩
  have hs := Classical.choose_spec hx
  have hd : dateS n = Classical.choose hx := by unfold dateS; rw [dif_pos hx]
  rw [hd]
  have := day_inj hs.1 h (by rw [hs.2, e])
  exact Prod.ext this.1 (Prod.ext this.2.1 this.2.2)
theorem guess_lt {n : Int} (h : 1 ≤ n) : ydS (n / 366 + 1) < n := by unfold ydS; omega
def bOf (x : Int) : UInt8 := UInt8.ofNat x.toNat
theorem bOf_val (x : Int) (h0 : 0 ≤ x) (h1 : x ≤ 255) : ((bOf x).toNat : Int) = x := by
  unfold bOf
  rw [UInt8.toNat_ofNat']
  omega
def bth (l : List UInt8) (k : Nat) : Int := ((l.getD k 0).toNat : Int)
def strB (l : List UInt8) : ByteArray := ⟨l.toArray⟩
theorem strB_toList (l : List UInt8) : (strB l).toList = l := by rw [ByteArray.toList_eq]; rfl
theorem strB_id (s : ByteArray) : strB s.toList = s := by rw [ByteArray.toList_eq]; rfl
theorem strB_size (l : List UInt8) : (strB l).size = l.length := by simp [strB, ByteArray.size]
theorem strB_add (a b : List UInt8) : strB a ++ strB b = strB (a ++ b) := by
  apply ByteArray.ext
  simp [strB]
theorem len_toList (s : ByteArray) : s.toList.length = s.size := by rw [ByteArray.toList_eq]; rfl
theorem byte_at (s : ByteArray) {k : Nat} (hlt : k < s.size) : ((s[k]'hlt).toNat : Int) = bth s.toList k := by
  have hk' : k < s.data.size := hlt
  simp only [bth, List.getD, ByteArray.toList_eq, Array.getElem?_toList]
  rw [show s.data[k]? = some s.data[k] by simp [hk']]
  rfl
theorem ext_str (s : ByteArray) (a b : Nat) : s.extract a b = strB ((s.toList.drop a).take (b - a)) := by
  rw [Lib.extract_eq, ByteArray.toList_eq]
  rfl
theorem ext_list (s : ByteArray) (a b : Nat) : (s.extract a b).toList = (s.toList.drop a).take (b - a) := by rw [ext_str, strB_toList]
theorem str_ext {s t : ByteArray} (h : s.toList = t.toList) : s = t := by rw [← strB_id s, h, strB_id]
def trR (l : List UInt8) (c : Int) : List UInt8 := (l.reverse.dropWhile fun b => decide ((b.toNat : Int) = c)).reverse
def trimR (s : ByteArray) (c : Int) : ByteArray := strB (trR s.toList c)
theorem trR_snoc (l : List UInt8) (b : UInt8) (c : Int) : trR (l ++ [b]) c = if (b.toNat : Int) = c then trR l c else l ++ [b] := by
  unfold trR
  rw [List.reverse_append]
  by_cases h : (b.toNat : Int) = c
  · simp [List.dropWhile, h]
  · simp [List.dropWhile, h]
theorem take_snoc {l : List UInt8} {k : Nat} (hk : k < l.length) : l.take (k + 1) = l.take k ++ [l.getD k 0] := by
  rw [List.take_succ_eq_append_getElem hk]
  simp [List.getD, hk]
theorem trim_take (s : ByteArray) (c : Int) {k : Nat} (hk : k < s.size) : trimR (s.extract 0 (k + 1)) c = if bth s.toList k = c then trimR (s.extract 0 k) c else s.extract 0 (k + 1) := by
  have hk' : k < s.toList.length := by rw [len_toList]; exact hk
  unfold trimR
  rw [ext_list, ext_list, List.drop_zero, Nat.sub_zero, Nat.sub_zero, take_snoc hk', trR_snoc]
  by_cases h : bth s.toList k = c
  · rw [if_pos h, if_pos (show ((s.toList.getD k 0).toNat : Int) = c from h)]
  · rw [if_neg h, if_neg (show ¬ ((s.toList.getD k 0).toNat : Int) = c from h), ext_str, List.drop_zero, Nat.sub_zero, take_snoc hk']
theorem ext_all (s : ByteArray) : s.extract 0 s.size = s := by
  apply str_ext
  rw [ext_list, List.drop_zero, Nat.sub_zero, ← len_toList, List.take_length]
theorem trim_last (t : ByteArray) (c : Int) {j : Nat} (hj : t.size = j + 1) : (bth t.toList j = c → trimR (t.extract 0 j) c = trimR t c) ∧ (bth t.toList j ≠ c → trimR t c = t) := by
  have h := trim_take t c (k := j) (by omega)
  rw [← hj, ext_all] at h
  refine ⟨fun e => ?_, fun e => ?_⟩
  · rw [h, if_pos e]
  · rw [h, if_neg e]
theorem trim_none (t : ByteArray) (c : Int) (h : t.size = 0) : trimR t c = t := by
  have : t.toList = [] := List.eq_nil_of_length_eq_zero (by rw [len_toList]; exact h)
  unfold trimR
  rw [this]
  apply str_ext
  rw [strB_toList, this]
  rfl
variable {a b : List UInt8}
end Go.Proofs.YtngoebbmgpdeiaaGreatDoor.Ky
namespace Go.Proofs.YtngoebbmgpdeiaaGreatDoor.Ky
open Go.RowKit
theorem leapN_t {y : Int} (h : leapB y = true) : leapN y = 1 := by unfold leapN; rw [if_pos h]
theorem leapN_f {y : Int} (h : leapB y = false) : leapN y = 0 := by unfold leapN; rw [if_neg (by rw [h]; simp)]
theorem yd_in {y : Int} (h1 : 1 ≤ y) (h2 : y ≤ 10000) : 0 ≤ ydS y ∧ ydS y ≤ 3652059 := by
  have b := yd_mono h1
  have c := yd_mono h2
  rw [yd_1] at b
  rw [yd_10000] at c
  omega
theorem results_tmp4 {fn : Func} {t u v x : Tmp} (h : fn.results = #[.tmp t, .tmp u, .tmp v, .tmp x]) (tmps : Array Value) (P : Program) (w : World) :
    (results fn tmps).run P w = .ok (.tuple #[tmps.getD t undef, tmps.getD u undef, tmps.getD v undef, tmps.getD x undef]) w := by
  simp [results, h]
def isDayB (n : Int) : Bool := decide (0 ≤ n) && decide (n ≤ 3652059)
theorem isDay_any (n : Int) (w : World) : Calls Tryz.prog 157 #[.int .i64 n] w fun e w' => e = .returned (.bool (isDayB n)) ∧ w = w' := by
  rcases Bool.eq_false_or_eq_true (decide (0 ≤ n)) with h1 | h1 <;> rcases Bool.eq_false_or_eq_true (decide (n ≤ 3652059)) with h2 | h2
  all_goals have Fin := hid (show isDayB n = _ by unfold isDayB; rw [h1, h2])
  all_goals go_enter Tryz.func157, Tryz.ntmps157
  all_goals go_wp2
  all_goals go_ret
  all_goals exact ⟨ret_bool (by rw [Fin.out]; rfl), rfl⟩
def Give4 (a b c d : Int) (w : World) (e : Ending) (w' : World) : Prop := e = .returned (.tuple #[.int .i64 a, .int .i64 b, .int .i64 c, .int .i64 d]) ∧ Ext w w'
noncomputable def spY (n : Int) : Int := if isDayB n then (if n = 0 then 0 else (dateS n).1) else 0
noncomputable def spM (n : Int) : Int := if isDayB n then (if n = 0 then 0 else (dateS n).2.1) else 0
noncomputable def spD (n : Int) : Int := if isDayB n then (if n = 0 then 0 else (dateS n).2.2) else 0
def spE (n : Int) : Int := if isDayB n then 0 else 1
theorem sp_no {n : Int} (h : isDayB n = false) : spY n = 0 ∧ spM n = 0 ∧ spD n = 0 ∧ spE n = 1 := by unfold spY spM spD spE; rw [h]; simp
theorem sp_zero : spY 0 = 0 ∧ spM 0 = 0 ∧ spD 0 = 0 ∧ spE 0 = 0 := by unfold spY spM spD spE; simp; decide
theorem isDay_iff {n : Int} : isDayB n = true ↔ 0 ≤ n ∧ n ≤ 3652059 := by unfold isDayB; simp
theorem sp_day {y m d n : Int} (h : okD y m d) (e : dayS y m d = n) : spY n = y ∧ spM n = m ∧ spD n = d ∧ spE n = 0 := by
  have hi := day_in h
  have hb : isDayB n = true := isDay_iff.2 (by omega)
  have hd := date_eq h e
  unfold spY spM spD spE
  rw [hb, hd]
  rw [if_pos rfl, if_pos rfl, if_pos rfl, if_pos rfl, if_neg (by omega), if_neg (by omega), if_neg (by omega)]
  exact ⟨rfl, rfl, rfl, rfl⟩
theorem cum_12s (y : Int) (h : 1 ≤ y) : ydS (y + 1) = ydS y + cumS y 12 := by rw [cum_12, leap_succ y h]; omega
theorem year_of (n : Int) (h1 : 1 ≤ n) : ∀ k : Nat, n ≤ ydS ((k : Int) + 1) → ∃ y : Int, 1 ≤ y ∧ y ≤ k ∧ ydS y < n ∧ n ≤ ydS (y + 1)
  | 0, h => by
    have := yd_1
    rw [show ((0 : Nat) : Int) + 1 = 1 from rfl, this] at h
    omega
  | k + 1, h => by
    by_cases hk : n ≤ ydS ((k : Int) + 1)
    · obtain ⟨y, a, b, c, d⟩ := year_of n h1 k hk
      exact ⟨y, a, by omega, c, d⟩
    · refine ⟨(k : Int) + 1, by omega, by omega, by omega, ?_⟩
      exact h
theorem month_of (y r : Int) (h1 : 1 ≤ r) : ∀ k : Nat, r ≤ cumS y k → ∃ j : Nat, j < k ∧ cumS y j < r ∧ r ≤ cumS y (j + 1)
  | 0, h => by
    have : cumS y 0 = 0 := rfl
    omega
  | k + 1, h => by
    by_cases hk : r ≤ cumS y k
    · obtain ⟨j, a, b, c⟩ := month_of y r h1 k hk
      exact ⟨j, by omega, b, c⟩
    · exact ⟨k, by omega, by omega, h⟩
theorem date_of {n : Int} (h1 : 1 ≤ n) (h2 : n ≤ 3652059) : ∃ y m d, okD y m d ∧ dayS y m d = n := by
  obtain ⟨y, a, b, c, d⟩ := year_of n h1 9999 (by have := yd_10000; rw [show ((9999 : Nat) : Int) + 1 = 10000 from rfl, this]; exact h2)
  rw [cum_12s y a] at d
  obtain ⟨j, e, f, g⟩ := month_of y (n - ydS y) (by omega) 12 (by omega)
  have hc : cumS y (j + 1) = cumS y j + mdS y ((j : Int) + 1) := rfl
  refine ⟨y, (j : Int) + 1, n - ydS y - cumS y j, ⟨a, by omega, by omega, by omega, by omega, by omega⟩, ?_⟩
  unfold dayS
  rw [show ((j : Int) + 1 - 1).toNat = j by omega]
  omega
theorem sp_ok {n : Int} (h : isDayB n = true) (h0 : n ≠ 0) : okD (spY n) (spM n) (spD n) ∧ dayS (spY n) (spM n) (spD n) = n ∧ spE n = 0 := by
  have hn := isDay_iff.1 h
  obtain ⟨y, m, d, hk, he⟩ := date_of (n := n) (by omega) hn.2
  obtain ⟨a, b, c, e⟩ := sp_day hk he
  rw [a, b, c]
  exact ⟨hk, he, e⟩
def vV (k n : Int) (s : ByteArray) : Value := .agg #[.int .i64 k, .int .i64 n, .string s]
def isNumB (n : Int) : Bool := decide (-1000000000000000 ≤ n) && decide (n ≤ 1000000000000000)
theorem isNum_iff {n : Int} : isNumB n = true ↔ -1000000000000000 ≤ n ∧ n ≤ 1000000000000000 := by unfold isNumB; simp
theorem isNum_any (n : Int) (w : World) : Calls Tryz.prog 115 #[.int .i64 n] w fun e w' => e = .returned (.bool (isNumB n)) ∧ w = w' := by
  rcases Bool.eq_false_or_eq_true (decide (-1000000000000000 ≤ n)) with h1 | h1 <;> rcases Bool.eq_false_or_eq_true (decide (n ≤ 1000000000000000)) with h2 | h2
  all_goals have Fin := hid (show isNumB n = _ by unfold isNumB; rw [h1, h2])
  all_goals go_enter Tryz.func115, Tryz.ntmps115
  all_goals go_wp2
  all_goals go_ret
  all_goals exact ⟨ret_bool (by rw [Fin.out]; rfl), rfl⟩
def isV (k n : Int) (s : ByteArray) : Bool :=
  if k = 4 then decide (n = 0) else if s.size ≠ 0 then false else
  if k = 0 then decide (n = 0) else if k = 1 then decide (n = 0 ∨ n = 1) else if k = 2 then isNumB n else if k = 3 then isDayB n else false
theorem empty_iff (s : ByteArray) : s.toList.isEmpty = decide (s.size = 0) := by
  rw [← len_toList]
  cases s.toList <;> simp
theorem isValue_any (k n : Int) (s : ByteArray) (w : World) : Calls Tryz.prog 109 #[vV k n s] w (Give (.bool (isV k n s)) w) := by
  unfold vV
  by_cases k4 : k = 4
  · subst k4
    by_cases n0 : n = 0
    · subst n0
      have Fin : Hid (isV 4 0 s = true) := by unfold Hid isV; simp
      go_enter Tryz.func109, Tryz.ntmps109
      go_wp2
      go_ret
      exact ⟨ret_bool Fin.out.symm, (Ext.refl w).alloc_right _⟩
    · have d : (n != 0) = true := by simpa using n0
      have Fin : Hid (isV 4 n s = false) := by unfold Hid isV; simp [n0]
      clear n0
      go_enter Tryz.func109, Tryz.ntmps109
      go_wp2
      go_ret
      exact ⟨ret_bool Fin.out.symm, (Ext.refl w).alloc_right _⟩
  · have d4 : (k != 4) = true := by simpa using k4
    have e4 : (k == 4) = false := by simpa using k4
    rcases Bool.eq_false_or_eq_true (s.toList.isEmpty) with hs | hs
    · have hz : s.size = 0 := by have := empty_iff s; rw [hs] at this; simpa using this.symm
      have hv : Hid (isV k n s = if k = 0 then decide (n = 0) else if k = 1 then decide (n = 0 ∨ n = 1) else if k = 2 then isNumB n else if k = 3 then isDayB n else false) := by unfold Hid isV; rw [if_neg k4, if_neg (by simpa using hz)]
      have hs1 : s.toList = [] := by simpa using hs
      have hs2 : (!s.toList.isEmpty) = false := by rw [hs]; rfl
      clear hz k4
      by_cases k0 : k = 0
      · subst k0
        have Fin : Hid (isV 0 n s = (n == 0)) := by unfold Hid; rw [hv.out]; rfl
        go_enter Tryz.func109, Tryz.ntmps109
        go_wp2
        go_ret
        exact ⟨ret_bool Fin.out.symm, (Ext.refl w).alloc_right _⟩
      · have d0 : (k == 0) = false := by simpa using k0
        by_cases k1 : k = 1
        · subst k1
          rcases Bool.eq_false_or_eq_true (n == 0) with n0 | n0 <;> rcases Bool.eq_false_or_eq_true (n == 1) with n1 | n1
          all_goals have Fin := hid (show isV 1 n s = (n == 0 || n == 1) by rw [hv.out]; simp; rcases Decidable.em (n = 0) with h | h <;> rcases Decidable.em (n = 1) with h' | h' <;> simp [h, h'])
          all_goals go_enter Tryz.func109, Tryz.ntmps109
          all_goals go_wp2
          all_goals go_ret
          all_goals exact ⟨ret_bool (by rw [Fin.out, n0, n1]; rfl), (Ext.refl w).alloc_right _⟩
        · have d1 : (k == 1) = false := by simpa using k1
          by_cases k2 : k = 2
          · subst k2
            have Fin : Hid (isV 2 n s = isNumB n) := by unfold Hid; rw [hv.out]; rfl
            go_enter Tryz.func109, Tryz.ntmps109
            go_wp2_with fail
            refine (isNum_any _ _).mono ?_
            rintro e w' ⟨rfl, rfl⟩
            go_wp2
            go_ret
            exact ⟨ret_bool Fin.out.symm, (Ext.refl w).alloc_right _⟩
          · have d2 : (k == 2) = false := by simpa using k2
            by_cases k3 : k = 3
            · subst k3
              have Fin : Hid (isV 3 n s = isDayB n) := by unfold Hid; rw [hv.out]; rfl
              go_enter Tryz.func109, Tryz.ntmps109
              go_wp2_with fail
              refine (isDay_any _ _).mono ?_
              rintro e w' ⟨rfl, rfl⟩
              go_wp2
              go_ret
              exact ⟨ret_bool Fin.out.symm, (Ext.refl w).alloc_right _⟩
            · have d3 : (k == 3) = false := by simpa using k3
              have Fin : Hid (isV k n s = false) := by unfold Hid; rw [hv.out, if_neg k0, if_neg k1, if_neg k2, if_neg k3]
              clear k0 k1 k2 k3
              go_enter Tryz.func109, Tryz.ntmps109
              go_wp2
              go_ret
              exact ⟨ret_bool Fin.out.symm, (Ext.refl w).alloc_right _⟩
    · have hz : s.size ≠ 0 := by have := empty_iff s; rw [hs] at this; simpa using this.symm
      have hs2 : (!s.toList.isEmpty) = true := by rw [hs]; rfl
      have Fin : Hid (isV k n s = false) := by unfold Hid isV; rw [if_neg k4, if_pos hz]
      clear hz k4
      go_enter Tryz.func109, Tryz.ntmps109
      go_wp2
      go_ret
      exact ⟨ret_bool Fin.out.symm, (Ext.refl w).alloc_right _⟩
def valE (k n : Int) (s : ByteArray) : Int := if 2048 < s.size then 3 else if isV k n s then 0 else 1
theorem Validate_any (k n : Int) (s : ByteArray) (w : World) : Calls Tryz.prog 75 #[vV k n s] w (Give (.int .i64 (valE k n s)) w) := by
  unfold vV
  by_cases hb : 2048 < s.size
  · have e1 : decide ((2048 : Int) < (s.size : Int)) = true := by simp; omega
    have Fin : Hid (valE k n s = 3) := by unfold Hid valE; rw [if_pos hb]
    clear hb
    go_enter Tryz.func75, Tryz.ntmps75
    go_wp2
    go_ret
    exact ⟨ret_int Fin.out.symm, (Ext.refl w).alloc_right _⟩
  · have e1 : decide ((2048 : Int) < (s.size : Int)) = false := by simp; omega
    rcases Bool.eq_false_or_eq_true (isV k n s) with hv | hv
    · have Fin : Hid (valE k n s = 0) := by unfold Hid valE; rw [if_neg hb, if_pos hv]
      clear hb
      go_enter Tryz.func75, Tryz.ntmps75
      go_wp2_with fail
      refine (isValue_any k n s _).mono ?_
      rintro e w1 ⟨rfl, hx⟩
      go_wp2
      go_ret
      exact ⟨ret_int Fin.out.symm, ((Ext.refl w).alloc_right _).trans hx⟩
    · have Fin : Hid (valE k n s = 1) := by unfold Hid valE; rw [if_neg hb, if_neg (by rw [hv]; simp)]
      clear hb
      go_enter Tryz.func75, Tryz.ntmps75
      go_wp2_with fail
      refine (isValue_any k n s _).mono ?_
      rintro e w1 ⟨rfl, hx⟩
      go_wp2
      go_ret
      exact ⟨ret_int Fin.out.symm, ((Ext.refl w).alloc_right _).trans hx⟩
theorem set_get {w : World} {p : Addr} {v : Value} {u : Value} (h : w.cell? p = some u) : (w.setCell p v).cell? p = some v := World.cell?_setCell_same _ _ _ h
theorem set_keep {w : World} {p q : Addr} {v u : Value} (h : w.cell? q = some u) (hne : p ≠ q) : (w.setCell p v).cell? q = some u := by rw [World.cell?_setCell_other _ _ _ _ hne]; exact h
theorem off_ne {b i j : Nat} (h : i ≠ j) : (⟨b, i, none⟩ : Addr) ≠ ⟨b, j, none⟩ := fun e => h (by injection e)
theorem put3 {w : World} {b : Nat} (t : There w b 3) (v0 v1 v2 : Value) :
    (((w.setCell ⟨b, 0, none⟩ v0).setCell ⟨b, 1, none⟩ v1).setCell ⟨b, 2, none⟩ v2).cell? ⟨b, 0, none⟩ = some v0 ∧
    (((w.setCell ⟨b, 0, none⟩ v0).setCell ⟨b, 1, none⟩ v1).setCell ⟨b, 2, none⟩ v2).cell? ⟨b, 1, none⟩ = some v1 ∧
    (((w.setCell ⟨b, 0, none⟩ v0).setCell ⟨b, 1, none⟩ v1).setCell ⟨b, 2, none⟩ v2).cell? ⟨b, 2, none⟩ = some v2 :=
  ⟨set_keep (set_keep (set_get (t.cell (o := 0) (by omega))) (off_ne (by decide))) (off_ne (by decide)),
   set_keep (set_get ((t.set _ _).cell (o := 1) (by omega))) (off_ne (by decide)),
   set_get (((t.set _ _).set _ _).cell (o := 2) (by omega))⟩
def sizeOf' : Value → Nat | .string s => s.size | _ => 0
theorem trimRB_any (s : ByteArray) (c : Int) (hs : s.size ≤ maxLen) (w : World) : Calls Tryz.prog 110 #[.string s, .int .u8 c] w fun e w' => e = .returned (.string (trimR s c)) ∧ w = w' := by
  unfold maxLen at hs
  go_enter Tryz.func110, Tryz.ntmps110
  go_wp2_with fail
  go_loopw [0] (fun v wr => (∃ t : ByteArray, t.size ≤ s.size ∧ v = .string t ∧ Hid (trimR t c = trimR s c)) ∧ wr = w) (fun v _ => sizeOf' v)
  case atStart => exact ⟨⟨s, by omega, rfl, rfl⟩, rfl⟩
  case round =>
    obtain ⟨⟨t, ht, rfl, hid1⟩, rfl⟩ := hrel
    by_cases h0 : t.size = 0
    · have hz : Hid (t = trimR s c) := by unfold Hid; rw [← hid1.out, trim_none t c h0]
      have d0 : decide ((0 : Int) < (t.size : Int)) = false := by rw [h0]; decide
      go_wp2
      go_ret
      exact ⟨by rw [← hz.out]; rfl, rfl⟩
    · obtain ⟨j, hj⟩ : ∃ j, t.size = j + 1 := ⟨t.size - 1, by omega⟩
      have hb := byte_at t (k := j) (by omega)
      have htl := hid (trim_last t c hj)
      have hj2 : j + 1 ≤ 9223372036854775807 := by omega
      have ej : ((j + 1 : Nat) : Int) - 1 = (j : Int) := by omega
      have ew : IntKind.i64.wrap (((j + 1 : Nat) : Int) - 1) = (j : Int) := by rw [ej]; exact IntWalk.i64_in _ (by omega)
      have d0 : decide ((0 : Int) < ((j + 1 : Nat) : Int)) = true := by simp
      rcases Bool.eq_false_or_eq_true (((t[j]'(by omega)).toNat : Int) == c) with q | q
      · have hn : Hid (trimR (t.extract 0 j) c = trimR s c) := by
          unfold Hid
          rw [← hid1.out]
          exact htl.out.1 (by rw [← hb]; simpa using q)
        have hsz : (t.extract 0 j).size = j := by rw [ByteArray.size_extract]; omega
        have hsz := hid hsz
        clear hb
        go_wp2
        go_roundw
        case rel => exact ⟨⟨t.extract 0 j, by rw [hsz.out]; omega, rfl, hn⟩, by trivial⟩
        case measure => simp only [sizeOf']; rw [hsz.out]; omega
      · have hn : Hid (t = trimR s c) := by
          unfold Hid
          rw [← hid1.out]
          exact (htl.out.2 (by rw [← hb]; simpa using q)).symm
        clear hb
        go_wp2
        go_ret
        exact ⟨by rw [← hn.out]; rfl, rfl⟩
theorem TrimRight_any (s : ByteArray) (hs : s.size ≤ maxLen) (w : World) : Calls Tryz.prog 77 #[.string s, .string { data := #[32] }] w fun e w' => e = .returned (.string (trimR s 32)) ∧ w = w' := by
  rcases Bool.eq_false_or_eq_true (s.toList.isEmpty) with hz | hz
  · have h0 : s.size = 0 := by have := empty_iff s; rw [hz] at this; simpa using this.symm
    have Fin := hid (trim_none s 32 h0)
    have hs1 : s.toList = [] := by simpa using hz
    clear h0 hs
    go_enter Tryz.func77, Tryz.ntmps77
    go_wp2
    go_ret
    exact ⟨by rw [Fin.out]; rfl, rfl⟩
  · go_enter Tryz.func77, Tryz.ntmps77
    go_wp2_with fail
    refine (trimRB_any s 32 hs _).mono ?_
    rintro e w' ⟨rfl, rfl⟩
    go_wp2
    go_ret
    exact ⟨rfl, rfl⟩
end Go.Proofs.YtngoebbmgpdeiaaGreatDoor.Ky
namespace Go.Proofs
open Go.Shelf
open Go.RowKit in
def Tryz.lays160_ren : Go.Shelf.Ren := ⟨fun | 160 => 156 | 232 => 110 | 231 => 187 | 227 => 111 | 234 => 112 | 233 => 188 | 236 => 113 | 235 => 189 | 228 => 158 | 271 => 159 | 151 => 160 | 197 => 191 | 120 => 190 | 152 => 192 | 260 => 216 | 137 => 217 | 119 => 218 | 224 => 219 | 225 => 220 | 217 => 248 | 266 => 278 | n => n, fun | 9 => 9 | 4 => 4 | 3 => 3 | 5 => 5 | 117 => 184 | 116 => 183 | 0 => 0 | 124 => 187 | 21 => 21 | 105 => 224 | 46 => 232 | 119 => 327 | 139 => 330 | 138 => 329 | n => n, fun | 3 => 0 | 4 => 1 | n => n⟩
theorem Tryz.lays160 : Go.Proofs.Lays.n160 Tryz.prog Tryz.lays160_ren := {
  mixed := by kernel_rfl
  f119 := Tryz.func218.trans (congrArg some (by kernel_rfl))
  f120 := Tryz.func190.trans (congrArg some (by kernel_rfl))
  f137 := Tryz.func217.trans (congrArg some (by kernel_rfl))
  f151 := Tryz.func160.trans (congrArg some (by kernel_rfl))
  f152 := Tryz.func192.trans (congrArg some (by kernel_rfl))
  f160 := Tryz.func156.trans (congrArg some (by kernel_rfl))
  f197 := Tryz.func191.trans (congrArg some (by kernel_rfl))
  f217 := Tryz.func248.trans (congrArg some (by kernel_rfl))
  f224 := Tryz.func219.trans (congrArg some (by kernel_rfl))
  f225 := Tryz.func220.trans (congrArg some (by kernel_rfl))
  f227 := Tryz.func111.trans (congrArg some (by kernel_rfl))
  f228 := Tryz.func158.trans (congrArg some (by kernel_rfl))
  f231 := Tryz.func187.trans (congrArg some (by kernel_rfl))
  f232 := Tryz.func110.trans (congrArg some (by kernel_rfl))
  f233 := Tryz.func188.trans (congrArg some (by kernel_rfl))
  f234 := Tryz.func112.trans (congrArg some (by kernel_rfl))
  f235 := Tryz.func189.trans (congrArg some (by kernel_rfl))
  f236 := Tryz.func113.trans (congrArg some (by kernel_rfl))
  f260 := Tryz.func216.trans (congrArg some (by kernel_rfl))
  f266 := Tryz.func278.trans (congrArg some (by kernel_rfl))
  f271 := Tryz.func159.trans (congrArg some (by kernel_rfl))
  t0 := Tryz.underlying0
  a0 := Tryz.isAgg0
  z0 := Tryz.sizeOf0
  v0 := Tryz.zeroValue0
  t3 := Tryz.underlying3
  a3 := Tryz.isAgg3
  z3 := Tryz.sizeOf3
  v3 := Tryz.zeroValue3
  t4 := Tryz.underlying4
  a4 := Tryz.isAgg4
  z4 := Tryz.sizeOf4
  v4 := Tryz.zeroValue4
  t5 := Tryz.underlying5
  a5 := Tryz.isAgg5
  z5 := Tryz.sizeOf5
  v5 := Tryz.zeroValue5
  t9 := Tryz.underlying9
  a9 := Tryz.isAgg9
  z9 := Tryz.sizeOf9
  v9 := Tryz.zeroValue9
  t21 := Tryz.underlying21
  a21 := Tryz.isAgg21
  z21 := Tryz.sizeOf21
  v21 := Tryz.zeroValue21
  t46 := Tryz.underlying232
  a46 := Tryz.isAgg232
  z46 := Tryz.sizeOf232
  v46 := Tryz.zeroValue232
  t105 := Tryz.underlying224
  a105 := Tryz.isAgg224
  z105 := Tryz.sizeOf224
  v105 := Tryz.zeroValue224
  t116 := Tryz.underlying183
  a116 := Tryz.isAgg183
  z116 := Tryz.sizeOf183
  t117 := Tryz.underlying184
  a117 := Tryz.isAgg184
  z117 := Tryz.sizeOf184
  v117 := Tryz.zeroValue184
  t119 := Tryz.underlying327
  a119 := Tryz.isAgg327
  z119 := Tryz.sizeOf327
  t124 := Tryz.underlying187
  a124 := Tryz.isAgg187
  z124 := Tryz.sizeOf187
  v124 := Tryz.zeroValue187
  t138 := Tryz.underlying329
  a138 := Tryz.isAgg329
  z138 := Tryz.sizeOf329
  v138 := Tryz.zeroValue329
  t139 := Tryz.underlying330
  a139 := Tryz.isAgg330
  z139 := Tryz.sizeOf330
  v139 := Tryz.zeroValue330
  g3 := by kernel_rfl
  g4 := by kernel_rfl }
open Go.RowKit in
open Go.RowKit in
open Go.RowKit Go.Lib in
def Tryz.lays105_ren : Go.Shelf.Ren := ⟨fun | 105 => 117 | 212 => 163 | 99 => 80 | 165 => 164 | 166 => 141 | 170 => 165 | 169 => 142 | 263 => 193 | 264 => 194 | 206 => 118 | 240 => 178 | 241 => 195 | 276 => 212 | 277 => 221 | n => n, fun | 9 => 9 | 3 => 3 | 4 => 4 | 20 => 20 | 0 => 0 | 46 => 232 | 109 => 233 | 5 => 5 | 72 => 216 | 76 => 219 | 51 => 78 | 146 => 261 | 53 => 263 | 148 => 264 | 70 => 214 | 37 => 94 | 75 => 218 | 127 => 255 | 164 => 208 | 80 => 221 | n => n, fun | n => n⟩
theorem Tryz.lays105 : Go.Proofs.Lays.n105 Tryz.prog Tryz.lays105_ren := {
  mixed := by kernel_rfl
  f99 := Tryz.func80.trans (congrArg some (by kernel_rfl))
  f105 := Tryz.func117.trans (congrArg some (by kernel_rfl))
  f165 := Tryz.func164.trans (congrArg some (by kernel_rfl))
  f166 := Tryz.func141.trans (congrArg some (by kernel_rfl))
  f169 := Tryz.func142.trans (congrArg some (by kernel_rfl))
  f170 := Tryz.func165.trans (congrArg some (by kernel_rfl))
  f206 := Tryz.func118.trans (congrArg some (by kernel_rfl))
  f212 := Tryz.func163.trans (congrArg some (by kernel_rfl))
  f240 := Tryz.func178.trans (congrArg some (by kernel_rfl))
  f241 := Tryz.func195.trans (congrArg some (by kernel_rfl))
  f263 := Tryz.func193.trans (congrArg some (by kernel_rfl))
  f264 := Tryz.func194.trans (congrArg some (by kernel_rfl))
  f276 := Tryz.func212.trans (congrArg some (by kernel_rfl))
  f277 := Tryz.func221.trans (congrArg some (by kernel_rfl))
  t0 := Tryz.underlying0
  a0 := Tryz.isAgg0
  z0 := Tryz.sizeOf0
  v0 := Tryz.zeroValue0
  t3 := Tryz.underlying3
  a3 := Tryz.isAgg3
  z3 := Tryz.sizeOf3
  v3 := Tryz.zeroValue3
  t4 := Tryz.underlying4
  a4 := Tryz.isAgg4
  z4 := Tryz.sizeOf4
  v4 := Tryz.zeroValue4
  t5 := Tryz.underlying5
  a5 := Tryz.isAgg5
  z5 := Tryz.sizeOf5
  v5 := Tryz.zeroValue5
  t9 := Tryz.underlying9
  a9 := Tryz.isAgg9
  z9 := Tryz.sizeOf9
  v9 := Tryz.zeroValue9
  t20 := Tryz.underlying20
  a20 := Tryz.isAgg20
  z20 := Tryz.sizeOf20
  v20 := Tryz.zeroValue20
  t37 := Tryz.underlying94
  a37 := Tryz.isAgg94
  z37 := Tryz.sizeOf94
  v37 := Tryz.zeroValue94
  t46 := Tryz.underlying232
  a46 := Tryz.isAgg232
  z46 := Tryz.sizeOf232
  v46 := Tryz.zeroValue232
  t51 := Tryz.underlying78
  a51 := Tryz.isAgg78
  z51 := Tryz.sizeOf78
  v51 := Tryz.zeroValue78
  t53 := Tryz.underlying263
  a53 := Tryz.isAgg263
  z53 := Tryz.sizeOf263
  v53 := Tryz.zeroValue263
  t70 := Tryz.underlying214
  a70 := Tryz.isAgg214
  z70 := Tryz.sizeOf214
  v70 := Tryz.zeroValue214
  t72 := Tryz.underlying216
  a72 := Tryz.isAgg216
  z72 := Tryz.sizeOf216
  v72 := Tryz.zeroValue216
  t75 := Tryz.underlying218
  a75 := Tryz.isAgg218
  z75 := Tryz.sizeOf218
  v75 := Tryz.zeroValue218
  t76 := Tryz.underlying219
  a76 := Tryz.isAgg219
  z76 := Tryz.sizeOf219
  v76 := Tryz.zeroValue219
  t109 := Tryz.underlying233
  a109 := Tryz.isAgg233
  z109 := Tryz.sizeOf233
  v109 := Tryz.zeroValue233
  t127 := Tryz.underlying255
  a127 := Tryz.isAgg255
  z127 := Tryz.sizeOf255
  v127 := Tryz.zeroValue255
  t146 := Tryz.underlying261
  a146 := Tryz.isAgg261
  z146 := Tryz.sizeOf261
  v146 := Tryz.zeroValue261
  t148 := Tryz.underlying264
  a148 := Tryz.isAgg264
  z148 := Tryz.sizeOf264
  v148 := Tryz.zeroValue264
  t164 := Tryz.underlying208
  a164 := Tryz.isAgg208
  z164 := Tryz.sizeOf208
  v164 := Tryz.zeroValue208 }
theorem Tryz.Builder_Extra_105 : Builder.Extra Tryz.prog Tryz.lays105_ren := {
  sizeBuilder := by kernel_rfl
  liesBuilder := by kernel_rfl
  t5 := Tryz.underlying5
  a5 := Tryz.isAgg5
  z5 := Tryz.sizeOf5
  v5 := Tryz.zeroValue5
  infoByte := by kernel_rfl
  cellsByte := by kernel_rfl
  sizeByte := by kernel_rfl
  neB5 := by decide }
open Go.RowKit Go.Lib in
open Go.RowKit Go.Lib in
open Go.RowKit Go.Lib in
open Go.RowKit Go.Lib in
def Tryz.lays166_ren : Go.Shelf.Ren := ⟨fun | 166 => 141 | 240 => 178 | 276 => 212 | n => n, fun | 0 => 0 | 3 => 3 | 4 => 4 | 5 => 5 | 9 => 9 | 20 => 20 | 37 => 94 | 70 => 214 | 72 => 216 | 75 => 218 | 80 => 221 | 164 => 208 | n => n, fun | n => n⟩
theorem Tryz.lays166 : Go.Proofs.Lays.n166 Tryz.prog Tryz.lays166_ren := {
  mixed := by kernel_rfl
  f166 := Tryz.func141.trans (congrArg some (by kernel_rfl))
  f240 := Tryz.func178.trans (congrArg some (by kernel_rfl))
  f276 := Tryz.func212.trans (congrArg some (by kernel_rfl))
  t0 := Tryz.underlying0
  a0 := Tryz.isAgg0
  z0 := Tryz.sizeOf0
  v0 := Tryz.zeroValue0
  t3 := Tryz.underlying3
  a3 := Tryz.isAgg3
  z3 := Tryz.sizeOf3
  v3 := Tryz.zeroValue3
  t4 := Tryz.underlying4
  a4 := Tryz.isAgg4
  z4 := Tryz.sizeOf4
  v4 := Tryz.zeroValue4
  t9 := Tryz.underlying9
  a9 := Tryz.isAgg9
  z9 := Tryz.sizeOf9
  v9 := Tryz.zeroValue9
  t20 := Tryz.underlying20
  a20 := Tryz.isAgg20
  z20 := Tryz.sizeOf20
  v20 := Tryz.zeroValue20
  t37 := Tryz.underlying94
  a37 := Tryz.isAgg94
  z37 := Tryz.sizeOf94
  v37 := Tryz.zeroValue94
  t70 := Tryz.underlying214
  a70 := Tryz.isAgg214
  z70 := Tryz.sizeOf214
  v70 := Tryz.zeroValue214
  t72 := Tryz.underlying216
  a72 := Tryz.isAgg216
  z72 := Tryz.sizeOf216
  v72 := Tryz.zeroValue216
  t75 := Tryz.underlying218
  a75 := Tryz.isAgg218
  z75 := Tryz.sizeOf218
  v75 := Tryz.zeroValue218
  t164 := Tryz.underlying208
  a164 := Tryz.isAgg208
  z164 := Tryz.sizeOf208
  v164 := Tryz.zeroValue208 }
theorem Tryz.Builder_Extra_166 : Builder.Extra Tryz.prog Tryz.lays166_ren := {
  sizeBuilder := by kernel_rfl
  liesBuilder := by kernel_rfl
  t5 := Tryz.underlying5
  a5 := Tryz.isAgg5
  z5 := Tryz.sizeOf5
  v5 := Tryz.zeroValue5
  infoByte := by kernel_rfl
  cellsByte := by kernel_rfl
  sizeByte := by kernel_rfl
  neB5 := by decide }
open Go.RowKit in
theorem Tryz.Builder_WriteString_k (B b : Nat) (bs : List Value) (s : ByteArray) (w : World) (h : Lib.IsBuilderF 216 5 B b bs w) (hlen : bs.length + s.size ≤ 140737488355328) (hBw : B ≤ w.heap.size) :
    Calls Tryz.prog 141 #[.pointer (some ⟨b, 0, none⟩), .string s] w fun e w' => e = .returned (.tuple #[.int .i64 s.size, .nilIface]) ∧ (Lib.BuilderAtF 216 5 B b (.pointer (some ⟨b, 0, none⟩)) (bs ++ Lib.strCells s) w' ∧ Below B w w' ∧ Lib.OthersKept 5 (some b) w w') := Any.Builder_WriteString_k Tryz.lays166 Tryz.Builder_Extra_166 B b bs s w h hlen hBw
open Go.RowKit Go.Lib in
theorem Tryz.strings_Repeat (s : ByteArray) (c : Nat) (w : World) (hc : c ≤ 9223372036854775807) (hlen : s.size * c ≤ 140737488355328) :
    Calls Tryz.prog 117 #[.string s, .int .i64 c] w fun e w' => e = .returned (.string ⟨(Lib.repeatL s.data.toList c).toArray⟩) ∧ Below w.heap.size w w' := Any.strings_Repeat Tryz.lays105 Tryz.Builder_Extra_105 s c w hc hlen
end Go.Proofs
namespace Go.Proofs.YtngoebbmgpdeiaaGreatDoor.Ky
open Go.RowKit Go.Shelf
def dig (d : Nat) : UInt8 := UInt8.ofNat (48 + d)
def decL (n : Nat) : List UInt8 := if h : n < 10 then [dig n] else decL (n / 10) ++ [dig (n % 10)]
theorem decL_small {n : Nat} (h : n < 10) : decL n = [dig n] := by rw [decL, dif_pos h]
theorem decL_big {n : Nat} (h : ¬ n < 10) : decL n = decL (n / 10) ++ [dig (n % 10)] := by rw [decL, dif_neg h]
def decB (n : Int) : ByteArray := if n < 0 then strB (45 :: decL (-n).toNat) else strB (decL n.toNat)
theorem decL_len (n : Nat) : ∀ k : Nat, n < 10 ^ (k + 1) → 1 ≤ (decL n).length ∧ (decL n).length ≤ k + 1
  | 0, h => by rw [decL_small (by simpa using h)]; simp
  | k + 1, h => by
    by_cases hs : n < 10
    · rw [decL_small hs]; simp
    · have := decL_len (n / 10) k (by rw [Nat.pow_succ] at h; omega)
      rw [decL_big hs, List.length_append]
      simp
      omega
def preB (a b : ByteArray) : Bool := decide (b.size ≤ a.size) && ((a.extract 0 b.size).toList == b.toList)
theorem sHas_any (a b : ByteArray) (w : World) : Calls Tryz.prog 118 #[.string a, .string b] w fun e w' => e = .returned (.bool (preB a b)) ∧ w = w' := by
  by_cases h : b.size ≤ a.size
  · have d1 : decide ((b.size : Int) ≤ (a.size : Int)) = true := by simp; omega
    have Fin : Hid (preB a b = ((a.extract 0 b.size).toList == b.toList)) := by unfold Hid preB; rw [decide_eq_true h]; rfl
    go_enter Tryz.func118, Tryz.ntmps118
    go_wp2
    go_ret
    exact ⟨ret_bool Fin.out.symm, rfl⟩
  · have d1 : decide ((b.size : Int) ≤ (a.size : Int)) = false := by simp; omega
    have Fin : Hid (preB a b = false) := by unfold Hid preB; rw [decide_eq_false h]; rfl
    go_enter Tryz.func118, Tryz.ntmps118
    go_wp2
    go_ret
    exact ⟨ret_bool Fin.out.symm, rfl⟩
theorem HasPrefix_any (a b : ByteArray) (w : World) : Calls Tryz.prog 80 #[.string a, .string b] w fun e w' => e = .returned (.bool (preB a b)) ∧ w = w' := by
  go_enter Tryz.func80, Tryz.ntmps80
  go_wp2_with fail
  refine (sHas_any _ _ _).mono ?_
  rintro e w' ⟨rfl, rfl⟩
  go_wp2
  go_ret
  exact ⟨rfl, rfl⟩
theorem dig_ext {d : Nat} (h : d < 10) : (⟨#[48, 49, 50, 51, 52, 53, 54, 55, 56, 57]⟩ : ByteArray).extract d (d + 1) = strB [dig d] := by
  have hd : d = 0 ∨ d = 1 ∨ d = 2 ∨ d = 3 ∨ d = 4 ∨ d = 5 ∨ d = 6 ∨ d = 7 ∨ d = 8 ∨ d = 9 := by omega
  rcases hd with rfl | rfl | rfl | rfl | rfl | rfl | rfl | rfl | rfl | rfl <;> rfl
theorem dig_run {d : Nat} (h : d < 10) (wx : World) : (Instr.slice 9 (.string ⟨#[48, 49, 50, 51, 52, 53, 54, 55, 56, 57]⟩) (some (.int .i64 (d : Int))) (some (.int .i64 ((d : Int) + 1))) none).run Tryz.prog wx = .ok (.string (strB [dig d])) wx := by
  have := run_slice_string (P := Tryz.prog) wx 9 ⟨#[48, 49, 50, 51, 52, 53, 54, 55, 56, 57]⟩ .i64 .i64 (d : Int) ((d : Int) + 1) Tryz.underlying9 (by omega) (by omega) (by show (d : Int) + 1 ≤ ((10 : Nat) : Int); omega)
  rw [this, ← dig_ext h]
  rfl
theorem decN_any (n : Nat) : ∀ (w : World), n ≤ 1000000000000000 → Calls Tryz.prog 116 #[.int .i64 n] w (Quiet (.string (strB (decL n))) w) := by
  induction n using Nat.strongRecOn with
  | ind n ih =>
    intro w hn
    by_cases hs : n < 10
    · have he := dig_run hs
      have hd := hid (decL_small hs)
      have d0 : decide ((n : Int) < 0) = false := by simp
      have d1 : decide ((n : Int) < 10) = true := by simp; omega
      go_enter Tryz.func116, Tryz.ntmps116
      go_wp2_with fail
      go_ret
      exact ⟨by rw [hd.out]; rfl, .refl _⟩
    · have hadd : ∀ wx, (Op.stringOp .add (strB (decL (n / 10))) (strB [dig (n % 10)])).run Tryz.prog wx = .ok (.string (strB (decL n))) wx := by
        intro wx
        have := decL_len (n / 10) 15 (by omega)
        rw [run_string_add_sum wx _ _ (by rw [strB_size, strB_size]; simp; omega), strB_add, ← decL_big hs]
      have he : ∀ wx, (Instr.slice 9 (.string ⟨#[48, 49, 50, 51, 52, 53, 54, 55, 56, 57]⟩) (some (.int .i64 ((n : Int) % 10))) (some (.int .i64 ((n : Int) % 10 + 1))) none).run Tryz.prog wx = .ok (.string (strB [dig (n % 10)])) wx := by
        intro wx
        have := dig_run (d := n % 10) (by omega) wx
        rwa [show ((n % 10 : Nat) : Int) = (n : Int) % 10 by omega] at this
      have i0 : Hid (∀ w, Calls Tryz.prog 116 #[.int .i64 ((n : Int) / 10)] w (Quiet (.string (strB (decL (n / 10)))) w)) := by
        intro w
        have := ih (n / 10) (by omega) w (by omega)
        rwa [show ((n / 10 : Nat) : Int) = (n : Int) / 10 by omega] at this
      clear ih
      have d0 : decide ((n : Int) < 0) = false := by simp
      have d1 : decide ((n : Int) < 10) = false := by simp; omega
      have g1 : IntKind.i64.wrap ((n : Int) / 10) = (n : Int) / 10 := IntWalk.i64_in _ (by omega)
      have g2 : IntKind.i64.wrap ((n : Int) % 10 + 1) = (n : Int) % 10 + 1 := IntWalk.i64_in _ (by omega)
      have g3 : IntKind.i64.wrap ((n : Int) % 10) = (n : Int) % 10 := IntWalk.i64_in _ (by omega)
      have g4 : (n : Int).tmod 10 = (n : Int) % 10 := Int.tmod_eq_emod_of_nonneg (by omega)
      go_enter Tryz.func116, Tryz.ntmps116
      go_wp2_with fail
      go_quiet ((go_at_call 116; exact quiet_dr (i0.out _)))
      go_wp2
      go_ret
      exact ⟨rfl, .mk1 _ _⟩
theorem str_add (a b : ByteArray) (h : a.size + b.size ≤ 9223372036854775807) (wx : World) : (Op.stringOp .add a b).run Tryz.prog wx = .ok (.string (a ++ b)) wx := run_string_add_sum wx a b h
theorem decB_len {n : Int} (h0 : -1000000000000000 ≤ n) (h1 : n ≤ 1000000000000000) : 1 ≤ (decB n).size ∧ (decB n).size ≤ 17 := by
  unfold decB
  split
  · have := decL_len (-n).toNat 15 (by omega)
    rw [strB_size]
    simp
    omega
  · have := decL_len n.toNat 15 (by omega)
    rw [strB_size]
    omega
theorem dec_any (n : Int) (h0 : -1000000000000000 ≤ n) (h1 : n ≤ 1000000000000000) (w : World) : Calls Tryz.prog 116 #[.int .i64 n] w (Quiet (.string (decB n)) w) := by
  by_cases h : n < 0
  · have hd : Hid (decB n = strB (45 :: decL (-n).toNat)) := by unfold Hid decB; rw [if_pos h]
    have i0 : Hid (∀ w, Calls Tryz.prog 116 #[.int .i64 (-n)] w (Quiet (.string (strB (decL (-n).toNat))) w)) := by
      intro w
      have := decN_any (-n).toNat w (by omega)
      rwa [show (((-n).toNat : Nat) : Int) = -n by omega] at this
    have hadd : ∀ wx, (Op.stringOp .add ⟨#[45]⟩ (strB (decL (-n).toNat))).run Tryz.prog wx = .ok (.string (strB (45 :: decL (-n).toNat))) wx := by
      intro wx
      have := decL_len (-n).toNat 15 (by omega)
      rw [run_string_add_sum wx _ _ (by rw [strB_size]; show 1 + _ ≤ _; omega)]
      rw [show (⟨#[45]⟩ : ByteArray) = strB [45] from rfl, strB_add]
      rfl
    have d0 : decide (n < 0) = true := by simpa using h
    go_enter Tryz.func116, Tryz.ntmps116
    go_wp2_with fail
    refine (i0.out _).mono ?_
    rintro e w1 ⟨rfl, hx⟩
    go_wp2
    go_ret
    exact ⟨by rw [hd.out]; rfl, hx⟩
  · have := decN_any n.toNat w (by omega)
    rw [show ((n.toNat : Nat) : Int) = n by omega] at this
    rw [show decB n = strB (decL n.toNat) by unfold decB; rw [if_neg h]]
    exact this
def repB (c : UInt8) (n : Nat) : ByteArray := strB (List.replicate n c)
theorem repB_size (c : UInt8) (n : Nat) : (repB c n).size = n := by unfold repB; rw [strB_size, List.length_replicate]
theorem repeat_one (c : UInt8) : ∀ n, Lib.repeatL [c] n = List.replicate n c
  | 0 => rfl
  | n + 1 => by rw [Lib.repeatL, repeat_one c n]; rfl
theorem rep_any (c : UInt8) (n : Nat) (h : n ≤ 100000) (w : World) : Calls Tryz.prog 117 #[.string ⟨#[c]⟩, .int .i64 n] w (Give (.string (repB c n)) w) := by
  refine (Tryz.strings_Repeat ⟨#[c]⟩ n w (by omega) (by show 1 * n ≤ _; omega)).mono ?_
  rintro e w' ⟨rfl, hb⟩
  exact ⟨by rw [repeat_one]; rfl, hb⟩
def strOk (n wd : Int) : Bool := isNumB n && (decide (1 ≤ wd) && decide (wd ≤ 254))
def strS (n wd : Int) : ByteArray := if strOk n wd then (if wd < (decB n).size then repB 42 wd.toNat else repB 32 (wd.toNat - (decB n).size) ++ decB n) else ByteArray.empty
def strE (n wd : Int) : Int := if strOk n wd then 0 else 1
def GiveSE (s : ByteArray) (x : Int) (w : World) (e : Ending) (w' : World) : Prop := e = .returned (.tuple #[.string s, .int .i64 x]) ∧ Ext w w'
theorem GiveSE.mk (s : ByteArray) (x : Int) {w w' : World} (h : Ext w w') : GiveSE s x w (.returned (.tuple #[.string s, .int .i64 x])) w' := ⟨rfl, h⟩
theorem str_no {n wd : Int} (h : strOk n wd = false) : strS n wd = ByteArray.empty ∧ strE n wd = 1 := by unfold strS strE; rw [h]; exact ⟨rfl, rfl⟩
theorem str_yes {n wd : Int} (h : strOk n wd = true) : strE n wd = 0 := by unfold strE; rw [h]; rfl
theorem str_long {n wd : Int} (h : strOk n wd = true) (hl : wd < (decB n).size) : strS n wd = repB 42 wd.toNat := by unfold strS; rw [if_pos h, if_pos hl]
theorem str_fits {n wd : Int} (h : strOk n wd = true) (hl : ¬ wd < (decB n).size) : strS n wd = repB 32 (wd.toNat - (decB n).size) ++ decB n := by unfold strS; rw [if_pos h, if_neg hl]
theorem Str_any (n wd : Int) (w : World) : Calls Tryz.prog 79 #[.int .i64 n, .int .i64 wd] w (GiveSE (strS n wd) (strE n wd) w) := by
  rcases Bool.eq_false_or_eq_true (isNumB n) with h0 | h0
  rotate_left
  · obtain ⟨e1, e2⟩ := str_no (n := n) (wd := wd) (by unfold strOk; rw [h0]; rfl)
    rw [e1, e2]
    clear e1 e2
    go_enter Tryz.func79, Tryz.ntmps79
    go_wp2_with fail
    refine (isNum_any _ _).mono ?_
    rintro e w1 ⟨rfl, rfl⟩
    go_wp2
    go_ret2
    exact ⟨rfl, Ext.refl _⟩
  by_cases hw : 1 ≤ wd ∧ wd ≤ 254
  rotate_left
  · obtain ⟨e1, e2⟩ := str_no (n := n) (wd := wd) (by unfold strOk; rw [h0]; simp; omega)
    rw [e1, e2]
    clear e1 e2
    by_cases hw1 : wd < 1
    · have d1 : decide (wd < 1) = true := by simpa using hw1
      clear hw
      go_enter Tryz.func79, Tryz.ntmps79
      go_wp2_with fail
      refine (isNum_any _ _).mono ?_
      rintro e w1 ⟨rfl, rfl⟩
      go_wp2
      go_ret2
      exact ⟨rfl, Ext.refl _⟩
    · have d1 : decide (wd < 1) = false := by simpa using hw1
      have d2 : decide (254 < wd) = true := by simp; omega
      clear hw hw1
      go_enter Tryz.func79, Tryz.ntmps79
      go_wp2_with fail
      refine (isNum_any _ _).mono ?_
      rintro e w1 ⟨rfl, rfl⟩
      go_wp2
      go_ret2
      exact ⟨rfl, Ext.refl _⟩
  have hok : strOk n wd = true := by unfold strOk; rw [h0]; simp; exact hw
  have hn := isNum_iff.1 h0
  have hb := decB_len hn.1 hn.2
  have d1 : decide (wd < 1) = false := by simp; omega
  have d2 : decide (254 < wd) = false := by simp; omega
  rw [str_yes hok]
  have hdec := hid (fun w => dec_any n hn.1 hn.2 w)
  obtain ⟨m, rfl⟩ : ∃ m : Nat, wd = (m : Int) := ⟨wd.toNat, by omega⟩
  by_cases hl : (m : Int) < (decB n).size
  · have d3 : decide ((m : Int) < ((decB n).size : Int)) = true := by simpa using hl
    have d4 : decide (m < (decB n).size) = true := by simpa using hl
    rw [str_long hok hl]
    have hr := hid (fun w => rep_any 42 m (by omega) w)
    clear hok hl hn
    generalize decB n = D at *
    go_enter Tryz.func79, Tryz.ntmps79
    go_wp2_with fail
    refine (isNum_any _ _).mono ?_
    rintro e w1 ⟨rfl, rfl⟩
    go_wp2_with fail
    refine (hdec.out _).mono ?_
    rintro e w1 ⟨rfl, hd⟩
    go_wp2_with fail
    refine (hr.out _).mono ?_
    rintro e w2 ⟨rfl, hx⟩
    go_wp2
    go_ret2
    exact ⟨rfl, ((Dr.ext hd).trans hx)⟩
  · have d3 : decide ((m : Int) < ((decB n).size : Int)) = false := by simpa using hl
    have d4 : decide (m < (decB n).size) = false := by simpa using hl
    rw [str_fits hok hl]
    have hm : (decB n).size ≤ m := by omega
    obtain ⟨j, hj⟩ : ∃ j : Nat, m = (decB n).size + j := ⟨m - (decB n).size, by omega⟩
    have hr := hid (fun w => rep_any 32 j (by omega) w)
    have hadd : ∀ wx, (Op.stringOp .add (repB 32 j) (decB n)).run Tryz.prog wx = .ok (.string (repB 32 j ++ decB n)) wx := str_add _ _ (by rw [repB_size]; omega)
    have ej : (m : Int) - ((decB n).size : Int) = (j : Int) := by omega
    rw [show (m : Int).toNat - (decB n).size = j by omega]
    replace ej := hid ej
    replace hm := hid hm
    replace hj := hid hj
    clear hok hl hn
    generalize decB n = D at *
    go_enter Tryz.func79, Tryz.ntmps79
    go_wp2_with fail
    refine (isNum_any _ _).mono ?_
    rintro e w1 ⟨rfl, rfl⟩
    go_wp2_with fail
    refine (hdec.out _).mono ?_
    rintro e w1 ⟨rfl, hd⟩
    go_wp2_with fail
    rw [ej.out]
    refine (hr.out _).mono ?_
    rintro e w2 ⟨rfl, hx⟩
    go_wp2
    go_ret2
    exact ⟨rfl, ((Dr.ext hd).trans hx)⟩
theorem isLeap_any (y : Int) (w : World) (h : 0 ≤ y) : Calls Tryz.prog 277 #[.int .i64 y] w fun e w' => e = .returned (.bool (leapB y)) ∧ w = w' := by
  rcases Bool.eq_false_or_eq_true (y % 4 == 0) with h1 | h1 <;> rcases Bool.eq_false_or_eq_true (y % 100 != 0) with h2 | h2 <;> rcases Bool.eq_false_or_eq_true (y % 400 == 0) with h3 | h3
  all_goals have Fin := hid (show leapB y = _ by unfold leapB; rw [h1, h2, h3])
  all_goals go_enter Tryz.func277, Tryz.ntmps277
  all_goals go_wp2
  all_goals go_ret
  all_goals exact ⟨ret_bool (by rw [Fin.out]; rfl), rfl⟩
theorem monthDays_any (y m : Int) (w : World) (h : 0 ≤ y) (h1 : 1 ≤ m) (h2 : m ≤ 12) : Calls Tryz.prog 246 #[.int .i64 y, .int .i64 m] w (Give (.int .i64 (mdS y m)) w) := by
  have hm : m = 2 ∨ m = 1 ∨ m = 3 ∨ m = 4 ∨ m = 5 ∨ m = 6 ∨ m = 7 ∨ m = 8 ∨ m = 9 ∨ m = 10 ∨ m = 11 ∨ m = 12 := by omega
  rcases hm with rfl | hm
  · rcases Bool.eq_false_or_eq_true (leapB y) with hl | hl
    · have Fin : Hid (mdS y 2 = 29) := by unfold Hid mdS; rw [if_pos rfl, leapN_t hl]; rfl
      go_enter Tryz.func246, Tryz.ntmps246
      go_wp2_with fail
      refine (isLeap_any _ _ h).mono ?_
      rintro e w' ⟨rfl, rfl⟩
      go_wp2
      go_ret
      exact ⟨ret_int Fin.out.symm, (Ext.refl w).alloc_right _⟩
    · have Fin : Hid (mdS y 2 = 28) := by unfold Hid mdS; rw [if_pos rfl, leapN_f hl]; rfl
      go_enter Tryz.func246, Tryz.ntmps246
      go_wp2_with fail
      refine (isLeap_any _ _ h).mono ?_
      rintro e w' ⟨rfl, rfl⟩
      go_wp2
      go_ret
      exact ⟨ret_int Fin.out.symm, (Ext.refl w).alloc_right _⟩
  · rcases hm with rfl | rfl | rfl | rfl | rfl | rfl | rfl | rfl | rfl | rfl | rfl
    all_goals
      go_enter Tryz.func246, Tryz.ntmps246
      go_wp2
      go_ret
      exact ⟨ret_int (by simp [mdS]), (Ext.refl w).alloc_right _⟩
theorem yearsDays_any (y : Int) (w : World) (h1 : 1 ≤ y) (h2 : y ≤ 10001) : Calls Tryz.prog 247 #[.int .i64 y] w fun e w' => e = .returned (.int .i64 (ydS y)) ∧ w = w' := by
  have Fin : Hid (365 * (y - 1) + (y - 1) / 4 - (y - 1) / 100 + (y - 1) / 400 = ydS y) := rfl
  go_enter Tryz.func247, Tryz.ntmps247
  go_wp2
  go_ret
  exact ⟨ret_int Fin.out, rfl⟩
theorem Split_any (n : Int) (w : World) : Calls Tryz.prog 244 #[.int .i64 n] w (Give4 (spY n) (spM n) (spD n) (spE n) w) := by
  rcases Bool.eq_false_or_eq_true (isDayB n) with hd | hd
  · have hn := isDay_iff.1 hd
    by_cases h0 : n = 0
    · subst h0
      have Fin := hid sp_zero
      go_enter Tryz.func244, Tryz.ntmps244
      go_wp2_with fail
      refine (isDay_any _ _).mono ?_
      rintro e w' ⟨rfl, rfl⟩
      go_wp2
      (try simp only [Exit.inBlock, Exit.then])
      refine bodyPost_ret (results_tmp4 rfl _ _ _) rfl ?_
      exact ⟨by rw [Fin.out.1, Fin.out.2.1, Fin.out.2.2.1, Fin.out.2.2.2]; rfl, Ext.refl _⟩
    · have d0 : (n == 0) = false := by simpa using h0
      have hg := guess_lt (n := n) (by omega)
      have g1 : 1 ≤ n / 366 + 1 := by omega
      have g2 : n / 366 + 1 ≤ 9999 := by omega
      have hn1 : 1 ≤ n := by omega
      have hn2 : n ≤ 3652059 := hn.2
      clear h0 hn
      go_enter Tryz.func244, Tryz.ntmps244
      go_wp2_with fail
      refine (isDay_any _ _).mono ?_
      rintro e w' ⟨rfl, rfl⟩
      go_wp2_with fail
      go_loopw [6] (fun a wr => (∃ y : Int, 1 ≤ y ∧ y ≤ 9999 ∧ Hid (ydS y < n) ∧ a = .int .i64 y) ∧ wr = w) (fun a _ => (9999 - intOf a).toNat)
      case atStart => exact ⟨⟨_, g1, g2, hg, rfl⟩, rfl⟩
      case round =>
        obtain ⟨⟨y, hy1, hy2, hy3, rfl⟩, rfl⟩ := hrel
        have hys := yd_in (y := y + 1) (by omega) (by omega)
        by_cases hc : ydS (y + 1) < n
        · have t1 : decide (ydS (y + 1) < n) = true := by simpa using hc
          have hlt : y < 9999 := by
            by_cases e : y = 9999
            · subst e; have := yd_10000; rw [show (9999 : Int) + 1 = 10000 from rfl, this] at hc; omega
            · omega
          have hc' := hid hc
          clear hc
          go_wp2_with fail
          refine (yearsDays_any (y + 1) _ (by omega) (by omega)).mono ?_
          rintro e w' ⟨rfl, rfl⟩
          go_wp2
          go_roundw
          case rel => exact ⟨⟨y + 1, by omega, by omega, hc', rfl⟩, by trivial⟩
          case measure => simp [intOf]; omega
        · have t1 : decide (ydS (y + 1) < n) = false := by simpa using hc
          have hyr := hid (cum_12s y hy1)
          have hye : Hid (n ≤ ydS y + cumS y 12) := by unfold Hid; rw [← hyr.out]; omega
          have hyl := yd_in (y := y) (by omega) (by omega)
          have hy3 := hy3.out
          clear hc hg g1 g2
          go_wp2_with fail
          refine (yearsDays_any (y + 1) _ (by omega) (by omega)).mono ?_
          rintro e w' ⟨rfl, rfl⟩
          go_wp2_with fail
          refine (yearsDays_any y _ (by omega) (by omega)).mono ?_
          rintro e w' ⟨rfl, rfl⟩
          clear t1 hys
          go_wp2_with fail
          go_loopw [7, 8] (fun a b wq => ∃ (k : Nat) (d : Int), k ≤ 11 ∧ 1 ≤ d ∧ d ≤ 366 ∧ Hid (d = n - ydS y - cumS y k) ∧ b = .int .i64 ((k : Int) + 1) ∧ a = .int .i64 d ∧ Hid (Ext wr wq)) (fun _ b _ => (12 - intOf b).toNat)
          case atStart =>
            refine ⟨0, n - ydS y, by omega, by omega, ?_, by simp [Hid, cumS], rfl, rfl, Ext.refl _⟩
            have := cum_12 y
            have := leapN_in y
            have := hye.out
            omega
          case round =>
            obtain ⟨k, d, hk, hd1, hd2, hde, rfl, rfl, hx⟩ := hrel
            have hmd := md_in y ((k : Int) + 1)
            have hcs : Hid (cumS y (k + 1) = cumS y k + mdS y ((k : Int) + 1)) := rfl
            by_cases hc : mdS y ((k : Int) + 1) < d
            · have t1 : decide (mdS y ((k : Int) + 1) < d) = true := by simpa using hc
              have hk10 : k ≤ 10 := by
                by_cases e : k = 11
                · subst e
                  have a1 := hde.out
                  have a2 := hcs.out
                  have a3 := hye.out
                  rw [show (11 + 1 : Nat) = 12 from rfl] at a2
                  omega
                · omega
              have hde2 : Hid (d - mdS y ((k : Int) + 1) = n - ydS y - cumS y (k + 1)) := by unfold Hid; rw [hcs.out, hde.out]; omega
              have b1 : 1 ≤ d - mdS y ((k : Int) + 1) := by omega
              have b2 : d - mdS y ((k : Int) + 1) ≤ 366 := by omega
              go_wp2_with fail
              refine (monthDays_any y ((k : Int) + 1) _ (by omega) (by omega) (by omega)).mono ?_
              rintro e w1 ⟨rfl, hx1⟩
              have hx2 := hid (hx.out.trans hx1)
              clear hx1
              go_wp2_with fail
              refine (monthDays_any y ((k : Int) + 1) _ (by omega) (by omega) (by omega)).mono ?_
              rintro e w2 ⟨rfl, hx3⟩
              have hx4 := hid (hx2.out.trans hx3)
              clear hx3 hc
              go_wp2
              go_roundw
              case rel => exact ⟨k + 1, _, by omega, b1, b2, hde2, by go_num, rfl, hx4⟩
              case measure => simp [intOf]; omega
            · have t1 : decide (mdS y ((k : Int) + 1) < d) = false := by simpa using hc
              have Fin : Hid (spY n = y ∧ spM n = (k : Int) + 1 ∧ spD n = d ∧ spE n = 0) := by
                refine sp_day ⟨hy1, hy2, by omega, by omega, hd1, by omega⟩ ?_
                have a1 := hde.out
                unfold dayS
                rw [show ((k : Int) + 1 - 1).toNat = k by omega]
                omega
              clear hc
              go_wp2_with fail
              refine (monthDays_any y ((k : Int) + 1) _ (by omega) (by omega) (by omega)).mono ?_
              rintro e w1 ⟨rfl, hx1⟩
              have hx2 := hid (hx.out.trans hx1)
              clear hx1
              go_wp2
              (try simp only [Exit.inBlock, Exit.then])
              refine bodyPost_ret (results_tmp4 rfl _ _ _) rfl ?_
              exact ⟨by rw [Fin.out.1, Fin.out.2.1, Fin.out.2.2.1, Fin.out.2.2.2]; rfl, hx2.out⟩
  · have Fin := hid (sp_no hd)
    go_enter Tryz.func244, Tryz.ntmps244
    go_wp2_with fail
    refine (isDay_any _ _).mono ?_
    rintro e w' ⟨rfl, rfl⟩
    go_wp2
    (try simp only [Exit.inBlock, Exit.then])
    refine bodyPost_ret (results_tmp4 rfl _ _ _) rfl ?_
    exact ⟨by rw [Fin.out.1, Fin.out.2.1, Fin.out.2.2.1, Fin.out.2.2.2]; rfl, Ext.refl _⟩
theorem spE_t {n : Int} (h : isDayB n = true) : spE n = 0 := by unfold spE; rw [if_pos h]
theorem spE_f {n : Int} (h : isDayB n = false) : spE n = 1 := by unfold spE; rw [h]; rfl
def padB (n : Int) (k : Nat) : ByteArray := repB 48 (k - (decB n).size) ++ decB n
theorem decB_small {n : Int} {k : Nat} (h0 : 0 ≤ n) (h : n < (10 ^ (k + 1) : Nat)) : (decB n).size ≤ k + 1 := by
  unfold decB
  rw [if_neg (by omega), strB_size]
  exact (decL_len n.toNat k (by omega)).2
theorem padB_size {n : Int} {k : Nat} (h : (decB n).size ≤ k) : (padB n k).size = k := by unfold padB; rw [ByteArray.size_append, repB_size]; omega
theorem padded_any (n : Int) (k : Nat) (w : World) (h0 : 0 ≤ n) (h1 : n ≤ 10000) (hk : (decB n).size ≤ k) (hk2 : k ≤ 100) : Calls Tryz.prog 245 #[.int .i64 n, .int .i64 (k : Int)] w (Give (.string (padB n k)) w) := by
  have hdec := hid (fun w => dec_any n (by omega) (by omega) w)
  obtain ⟨j, hj⟩ : ∃ j : Nat, k = (decB n).size + j := ⟨k - (decB n).size, by omega⟩
  have hr := hid (fun w => rep_any 48 j (by omega) w)
  have hadd : ∀ wx, (Op.stringOp .add (repB 48 j) (decB n)).run Tryz.prog wx = .ok (.string (repB 48 j ++ decB n)) wx := str_add _ _ (by rw [repB_size]; omega)
  have ej : (k : Int) - ((decB n).size : Int) = (j : Int) := by omega
  have hp : Hid (padB n k = repB 48 j ++ decB n) := by unfold Hid padB; rw [show k - (decB n).size = j by omega]
  replace ej := hid ej
  replace hj := hid hj
  generalize decB n = D at *
  generalize padB n k = R at *
  go_enter Tryz.func245, Tryz.ntmps245
  go_wp2_with fail
  refine (hdec.out _).mono ?_
  rintro e w1 ⟨rfl, hd⟩
  go_wp2_with fail
  rw [ej.out]
  refine (hr.out _).mono ?_
  rintro e w2 ⟨rfl, hx⟩
  go_wp2
  go_ret
  exact ⟨by rw [hp.out]; rfl, (Dr.ext hd).trans hx⟩
noncomputable def stB (n : Int) : ByteArray := padB (spY n) 4 ++ padB (spM n) 2 ++ padB (spD n) 2
theorem sp_sizes {n : Int} (h : isDayB n = true) : (0 ≤ spY n ∧ spY n ≤ 9999) ∧ (0 ≤ spM n ∧ spM n ≤ 12) ∧ (0 ≤ spD n ∧ spD n ≤ 31) := by
  by_cases h0 : n = 0
  · subst h0
    obtain ⟨a, b, c, _⟩ := sp_zero
    rw [a, b, c]
    omega
  · obtain ⟨⟨h1, h2, h3, h4, h5, h6⟩, _, _⟩ := sp_ok h h0
    have := md_in (spY n) (spM n)
    omega
theorem pads {y m d : Int} (hy : 0 ≤ y ∧ y ≤ 9999) (hm : 0 ≤ m ∧ m ≤ 12) (hd : 0 ≤ d ∧ d ≤ 31) : (decB y).size ≤ 4 ∧ (decB m).size ≤ 2 ∧ (decB d).size ≤ 2 :=
  ⟨decB_small (k := 3) hy.1 (by omega), decB_small (k := 1) hm.1 (by omega), decB_small (k := 1) hd.1 (by omega)⟩
theorem stB_size {n : Int} (h : isDayB n = true) : (stB n).size = 8 := by
  obtain ⟨hy, hm, hd⟩ := sp_sizes h
  obtain ⟨a, b, c⟩ := pads hy hm hd
  unfold stB
  rw [ByteArray.size_append, ByteArray.size_append, padB_size a, padB_size b, padB_size c]
theorem stamp_any (n : Int) (h : isDayB n = true) (w : World) : Calls Tryz.prog 214 #[.int .i64 n] w (Give (.string (stB n)) w) := by
  obtain ⟨hy, hm, hd⟩ := sp_sizes h
  obtain ⟨a, b, c⟩ := pads hy hm hd
  have c0 := hid (fun w => Split_any n w)
  have c1 := hid (fun w => padded_any (spY n) 4 w hy.1 (by omega) a (by omega))
  have c2 := hid (fun w => padded_any (spM n) 2 w hm.1 (by omega) b (by omega))
  have c3 := hid (fun w => padded_any (spD n) 2 w hd.1 (by omega) c (by omega))
  have a1 := str_add (padB (spY n) 4) (padB (spM n) 2) (by rw [padB_size a, padB_size b]; omega)
  have a2 := str_add (padB (spY n) 4 ++ padB (spM n) 2) (padB (spD n) 2) (by rw [ByteArray.size_append, padB_size a, padB_size b, padB_size c]; omega)
  rw [spE_t h] at c0
  have hp : Hid (stB n = padB (spY n) 4 ++ padB (spM n) 2 ++ padB (spD n) 2) := rfl
  clear a b c hy hm hd h
  generalize stB n = R at *
  generalize padB (spY n) 4 = Y at *
  generalize padB (spM n) 2 = M at *
  generalize padB (spD n) 2 = D at *
  generalize spY n = y at *
  generalize spM n = m at *
  generalize spD n = d at *
  go_enter Tryz.func214, Tryz.ntmps214
  go_wp2_with fail
  refine (c0.out _).mono ?_
  rintro e w1 ⟨rfl, hx1⟩
  go_wp2_with fail
  refine (c1.out _).mono ?_
  rintro e w2 ⟨rfl, hx2⟩
  go_wp2_with fail
  refine (c2.out _).mono ?_
  rintro e w3 ⟨rfl, hx3⟩
  go_wp2_with fail
  refine (c3.out _).mono ?_
  rintro e w4 ⟨rfl, hx4⟩
  go_wp2
  go_ret
  exact ⟨by rw [hp.out]; rfl, ((hx1.trans hx2).trans hx3).trans hx4⟩
def bl8 : ByteArray := ⟨#[32, 32, 32, 32, 32, 32, 32, 32]⟩
noncomputable def stS (n : Int) : ByteArray := if isDayB n then (if n = 0 then bl8 else stB n) else ByteArray.empty
theorem stS_no {n : Int} (h : isDayB n = false) : stS n = ByteArray.empty := by unfold stS; rw [h]; rfl
theorem stS_0 : stS 0 = bl8 := by unfold stS; rw [if_pos (by decide), if_pos rfl]
theorem stS_yes {n : Int} (h : isDayB n = true) (h0 : n ≠ 0) : stS n = stB n := by unfold stS; rw [if_pos h, if_neg h0]
theorem Stamp_any (n : Int) (w : World) : Calls Tryz.prog 185 #[.int .i64 n] w (GiveSE (stS n) (spE n) w) := by
  rcases Bool.eq_false_or_eq_true (isDayB n) with hd | hd
  rotate_left
  · rw [stS_no hd, spE_f hd]
    go_enter Tryz.func185, Tryz.ntmps185
    go_wp2_with fail
    refine (isDay_any _ _).mono ?_
    rintro e w' ⟨rfl, rfl⟩
    go_wp2
    go_ret2
    exact ⟨rfl, Ext.refl _⟩
  rw [spE_t hd]
  by_cases h0 : n = 0
  · subst h0
    rw [stS_0]
    go_enter Tryz.func185, Tryz.ntmps185
    go_wp2_with fail
    refine (isDay_any _ _).mono ?_
    rintro e w' ⟨rfl, rfl⟩
    go_wp2
    go_ret2
    exact ⟨rfl, Ext.refl _⟩
  rw [stS_yes hd h0]
  have d0 : (n == 0) = false := by simpa using h0
  have c := hid (fun w => stamp_any n hd w)
  generalize stB n = S at *
  go_enter Tryz.func185, Tryz.ntmps185
  go_wp2_with fail
  refine (isDay_any _ _).mono ?_
  rintro e w' ⟨rfl, rfl⟩
  go_wp2_with fail
  refine (c.out _).mono ?_
  rintro e w1 ⟨rfl, hx⟩
  go_wp2
  go_ret2
  exact ⟨rfl, hx⟩
end Go.Proofs.YtngoebbmgpdeiaaGreatDoor.Ky
namespace Go.Proofs.YtngoebbmgpdeiaaGreatDoor
open Go.RowKit Go.Shelf
def pgB (n : Int) : Bool := decide (0 ≤ n) && decide (n ≤ 2)
theorem isPage_any (n : Int) (w : World) : Calls Tryz.prog 62 #[.int .i64 n] w fun e w' => e = .returned (.bool (pgB n)) ∧ w = w' := by
  rcases Bool.eq_false_or_eq_true (decide (0 ≤ n)) with h1 | h1 <;> rcases Bool.eq_false_or_eq_true (decide (n ≤ 2)) with h2 | h2
  all_goals have Fin := hid (show pgB n = _ by unfold pgB; rw [h1, h2])
  all_goals go_enter Tryz.func62, Tryz.ntmps62
  all_goals go_wp2
  all_goals go_ret
  all_goals exact ⟨ret_bool (by rw [Fin.out]; rfl), rfl⟩
def ixF (p : Fd → Bool) : List Fd → Nat → Int
  | [], _ => -1
  | x :: l, k => if p x then k else ixF p l (k + 1)
theorem ixF_step (p : Fd → Bool) (l : List Fd) {k : Nat} (h : k < l.length) (m : Nat) : ixF p (l.drop k) m = if p (fth l k) then (m : Int) else ixF p (l.drop (k + 1)) (m + 1) := by
  rw [List.drop_eq_getElem_cons h, fth_get h]; rfl
theorem ixF_end (p : Fd → Bool) (l : List Fd) {k : Nat} (h : l.length ≤ k) (m : Nat) : ixF p (l.drop k) m = -1 := by rw [List.drop_of_length_le h]; rfl
theorem ixF_pos (p : Fd → Bool) : ∀ (l : List Fd) (m : Nat), decide (0 ≤ ixF p l m) = l.any p
  | [], m => by simp [ixF]
  | x :: l, m => by
    rw [ixF, List.any_cons]
    split
    · rename_i h; rw [h]; simp
    · rename_i h
      rw [ixF_pos p l (m + 1)]
      simp only [Bool.not_eq_true] at h
      rw [h]; rfl
theorem ixF_lt (p : Fd → Bool) : ∀ (l : List Fd) (m : Nat), 0 ≤ ixF p l m → ∃ k : Nat, ixF p l m = (m + k : Nat) ∧ k < l.length
  | [], m, h => by simp [ixF] at h
  | x :: l, m, h => by
    rw [ixF] at h ⊢
    split at h
    · rename_i hp; rw [if_pos hp]; exact ⟨0, rfl, by simp⟩
    · rename_i hp
      rw [if_neg hp]
      obtain ⟨k, h1, h2⟩ := ixF_lt p l (m + 1) h
      exact ⟨k + 1, by rw [h1]; congr 1; omega, by simpa using h2⟩
theorem ixF102 (A : Option Addr) (n c : Nat) (l : List Fd) (p : Fd → Bool) (w : World) (hl : RdF w A n c l) (hp : ∀ (x : Fd) (w' : World), Ext w w' → Calls Tryz.prog 102 #[fd x] w' (Give (.bool (p x)) w')) : Calls Tryz.prog 72 #[.slice A n c, .func (.func 102) #[] #[]] w (Give (.int .i64 (ixF p l 0)) w) := by
  have hmx := Rd.max hl
  have hlen := hid hl.len
  unfold fd at hp
  replace hp := hid hp
  have en : ∀ (a : Value) (w : World), (callFunc 102 #[a]).run Tryz.prog w = .ok (.enter 102 #[a]) w := fun a w => by kernel_rfl
  replace hl := hid hl
  rw [show l = l.drop 0 from rfl]
  go_enter Tryz.func72, Tryz.ntmps72
  go_wp2_with fail
  go_loopw [8] (fun i wr => ∃ k : Nat, k ≤ n ∧ i = .int .i64 k ∧ Hid (Ext w wr) ∧ Hid (ixF p (l.drop k) k = ixF p (l.drop 0) 0)) (fun i _ => n - (intOf i).toNat)
  case atStart => exact ⟨0, by omega, rfl, Ext.refl _, rfl⟩
  case round =>
    obtain ⟨k, hk, rfl, hx, hst⟩ := hrel
    by_cases hlt : k < n
    · obtain ⟨ad, rfl, x0, x1, x2, x3⟩ := (hl.out.ext hx.out).at_ hlt
      have hs := hid (ixF_step p l (by rw [hlen.out]; exact hlt) k)
      have hcl := hid (hp.out (fth l k))
      generalize fth l k = x at *
      rcases Bool.eq_false_or_eq_true (p x) with q | q
      · rw [q] at hcl
        have hr := hid (hst.out.symm.trans (hs.out.trans (if_pos q)))
        clear hst hs
        go_wp2_with fail
        refine (hcl.out _ hx.out).mono ?_
        rintro e w3 ⟨rfl, hx3⟩
        replace hx := hid (hx.out.trans hx3)
        clear hx3 q
        go_wp2
        go_ret
        exact ⟨by rw [hr.out]; rfl, hx.out⟩
      · rw [q] at hcl
        have hr := hid (((hs.out.trans (if_neg (by rw [q]; simp))).symm).trans hst.out)
        clear hst hs
        go_wp2_with fail
        refine (hcl.out _ hx.out).mono ?_
        rintro e w3 ⟨rfl, hx3⟩
        replace hx := hid (hx.out.trans hx3)
        clear hx3 q
        go_wp2
        go_roundw
        case rel => exact ⟨k + 1, by omega, by go_num, hx, hr⟩
        case measure => simp [intOf]; omega
    · obtain rfl : k = n := by omega
      have hr := hid (hst.out.symm.trans (ixF_end p l (by rw [hlen.out]; omega) k))
      clear hst
      go_wp2
      go_ret
      exact ⟨by rw [hr.out]; rfl, hx.out⟩
theorem ixF73 (A : Option Addr) (n c : Nat) (l : List Fd) (p : Fd → Bool) (g : Nat) (w : World) (hl : RdF w A n c l) (hp : ∀ (x : Fd) (w' : World), Ext w w' → Calls Tryz.prog 73 #[fd x, .pointer (some ⟨g, 0, none⟩)] w' (Give (.bool (p x)) w')) : Calls Tryz.prog 72 #[.slice A n c, .func (.func 73) #[] #[.pointer (some ⟨g, 0, none⟩)]] w (Give (.int .i64 (ixF p l 0)) w) := by
  have hmx := Rd.max hl
  have hlen := hid hl.len
  unfold fd at hp
  replace hp := hid hp
  have en : ∀ (a : Value) (w : World), (callFunc 73 #[a, .pointer (some ⟨g, 0, none⟩)]).run Tryz.prog w = .ok (.enter 73 #[a, .pointer (some ⟨g, 0, none⟩)]) w := fun a w => by kernel_rfl
  replace hl := hid hl
  rw [show l = l.drop 0 from rfl]
  go_enter Tryz.func72, Tryz.ntmps72
  go_wp2_with fail
  go_loopw [8] (fun i wr => ∃ k : Nat, k ≤ n ∧ i = .int .i64 k ∧ Hid (Ext w wr) ∧ Hid (ixF p (l.drop k) k = ixF p (l.drop 0) 0)) (fun i _ => n - (intOf i).toNat)
  case atStart => exact ⟨0, by omega, rfl, Ext.refl _, rfl⟩
  case round =>
    obtain ⟨k, hk, rfl, hx, hst⟩ := hrel
    by_cases hlt : k < n
    · obtain ⟨ad, rfl, x0, x1, x2, x3⟩ := (hl.out.ext hx.out).at_ hlt
      have hs := hid (ixF_step p l (by rw [hlen.out]; exact hlt) k)
      have hcl := hid (hp.out (fth l k))
      generalize fth l k = x at *
      rcases Bool.eq_false_or_eq_true (p x) with q | q
      · rw [q] at hcl
        have hr := hid (hst.out.symm.trans (hs.out.trans (if_pos q)))
        clear hst hs
        go_wp2_with fail
        refine (hcl.out _ hx.out).mono ?_
        rintro e w3 ⟨rfl, hx3⟩
        replace hx := hid (hx.out.trans hx3)
        clear hx3 q
        go_wp2
        go_ret
        exact ⟨by rw [hr.out]; rfl, hx.out⟩
      · rw [q] at hcl
        have hr := hid (((hs.out.trans (if_neg (by rw [q]; simp))).symm).trans hst.out)
        clear hst hs
        go_wp2_with fail
        refine (hcl.out _ hx.out).mono ?_
        rintro e w3 ⟨rfl, hx3⟩
        replace hx := hid (hx.out.trans hx3)
        clear hx3 q
        go_wp2
        go_roundw
        case rel => exact ⟨k + 1, by omega, by go_num, hx, hr⟩
        case measure => simp [intOf]; omega
    · obtain rfl : k = n := by omega
      have hr := hid (hst.out.symm.trans (ixF_end p l (by rw [hlen.out]; omega) k))
      clear hst
      go_wp2
      go_ret
      exact ⟨by rw [hr.out]; rfl, hx.out⟩
theorem cl73_any (x : Fd) (g : Nat) (s : ByteArray) (w : World) (hc : w.cell? ⟨g, 0, none⟩ = some (.string s)) : Calls Tryz.prog 73 #[fd x, .pointer (some ⟨g, 0, none⟩)] w (Give (.bool (x.nm.toList == s.toList)) w) := by
  have hF := F4.new w x
  have hx := hid (Ext.new w (.cells #[.string x.nm, .int .i64 x.k, .int .i64 x.wd, .bool x.nl] 64))
  have hc' := hx.out.cell hc
  have hg := World.block_lt_of_cell? _ _ hc'
  clear hc
  unfold fd
  go_enter Tryz.func73, Tryz.ntmps73
  go_upto_region 1 with fail
  generalize w.alloc (.cells #[.string x.nm, .int .i64 x.k, .int .i64 x.wd, .bool x.nl] 64) = w1 at *
  generalize w.heap.size = b at *
  obtain ⟨c0, c1, c2, c3, hb⟩ := hF
  go_wp2
  go_ret
  exact ⟨rfl, hx.out⟩
def ixN (l : List Fd) (s : ByteArray) : Int := ixF (fun x => x.nm.toList == s.toList) l 0
def GiveIB (x : Int) (b : Bool) (w : World) (e : Ending) (w' : World) : Prop := e = .returned (.tuple #[.int .i64 x, .bool b]) ∧ Ext w w'
theorem Index_any (A : Option Addr) (n c : Nat) (l : List Fd) (s : ByteArray) (w : World) (hl : RdF w A n c l) : Calls Tryz.prog 39 #[.slice A n c, .string s] w (GiveIB (max (ixN l s) 0) (decide (0 ≤ ixN l s)) w) := by
  have hx := hid (Ext.new w (.cells #[.string s] 9))
  have hc0 : (w.alloc (.cells #[.string s] 9)).cell? ⟨w.heap.size, 0, none⟩ = some (.string s) := Cs.new w [.string s] 9 0 _ rfl
  have hI := hid (fun w' (hx' : Ext w w') (hc : w'.cell? ⟨w.heap.size, 0, none⟩ = some (.string s)) => ixF73 A n c l (fun x => x.nm.toList == s.toList) w.heap.size w' (hl.ext hx') (fun x w'' hx'' => cl73_any x w.heap.size s w'' (hx''.cell hc)))
  have hN : Hid (ixF (fun x => x.nm.toList == s.toList) l 0 = ixN l s) := rfl
  rw [hN.out] at hI
  generalize ixN l s = N at *
  go_enter Tryz.func39, Tryz.ntmps39
  go_upto_region 1 with fail
  generalize w.alloc (.cells #[.string s] 9) = w1 at *
  have hI := hid (hI.out w1 hx.out hc0)
  generalize w.heap.size = b at *
  go_wp2_with fail
  refine hI.out.mono ?_
  rintro e w3 ⟨rfl, hx3⟩
  replace hx := hid (hx.out.trans hx3)
  clear hx3 hc0 hI
  by_cases q : 0 ≤ N
  · have e1 : max N 0 = N := Int.max_eq_left q
    replace e1 := hid e1
    go_wp2
    go_ret2
    exact ⟨by rw [e1.out, ← decide_eq_true q]; first | rfl | (rw [decide_eq_true q]; rfl), hx.out⟩
  · have e1 : max N 0 = 0 := Int.max_eq_right (by omega)
    replace e1 := hid e1
    go_wp2
    go_ret2
    exact ⟨by rw [e1.out]; rfl, hx.out⟩
def nulI (l : List Fd) : Int := (l.countP (fun f => f.nl) : Nat)
def nulB (l : List Fd) : Int := ((nulI l + 7) / 8)
theorem cnt_step (l : List Fd) {k : Nat} (h : k < l.length) : (l.take (k + 1)).countP (fun f => f.nl) = (l.take k).countP (fun f => f.nl) + (if (fth l k).nl then 1 else 0) := by
  rw [List.take_succ_eq_append_getElem h, List.countP_append, fth_get h]
  simp [List.countP_cons]
theorem cnt_le (l : List Fd) (k : Nat) : (l.take k).countP (fun f => f.nl) ≤ k := Nat.le_trans List.countP_le_length (by rw [List.length_take]; omega)
def widI (l : List Fd) : Int := (l.map (fun f => f.wd)).sum
theorem wid_step (l : List Fd) {k : Nat} (h : k < l.length) : widI (l.take (k + 1)) = widI (l.take k) + (fth l k).wd := by
  unfold widI
  rw [List.take_succ_eq_append_getElem h, List.map_append, List.sum_append, fth_get h]
  simp
def lenI (l : List Fd) : Int := 1 + nulB l + widI l
theorem nullBytes_any (A : Option Addr) (n c : Nat) (l : List Fd) (w : World) (hl : RdF w A n c l) (hn : n ≤ 1000) : Calls Tryz.prog 138 #[.slice A n c] w (Give (.int .i64 (nulB l)) w) := by
  have hmx := Rd.max hl
  have hlen := hid hl.len
  replace hl := hid hl
  go_enter Tryz.func138, Tryz.ntmps138
  go_wp2_with fail
  go_loopw [3, 8] (fun v i wr => ∃ k : Nat, k ≤ n ∧ i = .int .i64 k ∧ (∃ m : Nat, v = .int .i64 m ∧ m ≤ k ∧ Hid ((l.take k).countP (fun f => f.nl) = m)) ∧ Hid (Ext w wr)) (fun _ i _ => n - (intOf i).toNat)
  case atStart => exact ⟨0, by omega, rfl, ⟨0, rfl, by omega, by simp [Hid]⟩, Ext.refl _⟩
  case round =>
    obtain ⟨k, hk, rfl, ⟨m, rfl, hm, hc⟩, hx⟩ := hrel
    by_cases hlt : k < n
    · obtain ⟨ad, rfl, x0, x1, x2, x3⟩ := (hl.out.ext hx.out).at_ hlt
      have hs := hid (cnt_step l (by rw [hlen.out]; exact hlt))
      generalize fth l k = x at *
      have hF := F4.new wr x
      have hx3 := hid (Ext.new wr (.cells #[.string x.nm, .int .i64 x.k, .int .i64 x.wd, .bool x.nl] 64))
      go_upto_region 5 with fail
      generalize wr.alloc (.cells #[.string x.nm, .int .i64 x.k, .int .i64 x.wd, .bool x.nl] 64) = w1 at *
      generalize wr.heap.size = b at *
      obtain ⟨c0, c1, c2, c3, hb⟩ := hF
      replace hx := hid (hx.out.trans hx3.out)
      cases hq : x.nl with
      | true =>
        rw [hq] at c3
        have hs2 : Hid ((l.take (k + 1)).countP (fun f => f.nl) = m + 1) := by unfold Hid; rw [hs.out, hc.out, if_pos hq]
        clear hs hc hq
        go_wp2
        go_roundw
        case rel => exact ⟨k + 1, by omega, by go_num, ⟨m + 1, by go_num, by omega, hs2⟩, hx⟩
        case measure => simp [intOf]; omega
      | false =>
        rw [hq] at c3
        have hs2 : Hid ((l.take (k + 1)).countP (fun f => f.nl) = m) := by unfold Hid; rw [hs.out, hc.out, if_neg (by rw [hq]; simp)]; omega
        clear hs hc hq
        go_wp2
        go_roundw
        case rel => exact ⟨k + 1, by omega, by go_num, ⟨m, rfl, by omega, hs2⟩, hx⟩
        case measure => simp [intOf]; omega
    · obtain rfl : k = n := by omega
      have hN : Hid (nulB l = ((m : Int) + 7) / 8) := by
        unfold Hid nulB nulI
        rw [← hc.out, List.take_of_length_le (by rw [hlen.out]; omega)]
      clear hc
      have a1 := IntWalk.i64_in ((m : Int) + 7) (by omega)
      have a2 := Int.tdiv_eq_ediv_of_nonneg (a := (m : Int) + 7) (b := 8) (by omega)
      go_wp2
      go_ret
      exact ⟨ret_int (by rw [hN.out]), hx.out⟩
end Go.Proofs.YtngoebbmgpdeiaaGreatDoor
