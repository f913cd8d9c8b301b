import Derived.Test.YtffcaoicokookaaT4
namespace Go.Proofs.Ytffcaoicokookaa
open Go.RowKit
theorem less73 (x y : Int) (w : World) : Calls Try.prog 73 #[.int .i64 x, .int .i64 y] w fun e w' => e = .returned (.bool (decide (x < y))) ∧ w = w' := by
  by_cases h : x < y
  · have d : decide (x < y) = true := by simpa using h
    go_enter Try.func73, Try.ntmps73
    go_wp2
    go_ret
    exact ⟨ret_bool d.symm, rfl⟩
  · have d : decide (x < y) = false := by simpa using h
    have e1 : (x != x) = false := by simp
    have e2 : (y != y) = false := by simp
    go_enter Try.func73, Try.ntmps73
    go_wp2
    go_ret
    exact ⟨rfl, rfl⟩

def Asc (l : List Int) : Prop := ∀ i j, i < j → j < l.length → nth l i < nth l j
def cntS (l : List Int) (x : Int) : Nat := (l.filter (fun y => decide (y < x))).length
theorem cntS_le (l : List Int) (x : Int) : cntS l x ≤ l.length := List.length_filter_le _ _

theorem mem_nth {l : List Int} {y : Int} (h : y ∈ l) : ∃ k, k < l.length ∧ nth l k = y := by
  obtain ⟨k, hk, rfl⟩ := List.getElem_of_mem h
  exact ⟨k, hk, nth_lt hk⟩
theorem cnt_of (l : List Int) (x : Int) (p : Nat) (hp : p ≤ l.length) (h1 : ∀ k, k < p → nth l k < x) (h2 : ∀ k, p ≤ k → k < l.length → x ≤ nth l k) : cntS l x = p := by
  unfold cntS
  rw [← List.take_append_drop p l, List.filter_append, List.length_append, List.filter_eq_self.2, List.filter_eq_nil_iff.2]
  · simp; omega
  · intro y hy
    obtain ⟨k, hk, rfl⟩ := mem_nth hy
    have := h2 (p + k) (by omega) (by simp at hk; omega)
    simp [nth] at this ⊢
    omega
  · intro y hy
    obtain ⟨k, hk, rfl⟩ := mem_nth hy
    have hk' : k < p := by simp at hk; omega
    have := h1 k hk'
    simp [nth, hk'] at this ⊢
    exact this
def CntPost (l : List Int) (x : Int) (w : World) (e : Ending) (w' : World) : Prop := ∃ b, e = .returned (.tuple #[.int .i64 (cntS l x), .bool b]) ∧ w = w'
theorem cnt_post {l : List Int} {x : Int} {p n : Nat} {b : Bool} {w : World} (hl : l.length = n) (hp : p ≤ n) (h1 : ∀ k, k < p → nth l k < x) (h2 : ∀ k, p ≤ k → k < n → x ≤ nth l k) : CntPost l x w (.returned (.tuple #[.int .i64 (p : Int), .bool b])) w :=
  ⟨b, by rw [cnt_of l x p (by omega) h1 (by rw [hl]; exact h2)], rfl⟩
theorem asc_lo {l : List Int} {x : Int} {n h : Nat} (hl : l.length = n) (ha : Asc l) (hh : h < n) (hx : nth l h < x) : ∀ k, k < h + 1 → nth l k < x := by
  intro k hk
  by_cases e : k = h
  · subst e; exact hx
  · have := ha k h (by omega) (by omega); omega
theorem asc_hi {l : List Int} {x : Int} {n h : Nat} (hl : l.length = n) (ha : Asc l) (hx : ¬ nth l h < x) : ∀ k, h ≤ k → k < n → x ≤ nth l k := by
  intro k hk hn
  by_cases e : h = k
  · subst e; omega
  · have := ha h k (by omega) (by omega); omega

set_option maxRecDepth 100000 in
set_option maxHeartbeats 400000 in
theorem bs_any (A : Option Addr) (n c : Nat) (l : List Int) (x : Int) (w : World) (hs : RdI w A n c l) (ha : Asc l) (hn : n ≤ 10000) :
    Calls Try.prog 71 #[.slice A n c, .int .i64 x] w (CntPost l x w) := by
  have Hl := hid hs.len
  have Ha := hid ha
  clear ha
  have hm := hs.max
  go_enter Try.func71, Try.ntmps71
  go_wp2
  go_loop [7, 8] (fun i j => ∃ p q : Nat, p ≤ q ∧ q ≤ n ∧ i = .int .i64 p ∧ j = .int .i64 q ∧ Hid (∀ k, k < p → nth l k < x) ∧ Hid (∀ k, q ≤ k → k < n → x ≤ nth l k)) (fun i j => (intOf j - intOf i).toNat)
  case atStart => exact ⟨0, n, by omega, by omega, rfl, rfl, fun k h => by omega, fun k h h' => by omega⟩
  case round =>
    obtain ⟨p, q, hp, hq, rfl, rfl, h1, h2⟩ := hrel
    by_cases hlt : p < q
    · obtain ⟨ad, rfl, -⟩ := hs.at_ (k := p) (by omega)
      have hc := hs.cells (k := (p + q) / 2) (by omega)
      have ew : IntKind.u64.wrap ((p : Int) + (q : Int)) = (p : Int) + q := by rw [IntKind.wrap_u64]; omega
      by_cases hx : nth l ((p + q) / 2) < x
      · have d : decide (nth l ((p + q) / 2) < x) = true := by simpa using hx
        go_wp2_with (go_at_call 73; refine (less73 _ _ _).mono ?_; rintro e w' ⟨rfl, rfl⟩)
        go_round
        case rel => exact ⟨(p + q) / 2 + 1, q, by omega, by omega, by go_num, rfl, asc_lo Hl.out Ha.out (by omega) hx, h2⟩
        case measure => simp [intOf]; omega
      · have d : decide (nth l ((p + q) / 2) < x) = false := by simpa using hx
        go_wp2_with (go_at_call 73; refine (less73 _ _ _).mono ?_; rintro e w' ⟨rfl, rfl⟩)
        go_round
        case rel => exact ⟨p, (p + q) / 2, by omega, by omega, rfl, by go_num, h1, asc_hi Hl.out Ha.out (by omega)⟩
        case measure => simp [intOf]; omega
    · obtain rfl : p = q := by omega
      have fin : ∀ b, CntPost l x w (.returned (.tuple #[.int .i64 (p : Int), .bool b])) w := fun b => cnt_post Hl.out hq h1.out h2.out
      have Fin := hid fin
      clear fin
      by_cases hpn : p < n
      · obtain ⟨ad, rfl, hc⟩ := hs.at_ hpn
        have e1 : (nth l p != nth l p) = false := by simp
        by_cases hx : nth l p = x
        · have e2 : (nth l p == x) = true := by simpa using hx
          clear hx
          go_wp2
          go_ret2
          exact Fin.out _
        · have e2 : (nth l p == x) = false := by simpa using hx
          clear hx
          go_wp2
          go_ret2
          exact Fin.out _
      · go_wp2
        go_ret2
        exact Fin.out _

theorem mover1_any (a : Addr) (A : Option Addr) (n c : Nat) (l : List Int) (x : Int) (w : World) (hs : RdI w A n c l) (ha : Asc l) (hn : n ≤ 10000) (hx : 0 ≤ x) (hx2 : x ≤ 10000) (hc : w.cell? a = some (.slice A n c)) :
    Calls Try.prog 70 #[.int .i64 x, .pointer (some a)] w fun e w' => e = .returned (.int .i64 (x - cntS l x)) ∧ w = w' := by
  have hle : cntS l x ≤ 10000 := by have := cntS_le l x; have := hs.len; omega
  go_enter Try.func70, Try.ntmps70
  go_wp2_with fail
  refine (bs_any _ _ _ _ _ _ hs ha hn).mono ?_
  rintro e w' ⟨b, rfl, rfl⟩
  go_wp2
  go_ret
  exact ⟨rfl, rfl⟩

theorem mover_any (A : Option Addr) (n c : Nat) (w : World) :
    Calls Try.prog 48 #[.slice A n c] w fun e w' => e = .returned (.func (.func 70) #[] #[.pointer (some ⟨w.heap.size, 0, none⟩)]) ∧ w.alloc (.cells #[.slice A n c] 22) = w' := by
  have hmf : ∀ (fn : Fn) (first cap : Array Value) (w : World), (Instr.makeFunc fn first cap).run Try.prog w = .ok (.func fn first cap) w := fun _ _ _ _ => rfl
  go_enter Try.func48, Try.ntmps48
  go_wp2
  go_ret
  exact ⟨rfl, rfl⟩
def andNot (a b : Bool) : Bool := a && !b
theorem inFirst50 (a b : Bool) (w : World) : Calls Try.prog 50 #[.bool a, .bool b] w fun e w' => e = .returned (.bool (andNot a b)) ∧ w = w' := by
  cases a <;> cases b <;> (go_enter Try.func50, Try.ntmps50; go_wp2; go_ret; exact ⟨rfl, rfl⟩)
theorem inBoth53 (a b : Bool) (w : World) : Calls Try.prog 53 #[.bool a, .bool b] w fun e w' => e = .returned (.bool (and a b)) ∧ w = w' := by
  cases a <;> cases b <;> (go_enter Try.func53, Try.ntmps53; go_wp2; go_ret; exact ⟨rfl, rfl⟩)
theorem inAny56 (a b : Bool) (w : World) : Calls Try.prog 56 #[.bool a, .bool b] w fun e w' => e = .returned (.bool (or a b)) ∧ w = w' := by
  cases a <;> cases b <;> (go_enter Try.func56, Try.ntmps56; go_wp2; go_ret; exact ⟨rfl, rfl⟩)

theorem isSetS_at {N : Int} {l : List Int} (h : isSetS N l = true) {k : Nat} (hk : k < l.length) : 1 ≤ nth l k ∧ nth l k ≤ N ∧ (0 < k → nth l (k-1) < nth l k) := by
  unfold isSetS okTo at h
  rw [List.all_eq_true] at h
  have := h k (by simpa using hk)
  simp [okAt] at this
  exact ⟨this.1.1, this.1.2, fun h0 => this.2.resolve_left (by omega)⟩
theorem asc_of {N : Int} {l : List Int} (h : isSetS N l = true) : Asc l := by
  intro i j hij hj
  have key : ∀ d, i + 1 + d < l.length → nth l i < nth l (i + 1 + d) := by
    intro d
    induction d with
    | zero => intro hd; have := (isSetS_at h hd).2.2 (by omega); simpa using this
    | succ d ih =>
      intro hd
      have h1 := ih (by omega)
      have h2 := (isSetS_at h hd).2.2 (by omega)
      rw [show i + 1 + (d + 1) - 1 = i + 1 + d by omega] at h2
      omega
  have := key (j - i - 1) (by omega)
  rwa [show i + 1 + (j - i - 1) = j by omega] at this

def movedS (g : List Int) (x : Int) : Int := x - cntS g x
def mapS (f : Int → Int) (l : List Int) (k : Nat) : List Int := (l.take k).map f
theorem mapS_succ (f : Int → Int) (l : List Int) (k : Nat) (hk : k < l.length) : mapS f l (k+1) = mapS f l k ++ [f (nth l k)] := by
  unfold mapS
  rw [List.take_succ_eq_append_getElem hk, nth_lt hk, List.map_append]
  rfl
def shiftS (l g : List Int) : List Int := mapS (movedS g) (joinS andNot l g) (joinS andNot l g).length
end Go.Proofs.Ytffcaoicokookaa
