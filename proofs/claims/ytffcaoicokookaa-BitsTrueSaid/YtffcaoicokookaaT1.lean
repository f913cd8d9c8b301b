import Derived.Test.YtffcaoicokookaaProg
import Derived.Test.YtffcaoicokookaaBase
namespace Go.Proofs.Ytffcaoicokookaa
open Go.RowKit

def hasS (l : List Int) (x : Int) : Bool := l.contains x
def sameS (l m : List Int) : Bool := decide (l = m)

theorem has_round (l : List Int) (x : Int) (k : Nat) (hk : k < l.length) (h : hasS (l.take k) x = false) (hx : (nth l k == x) = false) : hasS (l.take (k+1)) x = false := by
  unfold hasS at *
  rw [List.take_succ_eq_append_getElem hk]
  simp [nth_lt hk] at hx
  simp only [List.contains_append, h, Bool.false_or]
  simp
  exact fun e => hx e.symm
theorem has_hit (l : List Int) (x : Int) (k : Nat) (hk : k < l.length) (hx : (nth l k == x) = true) : hasS l x = true := by
  simp [nth_lt hk] at hx
  simp [hasS, ← hx]


set_option maxHeartbeats 400000 in
theorem has_any (A : Option Addr) (n c : Nat) (l : List Int) (x : Int) (w : World) (hs : RdI w A n c l) :
    Calls Try.prog 32 #[.slice A n c, .int .i64 x] w fun e w' => e = .returned (.bool (hasS l x)) ∧ w = w' := by
  have Hl := hid hs.len
  have hm := hs.max
  go_enter Try.func32, Try.ntmps32
  go_wp2
  go_loop [5] (fun i => ∃ k : Nat, k ≤ n ∧ i = .int .i64 k ∧ hasS (l.take k) x = false) (fun i => n - (intOf i).toNat)
  case atStart => exact ⟨0, by omega, rfl, by simp [hasS]⟩
  case round =>
    obtain ⟨k, hk, rfl, hno⟩ := hrel
    have Hno := hid hno; clear hno
    by_cases hlt : k < n
    · obtain ⟨ad, rfl, hc⟩ := hs.at_ hlt
      go_wp2
      · go_ret
        exact ⟨ret_bool (has_hit l x k (by rw [Hl.out]; exact hlt) (by assumption)).symm, rfl⟩
      · go_round
        case rel => exact ⟨k + 1, by omega, by go_num, has_round l x k (by rw [Hl.out]; exact hlt) Hno.out (by assumption)⟩
        case measure => simp [intOf]; omega
    · go_wp2
      go_ret
      have := Hno.out
      rw [List.take_of_length_le (by rw [Hl.out]; omega)] at this
      exact ⟨ret_bool this.symm, rfl⟩

theorem same_round (l m : List Int) (k : Nat) (hl : k < l.length) (hm : k < m.length) (h : l.take k = m.take k) (he : (nth l k != nth m k) = false) : l.take (k+1) = m.take (k+1) := by
  rw [List.take_succ_eq_append_getElem hl, List.take_succ_eq_append_getElem hm, h]
  simp [nth_lt hl, nth_lt hm] at he
  rw [he]
theorem same_no (l m : List Int) (k : Nat) (hl : k < l.length) (hm : k < m.length) (he : (nth l k != nth m k) = true) : sameS l m = false := by
  simp [nth_lt hl, nth_lt hm] at he
  simp [sameS]
  rintro rfl
  exact he rfl

set_option maxHeartbeats 400000 in
theorem same_any (A : Option Addr) (n c : Nat) (l : List Int) (B : Option Addr) (m d : Nat) (k : List Int) (w : World) (hs : RdI w A n c l) (ht : RdI w B m d k) :
    Calls Try.prog 15 #[.slice A n c, .slice B m d] w (Quiet (.bool (sameS l k)) w) := by
  have hl := hs.len
  have hk := ht.len
  have hm := hs.max
  by_cases hnm : n = m
  · subst hnm
    have hb : ((n : Int) != (n : Int)) = false := by simp
    have Hl := hid hl; clear hl
    have Hk := hid hk; clear hk
    go_enter Try.func15, Try.ntmps15
    go_wp2
    go_loopw [5] (fun i wr => (∃ j : Nat, j ≤ n ∧ i = .int .i64 j ∧ l.take j = k.take j) ∧ Dr w wr) (fun i _ => n - (intOf i).toNat)
    case atStart => exact ⟨⟨0, by omega, rfl, by simp⟩, Dr.refl _⟩
    case round =>
      obtain ⟨⟨j, hj, rfl, hno⟩, q, rfl⟩ := hrel
      have Hno := hid hno; clear hno
      by_cases hlt : j < n
      · obtain ⟨ad, rfl, hc⟩ := hs.at_ hlt
        obtain ⟨bd, rfl, hd⟩ := ht.at_ hlt
        go_wp2
        go_quiet (fail)
        go_wp2
        · go_ret
          exact ⟨ret_bool (same_no l k j (by rw [Hl.out]; exact hlt) (by rw [Hk.out]; exact hlt) (by assumption)).symm, by first | exact Dr.mk1 _ _ | exact Dr.mk2 _ _ _⟩
        · go_roundw
          case rel => exact ⟨⟨j + 1, by omega, by go_num, same_round l k j (by rw [Hl.out]; exact hlt) (by rw [Hk.out]; exact hlt) Hno.out (by assumption)⟩, by first | exact Dr.mk1 _ _ | exact Dr.mk2 _ _ _⟩
          case measure => simp [intOf]; omega
      · go_wp2
        go_ret
        have h := Hno.out
        rw [List.take_of_length_le (by rw [Hl.out]; omega), List.take_of_length_le (by rw [Hk.out]; omega)] at h
        exact ⟨ret_bool (by simp [sameS, h]), Dr.mk1 _ _⟩
  · have hb : ((n : Int) != (m : Int)) = true := by simp; omega
    have h : sameS l k = false := by simp [sameS]; rintro rfl; omega
    clear hl hk
    go_enter Try.func15, Try.ntmps15
    go_wp2
    go_ret
    exact ⟨ret_bool h.symm, Dr.refl _⟩
end Go.Proofs.Ytffcaoicokookaa
