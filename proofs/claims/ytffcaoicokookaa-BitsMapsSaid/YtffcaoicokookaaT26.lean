import Derived.Test.YtffcaoicokookaaP3
import Derived.OwnWalk
namespace Go.Proofs.Ytffcaoicokookaa
open Go.RowKit
set_option linter.unusedVariables false
set_option linter.unusedSimpArgs false

theorem made_zero (m : Nat) : (madeCells #[Value.int .u8 0] m).toList = bytesC (mapL [] m) := by
  rw [mapL_nil]
  apply List.ext_getElem
  · simp [madeCells]
  · intro i h1 h2
    simp [madeCells, Value.cells, Nat.mod_one]
theorem step_fact {N : Int} {l : List Int} (h : isSetS N l = true) {k : Nat} (hk : k < l.length) : ∃ j : Nat, nth l k = (j : Int) + 1 ∧ (j : Int) < N ∧ ((j : Int) + 1) ∉ l.take k ∧ l.take (k + 1) = l.take k ++ [(j : Int) + 1] := by
  have hx := isSetS_at h hk
  have hp := isSetS_pair h
  refine ⟨(nth l k - 1).toNat, by omega, by omega, ?_, ?_⟩
  · rw [show (((nth l k - 1).toNat : Nat) : Int) + 1 = nth l k by omega]
    intro hm
    obtain ⟨i, hi, e⟩ := List.mem_iff_getElem.1 hm
    rw [List.getElem_take] at e
    have hi' : i < k := by simp at hi; omega
    have := (List.pairwise_iff_getElem.1 hp) i k (by omega) hk hi'
    rw [nth_lt hk] at e
    omega
  · rw [show (((nth l k - 1).toNat : Nat) : Int) + 1 = nth l k by omega, List.take_succ_eq_append_getElem hk, nth_lt hk]

set_option maxRecDepth 100000 in
set_option maxHeartbeats 2000000 in
theorem Map_nc (A : Option Addr) (n c : Nat) (l : List Int) (N : Int) (w : World) (hs : RdI w A n c l) (h1 : countB N = false) : Calls Try.prog 43 #[.slice A n c, .int .i64 N] w (GiveBy [] 1 w) := by
  go_enter Try.func43, Try.ntmps43
  go_wp2_with fail
  refine (isCount_any _ _).mono ?_
  rintro e w1 ⟨rfl, rfl⟩
  go_wp2
  go_ret2
  exact ⟨_, _, _, rfl, Rd.none_ _ 1, Ext.refl _, Fr.none_ _⟩

set_option maxRecDepth 100000 in
set_option maxHeartbeats 2000000 in
theorem Map_ns (A : Option Addr) (n c : Nat) (l : List Int) (N : Int) (w : World) (hs : RdI w A n c l) (h1 : countB N = true) (h2 : isSetS N l = false) : Calls Try.prog 43 #[.slice A n c, .int .i64 N] w (GiveBy [] 1 w) := by
  go_enter Try.func43, Try.ntmps43
  go_wp2_with fail
  refine (isCount_any _ _).mono ?_
  rintro e w1 ⟨rfl, rfl⟩
  go_wp2_with fail
  refine (isSet_any _ _ _ _ _ _ hs).mono ?_
  rintro e w2 ⟨rfl, hd⟩
  go_wp2
  go_ret2
  exact ⟨_, _, _, rfl, Rd.none_ _ 1, hd.ext, Fr.none_ _⟩

set_option maxRecDepth 100000 in
set_option maxHeartbeats 2000000 in
theorem Map_yes (A : Option Addr) (n c : Nat) (l : List Int) (N : Int) (m : Nat) (w : World) (hs : RdI w A n c l) (h0 : 0 ≤ N ∧ N ≤ 300) (hm : (N + 7) / 8 = (m : Int)) (h1 : countB N = true) (h2 : isSetS N l = true) : Calls Try.prog 43 #[.slice A n c, .int .i64 N] w (GiveBy (mapL l m) 0 w) := by
  obtain ⟨i0, hi, hz0, hz1, hz2⟩ := info_parts Try.info5
  have Hl := hid hs.len
  have hmx := hs.max
  have Hst := hid (fun (k : Nat) (hk : k < l.length) => step_fact h2 hk)
  have ew := IntWalk.i64_in (N + 7) (by omega)
  have hm38 : m ≤ 38 := by omega
  go_enter Try.func43, Try.ntmps43
  go_wp2_with fail
  refine (isCount_any _ _).mono ?_
  rintro e w1 ⟨rfl, rfl⟩
  go_wp2_with fail
  refine (isSet_any _ _ _ _ _ _ hs).mono ?_
  rintro e w2 ⟨rfl, hd⟩
  have Hd := hid hd.ext
  have hds := hd.ext.size
  clear hd
  go_wp2_with (at_make; refine wpList_make_full _ rfl _ _ 53 rfl w.heap.size 5 i0 (.int .u8 0) 1 Try.underlying53 hi hz0 hz1 _ _ _ _ m rfl rfl hm hm (by rw [hz2]; omega) (by unfold maxLen; omega) hds ?_)
  intro w3 hown hgr
  rw [made_zero] at hown
  have hb3 : Below w.heap.size w w3 := Below.grown Hd.out hgr hds (by simp)
  clear hgr
  go_wp2
  go_loopw [24] (fun i wr => ∃ k : Nat, k ≤ n ∧ i = .int .i64 k ∧ wr.ownsRow w.heap.size 5 1 (.slice (some ⟨w2.heap.size, 0, none⟩) m m) m (bytesC (mapL (l.take k) m)) ∧ Below w.heap.size w wr) (fun i _ => n - (intOf i).toNat)
  case atStart => exact ⟨0, by omega, rfl, hown, hb3⟩
  case round =>
    obtain ⟨k, hk, rfl, hownk, hb⟩ := hrel
    have hbs := hb.size
    by_cases hlt : k < n
    · obtain ⟨ad, rfl, hc⟩ := (hs.ext (w' := wr) hb).at_ hlt
      obtain ⟨j, hj, hjN, hjn, htk⟩ := Hst.out k (by rw [Hl.out]; exact hlt)
      rw [hj] at hc
      have hor := or_add _ _ hjn
      have hj8 : j / 8 < m := by omega
      have hset := hid (mapL_set (l.take k) m j hj8 hjn)
      have Htk := hid htk
      have hin := mbyte_in (l.take k) (j / 8)
      have hor1 := hor.1
      have hwr := u8_in (mbyte (l.take k) (j / 8) + 2 ^ (j % 8)) hor.2.1 hor.2.2
      have hcell : wr.cell? ⟨w2.heap.size, j / 8, none⟩ = some (.int .u8 (mbyte (l.take k) (j / 8))) := by rw [World.ownsRow.cellAt hownk _ (by omega)]; exact mapL_at _ _ _ hj8
      have hfree : wr.frozen? ⟨w2.heap.size, j / 8, none⟩ = false := World.ownsRow.frozenAt hownk _
      have st1 := World.ownsRow.stored hownk (j / 8) (.int .u8 (mbyte (l.take k) (j / 8) + 2 ^ (j % 8)))
      rw [hset.out, ← Htk.out] at st1
      have St1 := hid st1.1
      have St2 := hid (below_push hb hownk st1.2 hbs)
      have h2m : (2 : Int) ^ (j % 8) % 256 = 2 ^ (j % 8) := by
        rcases eight (show j % 8 < 8 by omega) with h | h | h | h | h | h | h | h <;> rw [h] <;> rfl
      have j1 : ((j / 8 : Nat) : Int) < (m : Int) := by omega
      clear st1 hjn htk hj hor hown hb3
      go_wp2
      go_region
      go_wp2
      go_roundw
      case rel => exact ⟨k + 1, by omega, by go_num, own_drewN St1.out 1, below_drewN St2.out 1⟩
      case measure => simp [intOf]; omega
    · go_wp2
      go_ret2
      obtain rfl : k = n := by omega
      have hl2 : l.take k = l := List.take_of_length_le (by rw [Hl.out]; omega)
      rw [hl2] at hownk
      exact ⟨_, _, _, rfl, Rd.of_own hownk, hb, own_fresh hownk⟩
set_option maxRecDepth 100000 in
set_option maxHeartbeats 2000000 in
theorem rMap_ns (A : Option Addr) (n c : Nat) (l : List Int) (N : Int) (w : World) (hs : RdI w A n c l) (h1 : isSetS 300 l = false) : Calls Try.prog 44 #[.slice A n c, .int .i64 N] w (GiveBy [] 1 w) := by
  go_enter Try.func44, Try.ntmps44
  go_wp2_with fail
  refine (IsSet_any _ _ _ _ _ hs).mono ?_
  rintro e w1 ⟨rfl, hd⟩
  go_wp2
  go_ret2
  exact ⟨_, _, _, rfl, Rd.none_ _ 1, hd.ext, Fr.none_ _⟩

set_option maxRecDepth 100000 in
set_option maxHeartbeats 2000000 in
theorem rMap_nb (A : Option Addr) (n c : Nat) (l : List Int) (N : Int) (w : World) (hs : RdI w A n c l) (h1 : isSetS 300 l = true) (h2 : belowB l N = false) : Calls Try.prog 44 #[.slice A n c, .int .i64 N] w (GiveBy [] 1 w) := by
  go_enter Try.func44, Try.ntmps44
  go_wp2_with fail
  refine (IsSet_any _ _ _ _ _ hs).mono ?_
  rintro e w1 ⟨rfl, hd⟩
  go_wp2_with fail
  refine (isBelow_any _ _ _ _ _ _ (hs.ext hd.ext)).mono ?_
  rintro e w2 ⟨rfl, rfl⟩
  go_wp2
  go_ret2
  exact ⟨_, _, _, rfl, Rd.none_ _ 1, hd.ext, Fr.none_ _⟩

set_option maxRecDepth 100000 in
set_option maxHeartbeats 2000000 in
theorem rMap_yes (A : Option Addr) (n c : Nat) (l : List Int) (N : Int) (m : Nat) (w : World) (hs : RdI w A n c l) (h0 : 0 ≤ N ∧ N ≤ 300) (hm : (N + 7) / 8 = (m : Int)) (h1 : belowB l N = true) (h2 : isSetS N l = true) (h3 : isSetS 300 l = true) : Calls Try.prog 44 #[.slice A n c, .int .i64 N] w (GiveBy (mapL l m) 0 w) := by
  obtain ⟨i0, hi, hz0, hz1, hz2⟩ := info_parts Try.info5
  have Hl := hid hs.len
  have hmx := hs.max
  have Hst := hid (fun (k : Nat) (hk : k < l.length) => step_fact h2 hk)
  have ew := IntWalk.i64_in (N + 7) (by omega)
  have hm38 : m ≤ 38 := by omega
  go_enter Try.func44, Try.ntmps44
  go_wp2_with fail
  refine (IsSet_any _ _ _ _ _ hs).mono ?_
  rintro e w2 ⟨rfl, hd⟩
  go_wp2_with fail
  refine (isBelow_any _ _ _ _ _ _ (hs.ext hd.ext)).mono ?_
  rintro e w1 ⟨rfl, rfl⟩
  have Hd := hid hd.ext
  have hds := hd.ext.size
  clear hd
  go_wp2_with (at_make; refine wpList_make_full _ rfl _ _ 53 rfl w.heap.size 5 i0 (.int .u8 0) 1 Try.underlying53 hi hz0 hz1 _ _ _ _ m rfl rfl hm hm (by rw [hz2]; omega) (by unfold maxLen; omega) hds ?_)
  intro w3 hown hgr
  rw [made_zero] at hown
  have hb3 : Below w.heap.size w w3 := Below.grown Hd.out hgr hds (by simp)
  clear hgr
  go_wp2
  go_loopw [7] (fun i wr => ∃ k : Nat, k ≤ n ∧ i = .int .i64 k ∧ wr.ownsRow w.heap.size 5 1 (.slice (some ⟨w2.heap.size, 0, none⟩) m m) m (bytesC (mapL (l.take k) m)) ∧ Below w.heap.size w wr) (fun i _ => n - (intOf i).toNat)
  case atStart => exact ⟨0, by omega, rfl, hown, hb3⟩
  case round =>
    obtain ⟨k, hk, rfl, hownk, hb⟩ := hrel
    have hbs := hb.size
    by_cases hlt : k < n
    · obtain ⟨ad, rfl, hc⟩ := (hs.ext (w' := wr) hb).at_ hlt
      obtain ⟨j, hj, hjN, hjn, htk⟩ := Hst.out k (by rw [Hl.out]; exact hlt)
      rw [hj] at hc
      have hor := or_add _ _ hjn
      have hj8 : j / 8 < m := by omega
      have hset := hid (mapL_set (l.take k) m j hj8 hjn)
      have Htk := hid htk
      have hin := mbyte_in (l.take k) (j / 8)
      have hor1 := hor.1
      have hwr := u8_in (mbyte (l.take k) (j / 8) + 2 ^ (j % 8)) hor.2.1 hor.2.2
      have hcell : wr.cell? ⟨w2.heap.size, j / 8, none⟩ = some (.int .u8 (mbyte (l.take k) (j / 8))) := by rw [World.ownsRow.cellAt hownk _ (by omega)]; exact mapL_at _ _ _ hj8
      have hfree : wr.frozen? ⟨w2.heap.size, j / 8, none⟩ = false := World.ownsRow.frozenAt hownk _
      have st1 := World.ownsRow.stored hownk (j / 8) (.int .u8 (mbyte (l.take k) (j / 8) + 2 ^ (j % 8)))
      rw [hset.out, ← Htk.out] at st1
      have St1 := hid st1.1
      have St2 := hid (below_push hb hownk st1.2 hbs)
      have h2m : (2 : Int) ^ (j % 8) % 256 = 2 ^ (j % 8) := by
        rcases eight (show j % 8 < 8 by omega) with h | h | h | h | h | h | h | h <;> rw [h] <;> rfl
      have j1 : ((j / 8 : Nat) : Int) < (m : Int) := by omega
      clear st1 hjn htk hj hor hown hb3
      go_wp2
      go_region
      go_wp2
      go_roundw
      case rel => exact ⟨k + 1, by omega, by go_num, own_drewN St1.out 1, below_drewN St2.out 1⟩
      case measure => simp [intOf]; omega
    · go_wp2
      go_ret2
      obtain rfl : k = n := by omega
      have hl2 : l.take k = l := List.take_of_length_le (by rw [Hl.out]; omega)
      rw [hl2] at hownk
      exact ⟨_, _, _, rfl, Rd.of_own hownk, hb, own_fresh hownk⟩
end Go.Proofs.Ytffcaoicokookaa
