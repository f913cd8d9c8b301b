/-
  The program's depth; the nodes that are made of an index.
-/
import Derived.Test.YtpijfiaecicpfaaBz
namespace Go.Proofs.Ytpijfiaecicpfaa
open Go.RowKit Go.Shelf
set_option linter.unusedVariables false
set_option linter.unusedSimpArgs false
def GiveDP (xs : List Nx) (k : Nat) (w : World) (e : Ending) (w' : World) : Prop := ∃ r : Int, e = .returned (.int .i64 r) ∧ DP xs k r ∧ w = w'
theorem kid_ud {xs : List Nx} {k q h : Nat} (hq : q < (xth xs k).kids.length) (ok : okP xs.length (allK xs)) (hU : UD xs h k) : ∃ h', h = h' + 1 ∧ UD xs h' (kdn xs k q) := by
  obtain ⟨e1, e2, e3⟩ := kdn_is ok hq
  cases h with
  | zero => rw [hU.2] at e2; cases e2
  | succ h => exact ⟨h, rfl, hU.2.2 _ e2⟩
/-- What has been seen of the first q kids. -/
def seenD (xs : List Nx) (k q : Nat) (r : Int) : Prop := (q = 0 ∧ r = -1) ∨ (0 < q ∧ ∃ h : Nat, r = h ∧ ∀ j, j < q → UD xs h (kdn xs k j))
set_option maxRecDepth 100000 in
set_option maxHeartbeats 4000000 in
theorem pDepth_any (A : Option Addr) (n c : Nat) (xs : List Nx) (hok : okP n (allK xs)) : ∀ (f k : Nat) (w : World), RX w A n c xs → UT xs f k → f ≤ 100000 → Calls Try.prog 84 #[.slice A n c, .int .i64 k] w (GiveDP xs k w) := by
  intro f
  induction f with
  | zero => intro k w _ h; exact h.elim
  | succ f ih =>
  intro k w hr hU hf
  have hl := hr.len
  have hkn : k < n := by have := hU.1; omega
  have hkx := hU.1
  have hm := RX.max hr
  obtain ⟨ad0, A1, c1, A2, c2, A3, c3, rfl, y0, y1, y2, -, -, r3⟩ := hr.at_ hkn
  have hkl5 := (RdI.max r3).1
  have hki : (k : Int) < (n : Int) := by omega
  have okA : okP xs.length (allK xs) := by rw [hl]; exact hok
  have hkid : Hid (∀ q, q < (xth xs k).kids.length → ith (xth xs k).kids q = (kdn xs k q : Int) ∧ Calls Try.prog 84 #[.slice (some ad0) n c, .int .i64 (kdn xs k q : Int)] w (GiveDP xs (kdn xs k q) w) ∧ UT xs f (kdn xs k q)) := fun q hq => by
    obtain ⟨e1, e2, e3⟩ := kdn_is okA hq
    exact ⟨e1, ih _ w hr (hU.2 _ e2) (by omega), hU.2 _ e2⟩
  have hup : Hid (∀ q, q < (xth xs k).kids.length → ∀ h, UD xs h k → ∃ h', h = h' + 1 ∧ UD xs h' (kdn xs k q)) := fun q hq h hu => kid_ud hq okA hu
  have hend : Hid (∀ r, seenD xs k (xth xs k).kids.length r → DP xs k (r + 1)) := fun r hs => by
    rcases hs with ⟨h0, rfl⟩ | ⟨h0, h, rfl, hj⟩
    · exact .inl ⟨0, rfl, hkx, List.eq_nil_of_length_eq_zero (by rw [kd_len]; exact h0)⟩
    · refine .inl ⟨h + 1, by omega, hkx, fun e => ?_, fun u hu => ?_⟩
      · have : (kd xs k).length = 0 := by rw [e]; rfl
        rw [kd_len] at this
        omega
      · obtain ⟨j, hjl, rfl⟩ := List.mem_iff_getElem.1 hu
        rw [kd_len] at hjl
        have := hj j hjl
        rwa [show kdn xs k j = (kd xs k)[j] by simp [kdn, List.getD, hjl, kd_len]] at this
  have hf2 : f ≤ 100000 := by omega
  clear ih hU y0 y1 hkx okA hr hl hok
  replace r3 := hid r3
  go_enter Try.func84, Try.ntmps84
  go_wp2_with fail
  generalize (xth xs k).kids.length = kn at *
  go_loopw [5, 15] (fun o i wr => ∃ (q : Nat) (r : Int), q ≤ kn ∧ i = .int .i64 q ∧ o = .int .i64 r ∧ -1 ≤ r ∧ r ≤ 100000 ∧ Hid (seenD xs k q r) ∧ w = wr) (fun _ i _ => kn - (intOf i).toNat)
  case atStart => exact ⟨0, -1, by omega, rfl, rfl, by omega, by omega, .inl ⟨rfl, rfl⟩, rfl⟩
  case round =>
    obtain ⟨q, r, hq, rfl, rfl, hr1, hr2, hs, rfl⟩ := hrel
    by_cases hlt : q < kn
    · obtain ⟨e1, hC, hUT⟩ := hkid.out q hlt
      obtain ⟨kad, rfl, zk⟩ := rdi_at r3.out hlt
      rw [e1] at zk
      have hqi : (q : Int) < (kn : Int) := by omega
      have hC' := hid hC
      replace hUT := hid hUT
      clear hC e1
      go_wp2_with fail
      refine hC'.out.mono ?_
      rintro e w2 ⟨d, rfl, hd, rfl⟩
      replace hd := hid hd
      rcases hd.out with ⟨h', rfl, hu'⟩ | ⟨rfl, hnu⟩
      · have hlf := hu'.fuel hUT.out
        have hh0 : ¬ (h' : Int) < 0 := by omega
        rcases hs.out with ⟨rfl, rfl⟩ | ⟨hq0, h, rfl, hj⟩
        · have hs2 : Hid (seenD xs k 1 (h' : Int)) := .inr ⟨by omega, h', rfl, fun j hj => by
            have e : j = 0 := (by omega)
            rw [e]
            exact hu'⟩
          clear hd hs hu'
          go_wp2
          go_roundw
          case rel => exact ⟨0 + 1, _, by omega, by go_num, rfl, by omega, by omega, hs2, by first | rfl | trivial⟩
          case measure => simp [intOf]; omega
        · have hq1 : (0 : Int) < (q : Int) := by omega
          by_cases he : h' = h
          · have hs2 : Hid (seenD xs k (q + 1) (h' : Int)) := .inr ⟨by omega, h', rfl, fun j hj2 => by
              by_cases e : j = q
              · rw [e]; exact hu'
              · rw [he]; exact hj j (by omega)⟩
            have hne : ((h' : Int) != (h : Int)) = false := by rw [he]; simp
            have he2 : (h' : Int) = (h : Int) := by rw [he]
            clear hd hs hu' hj
            subst he
            go_wp2
            go_roundw
            case rel => exact ⟨q + 1, _, by omega, by go_num, rfl, by omega, by omega, hs2, by first | rfl | trivial⟩
            case measure => simp [intOf]; omega
          · have hDP : Hid (DP xs k (-1)) := .inr ⟨rfl, fun H hH => by
              obtain ⟨a, ea, ha⟩ := hup.out q hlt H hH
              obtain ⟨b, eb, hb⟩ := hup.out 0 (by omega) H hH
              have h1 := UD.one ha hu'
              have h2 := UD.one hb (hj 0 hq0)
              omega⟩
            have hne : ((h' : Int) != (h : Int)) = true := by simpa using (by omega : ¬ (h' : Int) = h)
            clear hd hs hu' hj
            go_wp2
            go_ret
            exact ⟨-1, rfl, hDP.out, rfl⟩
      · have hDP : Hid (DP xs k (-1)) := .inr ⟨rfl, fun H hH => by
          obtain ⟨a, ea, ha⟩ := hup.out q hlt H hH
          exact hnu a ha⟩
        clear hd hs hnu
        go_wp2
        go_ret
        exact ⟨-1, rfl, hDP.out, rfl⟩
    · obtain rfl : q = kn := by omega
      have hfin := hid (hend.out r hs.out)
      go_wp2
      go_ret
      exact ⟨_, rfl, hfin.out, rfl⟩
/-- It returns a row of entries of its own. -/
def GiveEn (l : List Te) (w : World) (e : Ending) (w' : World) : Prop := ∃ v, e = .returned v ∧ w'.ownsRow w.heap.size 71 2 v l.length (tents l) ∧ Ext w w'
set_option maxRecDepth 100000 in
set_option maxHeartbeats 4000000 in
theorem entsN_any (A1 A2 A3 : Option Addr) (a c1 c2 d c3 : Nat) (l : List Te) (w : World) (ha : a ≤ 1000) (hl : l.length = a) (h1 : Rd w 1 A1 a c1 (strv (l.map Te.key))) (h2 : RdI w A2 a c2 (l.map Te.no)) : Calls Try.prog 91 #[.agg #[.slice A1 a c1, .slice A2 a c2, .slice A3 d c3]] w (GiveEn l w) := by
  obtain ⟨i0, hi0, hz0, hz1, hz2⟩ := info_parts infoN
  have hx1 := (Ext.refl w).alloc_right (.cells #[.slice A1 a c1, .slice A2 a c2, .slice A3 d c3] 69)
  have hb0 := heap_alloc_new w (.cells #[.slice A1 a c1, .slice A2 a c2, .slice A3 d c3] 69)
  have z0 : (w.alloc (.cells #[.slice A1 a c1, .slice A2 a c2, .slice A3 d c3] 69)).cell? ⟨w.heap.size, 0, none⟩ = some (.slice A1 a c1) := by rw [Lib.cell_of_heap hb0]; rfl
  have z1 : (w.alloc (.cells #[.slice A1 a c1, .slice A2 a c2, .slice A3 d c3] 69)).cell? ⟨w.heap.size, 1, none⟩ = some (.slice A2 a c2) := by rw [Lib.cell_of_heap hb0]; rfl
  have lb := World.block_lt_of_cell? _ _ z0
  dsimp only at lb
  have hkey : Hid (∀ i, i < a → ∃ k1 k2, A1 = some k1 ∧ A2 = some k2 ∧ ∀ w', Ext w w' → w'.cell? (k1.add i) = some (.string (tth l i).key) ∧ w'.cell? (k2.add i) = some (.int .i64 (tth l i).no)) := fun i hi => by
    obtain ⟨k1, e1, e2⟩ := rds_at h1 hi
    obtain ⟨k2, e3, e4⟩ := rdi_at h2 hi
    rw [(tth_key (by omega)).1] at e2
    rw [(tth_key (by omega)).2] at e4
    exact ⟨k1, k2, e1, e3, fun w' hx => ⟨hx.cell e2, hx.cell e4⟩⟩
  replace hl := hid hl
  replace hx1 := hid hx1
  clear hb0 h1 h2
  go_enter Try.func91, Try.ntmps91
  go_upto_region 1 with fail
  obtain ⟨b, hb⟩ : ∃ b, b = w.heap.size := ⟨_, rfl⟩
  rw [← hb] at z0 z1 lb
  simp only [← hb]
  replace hb := hid hb
  generalize w.alloc (.cells #[.slice A1 a c1, .slice A2 a c2, .slice A3 d c3] 69) = w1 at *
  go_wp2_with fail
  go_loopw [3, 9] (fun o i wr => ∃ (k : Nat) (Ao : Option Addr) (No co : Nat), k ≤ a ∧ i = .int .i64 k ∧ o = .slice Ao No co ∧ Hid (wr.ownsRow w1.heap.size 71 2 (.slice Ao No co) (l.take k).length (tents (l.take k))) ∧ Hid (Ext w1 wr)) (fun _ i _ => a - (intOf i).toNat)
  case atStart => exact ⟨0, _, _, _, by omega, rfl, rfl, World.ownsRow_nil _ _ _ _, Ext.refl _⟩
  case round =>
    obtain ⟨k, Ao, No, co, hk, rfl, rfl, hown, hx⟩ := hrel
    by_cases hlt : k < a
    · obtain ⟨k1, k2, rfl, rfl, hcc⟩ := hkey.out k hlt
      obtain ⟨y0, y1⟩ := hcc wr (hx1.out.trans hx.out)
      have q0 := hx.out.cell z0
      have q1 := hx.out.cell z1
      have hki : (k : Int) < (a : Int) := by omega
      have hlb := Nat.lt_of_lt_of_le lb hx.out.size
      have hlen : Hid ((l.take (k + 1)).length = (l.take k).length + 1) := by have := hl.out; unfold Hid; rw [List.length_take, List.length_take]; omega
      have hll : (l.take k).length ≤ 1000 := by rw [List.length_take]; omega
      have hten : Hid (tents (l.take (k + 1)) = tents (l.take k) ++ [.string (tth l k).key, .int .i64 (tth l k).no]) := by
        have := hl.out
        unfold Hid
        rw [List.take_succ_eq_append_getElem (by omega), tents_snoc, tth_get (by omega)]
      generalize tth l k = x at *
      have hB : w1.heap.size ≤ wr.heap.size := hx.out.size
      have hxe := hid (fun w2 (hg : (wr.alloc (.cells #[.string x.key, .int .i64 x.no] 71)).grownBy w2 (Value.slice Ao No co).ownBlock) => below_push (hx.out.alloc_right _) (hown.out.alloc (.cells #[.string x.key, .int .i64 x.no] 71)) hg (by simp; omega))
      clear hcc
      generalize tents (l.take k) = xs at *
      generalize (l.take k).length = m at *
      have hown1 : Hid (∀ o, (wr.alloc o).ownsRow w1.heap.size 71 2 (.slice Ao No co) m xs) := fun o => hown.out.alloc o
      go_wp2_with (at_builtin; refine wpList_push _ rfl _ _ 92 rfl w1.heap.size 71 i0 _ 2 24 Try.underlying92 hi0 hz0 hz1 hz2 rfl (by decide) _ _ _ rfl hown.out [.string x.key, .int .i64 x.no] (by simp [Act.eval]) rfl (by simp [Value.oneCell']) (by unfold maxLen; omega) (by omega) hB ?_)
      intro g2 d2 w2 own2 hg2 hat
      have own3 : Hid (w2.ownsRow w1.heap.size 71 2 (.slice (some ⟨g2, 0, none⟩) (m + 1) d2) (l.take (k + 1)).length (tents (l.take (k + 1)))) := by
        unfold Hid
        rw [hlen.out, hten.out]
        exact own2
      have hx2 : Hid (Ext w1 w2) := below_push hx.out hown.out hg2 hB
      clear hg2 hat own2 hlen hten hxe hown1
      go_wp2_with fail
      go_roundw
      case rel => exact ⟨k + 1, _, _, _, by omega, by go_num, rfl, own3, hx2⟩
      case measure => simp [intOf]; omega
    · obtain rfl : k = a := by omega
      have hfin : Hid (l.take k = l) := List.take_of_length_le (by have := hl.out; omega)
      go_wp2
      go_ret
      exact ⟨_, rfl, by have h9 := hown.out; rw [hfin.out] at h9; exact own_baseK h9 hx1.out.size, hx1.out.trans hx.out⟩
end Go.Proofs.Ytpijfiaecicpfaa
