/-
  Numbers of bytes: the program's get and the reference's number.
-/
import Derived.Test.YtcgjhloiokpicaaOp
import Derived.BigQuiet
namespace Go.Proofs.Ytcgjhloiokpicaa
open Go.RowKit Go.Shelf
set_option linter.unusedVariables false
set_option linter.unusedSimpArgs false
/-- A slice that reads as these bytes. -/
def RdB (w : World) (A : Option Addr) (n c : Nat) (l : List Int) : Prop := Rd w 1 A n c (bys l) ∧ isB l
section
variable {w w' : World} {A : Option Addr} {n c : Nat} {l : List Int}
theorem RdB.len (h : RdB w A n c l) : l.length = n := by have := h.1.1; rw [bys_len] at this; omega
theorem RdB.ext (h : RdB w A n c l) (hx : Ext w w') : RdB w' A n c l := ⟨h.1.ext hx, h.2⟩
theorem nth_isB (h : isB l) (k : Nat) : 0 ≤ nth l k ∧ nth l k ≤ 255 := by
  by_cases hk : k < l.length
  · rw [nth_lt hk]; exact h _ (List.getElem_mem hk)
  · have : nth l k = 0 := by unfold nth; simp [List.getElem?_eq_none (Nat.le_of_not_lt hk)]
    omega
theorem RdB.at_ (h : RdB w A n c l) {k : Nat} (hk : k < n) : ∃ ad, A = some ad ∧ w.cell? (ad.add k) = some (.int .u8 (nth l k)) := by
  have hl := h.len
  obtain ⟨⟨h1, h2, h3, h4⟩, h5⟩ := h
  obtain ⟨ad, rfl, hc⟩ := h4 (by omega)
  refine ⟨ad, rfl, hc k _ ?_⟩
  unfold bys
  rw [List.getElem?_map, List.getElem?_eq_getElem (by omega), nth_lt (by omega)]
  rfl
theorem RdB.sub (h : RdB w A n c l) {i m c' : Nat} (hm : i + m ≤ n) (hc : i + m ≤ c' ) (hc2 : c' ≤ c) : RdB w (A.map (·.add i)) m (c' - i) (cut l i m) := by
  have hl := h.len
  obtain ⟨⟨h1, h2, h3, h4⟩, h5⟩ := h
  refine ⟨⟨by rw [bys_len]; unfold cut; rw [List.length_take, List.length_drop]; omega, by omega, by omega, fun hp => ?_⟩, fun x hx => h5 x (List.mem_of_mem_drop (List.mem_of_mem_take hx))⟩
  obtain ⟨ad, rfl, hc⟩ := h4 (by omega)
  refine ⟨ad.add i, rfl, fun j u hu => ?_⟩
  rw [add_add]
  refine hc (i + j) u ?_
  unfold bys cut at hu
  rw [List.map_take, List.map_drop] at hu
  have hj : j < m := by
    have := (List.getElem?_eq_some_iff.1 hu).1
    rw [List.length_take] at this
    omega
  rw [List.getElem?_take_of_lt hj, List.getElem?_drop] at hu
  exact hu
end
theorem or_ij (x c : Int) (j : Nat) (h0 : 0 ≤ x) (hj : j ≤ 3) (h1 : x < 2 ^ (8 * j)) (hc0 : 0 ≤ c) (hc : c ≤ 255) : bits .or .i64 x (c * 2 ^ (8 * j)) = x + c * 2 ^ (8 * j) := by
  obtain ⟨m, rfl⟩ : ∃ m : Nat, x = m := ⟨x.toNat, by omega⟩
  obtain ⟨k, rfl⟩ : ∃ k : Nat, c = k := ⟨c.toNat, by omega⟩
  have hm : m < 2 ^ (8 * j) := by exact_mod_cast h1
  have hk : k < 256 := by omega
  have hp : 2 ^ (8 * j) ≤ 2 ^ 24 := Nat.pow_le_pow_right (by omega) (by omega)
  have hkp : k * 2 ^ (8 * j) ≤ 255 * 2 ^ 24 := Nat.mul_le_mul (by omega) hp
  obtain ⟨q, hq⟩ : ∃ q : Nat, q = 2 ^ (8 * j) * k := ⟨_, rfl⟩
  have hq2 : q < 2 ^ 32 := by rw [hq, Nat.mul_comm]; omega
  have hor : q ||| m = q + m := by rw [hq]; exact (Nat.two_pow_add_eq_or_of_lt hm k).symm
  have e1 : ((k : Int) * 2 ^ (8 * j)) = (q : Int) := by rw [hq]; push_cast; rw [Int.mul_comm]
  rw [e1]
  clear e1 hkp h1 hq
  have hm2 : m < 2 ^ 24 := by omega
  clear hm hp
  have f1 : BitVec.ofInt 64 (m : Int) = BitVec.ofNat 64 m := by
    apply BitVec.eq_of_toNat_eq
    rw [BitVec.toNat_ofInt, BitVec.toNat_ofNat]
    omega
  have f2 : BitVec.ofInt 64 (q : Int) = BitVec.ofNat 64 q := by
    apply BitVec.eq_of_toNat_eq
    rw [BitVec.toNat_ofInt, BitVec.toNat_ofNat]
    omega
  show IntKind.i64.wrap ((BitVec.ofInt 64 (m : Int) ||| BitVec.ofInt 64 (q : Int)).toNat : Int) = _
  have f3 : (BitVec.ofNat 64 m ||| BitVec.ofNat 64 q).toNat = m + q := by
    rw [BitVec.toNat_or, BitVec.toNat_ofNat, BitVec.toNat_ofNat, Nat.mod_eq_of_lt (by omega), Nat.mod_eq_of_lt (by omega), Nat.or_comm, hor, Nat.add_comm]
  rw [f1, f2, f3, IntWalk.i64_in _ (by omega)]
  push_cast
  rfl
theorem leV_take {l : List Int} {k : Nat} (hk : k < l.length) : leV (l.take (k + 1)) = leV (l.take k) + nth l k * 2 ^ (8 * k) := by
  induction l generalizing k with
  | nil => simp at hk
  | cons b l ih =>
    cases k with
    | zero => simp [leV, nth]
    | succ k =>
      have hk' : k < l.length := by simpa using hk
      rw [List.take_succ_cons, List.take_succ_cons, leV, leV, ih hk', show nth (b :: l) (k + 1) = nth l k by simp [nth]]
      rw [show 8 * (k + 1) = 8 * k + 8 by omega, Int.pow_add]
      generalize (2 : Int) ^ (8 * k) = P
      generalize nth l k = y
      rw [show y * (P * 2 ^ 8) = 256 * (y * P) by rw [show (2 : Int) ^ 8 = 256 from rfl, ← Int.mul_assoc, Int.mul_comm]]
      omega
theorem leV_bd {l : List Int} (h : isB l) (k : Nat) : 0 ≤ leV (l.take k) ∧ leV (l.take k) < 2 ^ (8 * k) := by
  induction k generalizing l with
  | zero => simp [leV]
  | succ k ih =>
    cases l with
    | nil => simp [leV]; exact Int.pow_pos (by omega)
    | cons b l =>
      have hb := h b (by simp)
      have := ih (l := l) (fun x hx => h x (List.mem_cons_of_mem _ hx))
      rw [List.take_succ_cons, leV, show 8 * (k + 1) = 8 * k + 8 by omega, Int.pow_add]
      generalize (2 : Int) ^ (8 * k) = P at *
      rw [show P * 2 ^ 8 = 256 * P by rw [show (2 : Int) ^ 8 = 256 from rfl, Int.mul_comm]]
      omega
theorem cell_k {w : World} {ad : Addr} {k : Nat} {v : Value} (h : w.cell? (ad.add k) = some v) (hk : 0 < k) : w.cell? ⟨ad.block, ad.off + k, none⟩ = some v := by
  unfold Addr.add at h
  rwa [if_neg (by omega)] at h
theorem cell_0 {w : World} {ad : Addr} {v : Value} (h : w.cell? (ad.add 0) = some v) : w.cell? ad = some v := by
  cases ad
  exact h
set_option maxRecDepth 100000 in
set_option maxHeartbeats 4000000 in
theorem get_any (w : World) (A : Option Addr) (n c : Nat) (l : List Int) (h : RdB w A n c l) (hn : n ≤ 4) : Calls Try.prog 36 #[.slice A n c] w fun e w' => e = .returned (.int .i64 (leV l)) ∧ w = w' := by
  have hl := hid h.len
  have hst := hid (fun k (hk : k < l.length) => leV_take hk)
  have hbd := hid (fun k => leV_bd h.2 k)
  have hnb := hid (fun k => nth_isB h.2 k)
  have hor := hid or_ij
  have hat := hid (fun k (hk : k < n) => h.at_ hk)
  clear h
  go_enter Try.func36, Try.ntmps36
  go_wp2
  go_loop [3, 8] (fun x i => ∃ (k : Nat) (y : Int), k ≤ n ∧ i = .int .i64 k ∧ x = .int .i64 y ∧ Hid (y = leV (l.take k))) (fun _ i => n - (intOf i).toNat)
  case atStart => exact ⟨0, 0, by omega, rfl, rfl, by unfold Hid; simp [leV]⟩
  case round =>
    obtain ⟨k, y, hk, rfl, rfl, hx⟩ := hrel
    by_cases hlt : k < n
    · obtain ⟨ad, rfl, hc⟩ := hat.out k hlt
      have hy := hid (hst.out k (by rw [hl.out]; exact hlt))
      have b1 := hbd.out k
      rw [← hx.out] at hy b1
      have b2 := hnb.out k
      have ho := hor.out y (nth l k) k b1.1 (by omega) b1.2 b2.1 b2.2
      have hy' : Hid (y + nth l k * 2 ^ (8 * k) = leV (l.take (k + 1))) := hy.out.symm
      clear hy hx
      generalize hzz : leV (l.take (k + 1)) = z at *
      replace hzz : Hid (z = leV (l.take (k + 1))) := hzz.symm
      generalize nth l k = u at *
      have hk4 : k = 0 ∨ k = 1 ∨ k = 2 ∨ k = 3 := by omega
      replace ho := ho.trans hy'.out
      clear hy'
      rcases hk4 with rfl | rfl | rfl | rfl
      · replace hc := cell_0 hc
        replace ho : bits .or .i64 y u = z := by simpa using ho
        go_wp2
        go_round
        case rel => exact ⟨1, z, by omega, by go_num, by go_num, by assumption⟩
        case measure => simp [intOf]; omega
      · replace hc := cell_k hc (by omega)
        replace ho : bits .or .i64 y (u * 256) = z := by exact ho
        go_wp2
        go_round
        case rel => exact ⟨2, z, by omega, by go_num, by go_num, by assumption⟩
        case measure => simp [intOf]; omega
      · replace hc := cell_k hc (by omega)
        replace ho : bits .or .i64 y (u * 65536) = z := by exact ho
        go_wp2
        go_round
        case rel => exact ⟨3, z, by omega, by go_num, by go_num, by assumption⟩
        case measure => simp [intOf]; omega
      · replace hc := cell_k hc (by omega)
        replace ho : bits .or .i64 y (u * 16777216) = z := by exact ho
        go_wp2
        go_round
        case rel => exact ⟨4, z, by omega, by go_num, by go_num, by assumption⟩
        case measure => simp [intOf]; omega
    · obtain rfl : k = n := by omega
      go_wp2
      go_ret
      exact ⟨ret_int (by rw [hx.out, ← hl.out, List.take_length]), rfl⟩
theorem num4 {l : List Int} (h : 4 ≤ l.length) : num l 0 4 = nth l 0 + nth l 1 * 256 + nth l 2 * 65536 + nth l 3 * 16777216 := by
  unfold num
  rw [List.drop_zero, leV_take (k := 3) (by omega), leV_take (k := 2) (by omega), leV_take (k := 1) (by omega), leV_take (k := 0) (by omega)]
  simp [leV]
set_option maxRecDepth 100000 in
set_option maxHeartbeats 4000000 in
theorem rnumber_any (w : World) (A : Option Addr) (n c : Nat) (l : List Int) (h : RdB w A n c l) (hn : 4 ≤ n) : Calls Try.prog 39 #[.slice A n c] w fun e w' => e = .returned (.int .i64 (num l 0 4)) ∧ Dr w w' := by
  have hv := hid (num4 (l := l) (by rw [h.len]; exact hn))
  have b0 := nth_isB h.2 0
  have b1 := nth_isB h.2 1
  have b2 := nth_isB h.2 2
  have b3 := nth_isB h.2 3
  obtain ⟨ad, rfl, c0⟩ := h.at_ (k := 0) (by omega)
  obtain ⟨_, e1, c1⟩ := h.at_ (k := 1) (by omega)
  obtain rfl := Option.some.inj e1
  obtain ⟨_, e2, c2⟩ := h.at_ (k := 2) (by omega)
  obtain rfl := Option.some.inj e2
  obtain ⟨_, e3, c3⟩ := h.at_ (k := 3) (by omega)
  obtain rfl := Option.some.inj e3
  replace c0 := cell_0 c0
  replace c1 := cell_k c1 (by omega)
  replace c2 := cell_k c2 (by omega)
  replace c3 := cell_k c3 (by omega)
  clear e1 e2 e3 h
  generalize nth l 0 = x0 at *
  generalize nth l 1 = x1 at *
  generalize nth l 2 = x2 at *
  generalize nth l 3 = x3 at *
  generalize num l 0 4 = z at *
  have q1 := IntWalk.i64_in (x0 + x1 * 256) (by omega)
  have q2 := IntWalk.i64_in (x0 + x1 * 256 + x2 * 65536) (by omega)
  have q3 := IntWalk.i64_in (x0 + x1 * 256 + x2 * 65536 + x3 * 16777216) (by omega)
  have p1 := IntWalk.i64_in (x1 * 256) (by omega)
  have p2 := IntWalk.i64_in (x2 * 65536) (by omega)
  have p3 := IntWalk.i64_in (x3 * 16777216) (by omega)
  go_enter Try.func39, Try.ntmps39
  have d0 : 0 < n := by omega
  have d1 : (1 : Int) < (n : Int) := by omega
  have d2 : (2 : Int) < (n : Int) := by omega
  have d3 : (3 : Int) < (n : Int) := by omega
  go_upto_region 1 with fail
  refine region_J (fun w' => w'.cell? ad = some (.int .u8 x0) ∧ w'.cell? ⟨ad.block, ad.off + 1, none⟩ = some (.int .u8 x1) ∧ w'.cell? ⟨ad.block, ad.off + 2, none⟩ = some (.int .u8 x2) ∧ w'.cell? ⟨ad.block, ad.off + 3, none⟩ = some (.int .u8 x3)) 23 (by kernel_rfl) ?_
  have I0 : (fun w' : World => w'.cell? ad = some (.int .u8 x0) ∧ w'.cell? ⟨ad.block, ad.off + 1, none⟩ = some (.int .u8 x1) ∧ w'.cell? ⟨ad.block, ad.off + 2, none⟩ = some (.int .u8 x2) ∧ w'.cell? ⟨ad.block, ad.off + 3, none⟩ = some (.int .u8 x3)) w.drew := ⟨c0, c1, c2, c3⟩
  have hd : Hid (Dr w w.drew) := Dr.mk1 w 1
  clear c0 c1 c2 c3
  generalize w.drew = w1 at *
  refine J_takeO 0 (v := ?va0) rfl (by kernel_rfl) (by kernel_rfl) (by kernel_rfl) (by kernel_rfl) (fun _ _ _ h => h) (Or.inl ⟨by rfl, ?ya0⟩) I0 ?ra0
  case ya0 => (intro w hSw; obtain ⟨_, _, _, _⟩ := hSw; (go_simp; with_reducible rfl))
  simp only [Act.put, List.getElem_toArray, List.getElem_cons_zero, List.getElem_cons_succ, List.setIfInBounds_toArray, List.set_cons_zero, List.set_cons_succ]
  refine J_takeO 1 (v := ?va1) rfl (by kernel_rfl) (by kernel_rfl) (by kernel_rfl) (by kernel_rfl) (fun _ _ _ h => h) (Or.inl ⟨by rfl, ?ya1⟩) I0 ?ra1
  case ya1 => (intro w hSw; obtain ⟨_, _, _, _⟩ := hSw; (go_simp; with_reducible rfl))
  simp only [Act.put, List.getElem_toArray, List.getElem_cons_zero, List.getElem_cons_succ, List.setIfInBounds_toArray, List.set_cons_zero, List.set_cons_succ]
  refine J_takeO 2 (v := ?va2) rfl (by kernel_rfl) (by kernel_rfl) (by kernel_rfl) (by kernel_rfl) (fun _ _ _ h => h) (Or.inl ⟨by rfl, ?ya2⟩) I0 ?ra2
  case ya2 => (intro w hSw; obtain ⟨_, _, _, _⟩ := hSw; (go_simp; with_reducible rfl))
  simp only [Act.put, List.getElem_toArray, List.getElem_cons_zero, List.getElem_cons_succ, List.setIfInBounds_toArray, List.set_cons_zero, List.set_cons_succ]
  refine J_takeO 3 (v := ?va3) rfl (by kernel_rfl) (by kernel_rfl) (by kernel_rfl) (by kernel_rfl) (fun _ _ _ h => h) (Or.inl ⟨by rfl, ?ya3⟩) I0 ?ra3
  case ya3 => (intro w hSw; obtain ⟨_, _, _, _⟩ := hSw; (go_simp; with_reducible rfl))
  simp only [Act.put, List.getElem_toArray, List.getElem_cons_zero, List.getElem_cons_succ, List.setIfInBounds_toArray, List.set_cons_zero, List.set_cons_succ]
  refine J_takeO 4 (v := ?va4) rfl (by kernel_rfl) (by kernel_rfl) (by kernel_rfl) (by kernel_rfl) (fun _ _ _ h => h) (Or.inl ⟨by rfl, ?ya4⟩) I0 ?ra4
  case ya4 => (intro w hSw; obtain ⟨_, _, _, _⟩ := hSw; (go_simp; with_reducible rfl))
  simp only [Act.put, List.getElem_toArray, List.getElem_cons_zero, List.getElem_cons_succ, List.setIfInBounds_toArray, List.set_cons_zero, List.set_cons_succ]
  refine J_takeO 5 (v := ?va5) rfl (by kernel_rfl) (by kernel_rfl) (by kernel_rfl) (by kernel_rfl) (fun _ _ _ h => h) (Or.inl ⟨by rfl, ?ya5⟩) I0 ?ra5
  case ya5 => (intro w hSw; obtain ⟨_, _, _, _⟩ := hSw; (go_simp; with_reducible rfl))
  simp only [Act.put, List.getElem_toArray, List.getElem_cons_zero, List.getElem_cons_succ, List.setIfInBounds_toArray, List.set_cons_zero, List.set_cons_succ]
  refine J_takeO 6 (v := ?va6) rfl (by kernel_rfl) (by kernel_rfl) (by kernel_rfl) (by kernel_rfl) (fun _ _ _ h => h) (Or.inl ⟨by rfl, ?ya6⟩) I0 ?ra6
  case ya6 => (intro w hSw; obtain ⟨_, _, _, _⟩ := hSw; (go_simp; with_reducible rfl))
  simp only [Act.put, List.getElem_toArray, List.getElem_cons_zero, List.getElem_cons_succ, List.setIfInBounds_toArray, List.set_cons_zero, List.set_cons_succ]
  refine J_takeO 7 (v := ?va7) rfl (by kernel_rfl) (by kernel_rfl) (by kernel_rfl) (by kernel_rfl) (fun _ _ _ h => h) (Or.inl ⟨by rfl, ?ya7⟩) I0 ?ra7
  case ya7 => (intro w hSw; obtain ⟨_, _, _, _⟩ := hSw; (go_simp; with_reducible rfl))
  simp only [Act.put, List.getElem_toArray, List.getElem_cons_zero, List.getElem_cons_succ, List.setIfInBounds_toArray, List.set_cons_zero, List.set_cons_succ]
  refine J_takeO 8 (v := ?va8) rfl (by kernel_rfl) (by kernel_rfl) (by kernel_rfl) (by kernel_rfl) (fun _ _ _ h => h) (Or.inl ⟨by rfl, ?ya8⟩) I0 ?ra8
  case ya8 => (intro w hSw; obtain ⟨_, _, _, _⟩ := hSw; (go_simp; with_reducible rfl))
  simp only [Act.put, List.getElem_toArray, List.getElem_cons_zero, List.getElem_cons_succ, List.setIfInBounds_toArray, List.set_cons_zero, List.set_cons_succ]
  refine J_takeO 9 (v := ?va9) rfl (by kernel_rfl) (by kernel_rfl) (by kernel_rfl) (by kernel_rfl) (fun _ _ _ h => h) (Or.inl ⟨by rfl, ?ya9⟩) I0 ?ra9
  case ya9 => (intro w hSw; obtain ⟨_, _, _, _⟩ := hSw; (go_simp; with_reducible rfl))
  simp only [Act.put, List.getElem_toArray, List.getElem_cons_zero, List.getElem_cons_succ, List.setIfInBounds_toArray, List.set_cons_zero, List.set_cons_succ]
  refine J_takeO 10 (v := ?va10) rfl (by kernel_rfl) (by kernel_rfl) (by kernel_rfl) (by kernel_rfl) (fun _ _ _ h => h) (Or.inl ⟨by rfl, ?ya10⟩) I0 ?ra10
  case ya10 => (intro w hSw; obtain ⟨_, _, _, _⟩ := hSw; (go_simp; with_reducible rfl))
  simp only [Act.put, List.getElem_toArray, List.getElem_cons_zero, List.getElem_cons_succ, List.setIfInBounds_toArray, List.set_cons_zero, List.set_cons_succ]
  refine J_takeO 11 (v := ?va11) rfl (by kernel_rfl) (by kernel_rfl) (by kernel_rfl) (by kernel_rfl) (fun _ _ _ h => h) (Or.inl ⟨by rfl, ?ya11⟩) I0 ?ra11
  case ya11 => (intro w hSw; obtain ⟨_, _, _, _⟩ := hSw; (go_simp; with_reducible rfl))
  simp only [Act.put, List.getElem_toArray, List.getElem_cons_zero, List.getElem_cons_succ, List.setIfInBounds_toArray, List.set_cons_zero, List.set_cons_succ]
  refine J_takeO 12 (v := ?va12) rfl (by kernel_rfl) (by kernel_rfl) (by kernel_rfl) (by kernel_rfl) (fun _ _ _ h => h) (Or.inl ⟨by rfl, ?ya12⟩) I0 ?ra12
  case ya12 => (intro w hSw; obtain ⟨_, _, _, _⟩ := hSw; (go_simp; with_reducible rfl))
  simp only [Act.put, List.getElem_toArray, List.getElem_cons_zero, List.getElem_cons_succ, List.setIfInBounds_toArray, List.set_cons_zero, List.set_cons_succ]
  refine J_takeO 13 (v := ?va13) rfl (by kernel_rfl) (by kernel_rfl) (by kernel_rfl) (by kernel_rfl) (fun _ _ _ h => h) (Or.inl ⟨by rfl, ?ya13⟩) I0 ?ra13
  case ya13 => (intro w hSw; obtain ⟨_, _, _, _⟩ := hSw; (go_simp; with_reducible rfl))
  simp only [Act.put, List.getElem_toArray, List.getElem_cons_zero, List.getElem_cons_succ, List.setIfInBounds_toArray, List.set_cons_zero, List.set_cons_succ]
  refine J_takeO 14 (v := ?va14) rfl (by kernel_rfl) (by kernel_rfl) (by kernel_rfl) (by kernel_rfl) (fun _ _ _ h => h) (Or.inl ⟨by rfl, ?ya14⟩) I0 ?ra14
  case ya14 => (intro w hSw; obtain ⟨_, _, _, _⟩ := hSw; (go_simp; with_reducible rfl))
  simp only [Act.put, List.getElem_toArray, List.getElem_cons_zero, List.getElem_cons_succ, List.setIfInBounds_toArray, List.set_cons_zero, List.set_cons_succ]
  refine J_takeO 15 (v := ?va15) rfl (by kernel_rfl) (by kernel_rfl) (by kernel_rfl) (by kernel_rfl) (fun _ _ _ h => h) (Or.inl ⟨by rfl, ?ya15⟩) I0 ?ra15
  case ya15 => (intro w hSw; obtain ⟨_, _, _, _⟩ := hSw; (go_simp; with_reducible rfl))
  simp only [Act.put, List.getElem_toArray, List.getElem_cons_zero, List.getElem_cons_succ, List.setIfInBounds_toArray, List.set_cons_zero, List.set_cons_succ]
  refine J_takeO 16 (v := ?va16) rfl (by kernel_rfl) (by kernel_rfl) (by kernel_rfl) (by kernel_rfl) (fun _ _ _ h => h) (Or.inl ⟨by rfl, ?ya16⟩) I0 ?ra16
  case ya16 => (intro w hSw; obtain ⟨_, _, _, _⟩ := hSw; (go_simp; with_reducible rfl))
  simp only [Act.put, List.getElem_toArray, List.getElem_cons_zero, List.getElem_cons_succ, List.setIfInBounds_toArray, List.set_cons_zero, List.set_cons_succ]
  refine J_takeO 17 (v := ?va17) rfl (by kernel_rfl) (by kernel_rfl) (by kernel_rfl) (by kernel_rfl) (fun _ _ _ h => h) (Or.inl ⟨by rfl, ?ya17⟩) I0 ?ra17
  case ya17 => (intro w hSw; obtain ⟨_, _, _, _⟩ := hSw; (go_simp; with_reducible rfl))
  simp only [Act.put, List.getElem_toArray, List.getElem_cons_zero, List.getElem_cons_succ, List.setIfInBounds_toArray, List.set_cons_zero, List.set_cons_succ]
  refine J_takeO 18 (v := ?va18) rfl (by kernel_rfl) (by kernel_rfl) (by kernel_rfl) (by kernel_rfl) (fun _ _ _ h => h) (Or.inl ⟨by rfl, ?ya18⟩) I0 ?ra18
  case ya18 => (intro w hSw; obtain ⟨_, _, _, _⟩ := hSw; (go_simp; with_reducible rfl))
  simp only [Act.put, List.getElem_toArray, List.getElem_cons_zero, List.getElem_cons_succ, List.setIfInBounds_toArray, List.set_cons_zero, List.set_cons_succ]
  refine J_takeO 19 (v := ?va19) rfl (by kernel_rfl) (by kernel_rfl) (by kernel_rfl) (by kernel_rfl) (fun _ _ _ h => h) (Or.inl ⟨by rfl, ?ya19⟩) I0 ?ra19
  case ya19 => (intro w hSw; obtain ⟨_, _, _, _⟩ := hSw; (go_simp; with_reducible rfl))
  simp only [Act.put, List.getElem_toArray, List.getElem_cons_zero, List.getElem_cons_succ, List.setIfInBounds_toArray, List.set_cons_zero, List.set_cons_succ]
  refine J_takeO 20 (v := ?va20) rfl (by kernel_rfl) (by kernel_rfl) (by kernel_rfl) (by kernel_rfl) (fun _ _ _ h => h) (Or.inl ⟨by rfl, ?ya20⟩) I0 ?ra20
  case ya20 => (intro w hSw; obtain ⟨_, _, _, _⟩ := hSw; (go_simp; with_reducible rfl))
  simp only [Act.put, List.getElem_toArray, List.getElem_cons_zero, List.getElem_cons_succ, List.setIfInBounds_toArray, List.set_cons_zero, List.set_cons_succ]
  refine J_takeO 21 (v := ?va21) rfl (by kernel_rfl) (by kernel_rfl) (by kernel_rfl) (by kernel_rfl) (fun _ _ _ h => h) (Or.inl ⟨by rfl, ?ya21⟩) I0 ?ra21
  case ya21 => (intro w hSw; obtain ⟨_, _, _, _⟩ := hSw; (go_simp; with_reducible rfl))
  simp only [Act.put, List.getElem_toArray, List.getElem_cons_zero, List.getElem_cons_succ, List.setIfInBounds_toArray, List.set_cons_zero, List.set_cons_succ]
  refine J_one 22 rfl (by kernel_rfl) (fun K hK => ?_)
  go_simp
  refine hK _ _ ⟨fun _ => I0, ?_⟩
  clear hK K
  try simp only [Act.put, List.setIfInBounds_toArray, List.set_cons_zero, List.set_cons_succ]
  refine J_done (by kernel_rfl) (OnlyOn.normal ?_)
  go_wp2
  go_ret
  exact ⟨ret_int (by rw [hv.out, IntWalk.i64_in x0 (by omega), IntWalk.i64_in x1 (by omega), IntWalk.i64_in x2 (by omega), IntWalk.i64_in x3 (by omega), p1, p2, p3, q1, q2, q3]), hd.out⟩
end Go.Proofs.Ytcgjhloiokpicaa
