/-
  The bytes of characters in UTF-8: the reference.
-/
import Derived.Test.YtlhnabkfacmmnaaDoorPD7
namespace Go.Proofs.YtlhnabkfacmmnaaDoor
open Go.RowKit
set_option linter.unusedVariables false
set_option linter.unusedSimpArgs false
/-- The characters of a text in a row of its own. -/
def capR (w : World) (s : ByteArray) : Nat := grownCap w (runes s).length 0 21
def newR (w : World) (s : ByteArray) : World := w.drew.alloc (.cells (((runes s).map (Value.int .i32)).toArray ++ Array.replicate (capR w s - (runes s).length) (.int .i32 0)) 21)
theorem runes_arr (s : ByteArray) : Conv.runesFrom s s.size 0 #[] = ((runes s).map (Value.int .i32)).toArray := by
  apply Array.ext'
  rw [runesFrom_eq]
  simp [runes]
theorem conv_runes (w : World) (s : ByteArray) (h : s.size ≤ 1000000) : (convert 9 41 (.string s)).run Tryd.prog w = .ok (.slice (some ⟨w.heap.size, 0, none⟩) (runes s).length (capR w s)) (newR w s) := by
  have hl := runes_len s
  have := run_runes_of_string (P := Tryd.prog) w 9 41 21 s Tryd.underlying9 Tryd.underlying41 Tryd.underlying21 (by rw [runes_arr]; simp; omega)
  rw [runes_arr] at this
  simpa [newR, capR] using this
theorem newR_ext (w : World) (s : ByteArray) : Ext w (newR w s) := Ext.alloc_right ((Ext.refl w).drew_right) _
theorem newR_lt (w : World) (s : ByteArray) : w.heap.size < (newR w s).heap.size := by simp [newR]
theorem newR_cell (w : World) (s : ByteArray) {k : Nat} (hk : k < (runes s).length) : (newR w s).cell? ⟨w.heap.size, k, none⟩ = some (.int .i32 (rn s k)) := by
  have hb : (newR w s).heap[w.heap.size]? = some (.cells (((runes s).map (Value.int .i32)).toArray ++ Array.replicate (capR w s - (runes s).length) (.int .i32 0)) 21) := heap_alloc_new w.drew _
  rw [cell_of_row _ w.heap.size k _ 21 _ hb]
  rw [Array.getElem?_append_left (by simpa using hk)]
  simp [rn, hk]
theorem capR_in (w : World) (s : ByteArray) (h : s.size ≤ 1000000) : (runes s).length ≤ capR w s ∧ capR w s ≤ maxLen := ⟨grownCap_ge _ _ _ _, grownCap_le_maxLen _ _ _ _ (by have := runes_len s; unfold maxLen; omega)⟩
theorem rest_rng (s : ByteArray) : ∀ f p, ∀ c ∈ rest s f p, 0 ≤ c ∧ c < 2147483648
  | 0, _, c, h => by cases h
  | f + 1, p, c, h => by
    unfold rest at h
    split at h
    · rcases List.mem_cons.1 h with rfl | h
      · have := dec_bd s p; omega
      · exact rest_rng s f _ c h
    · cases h
theorem rn_rng (s : ByteArray) (k : Nat) : 0 ≤ rn s k ∧ rn s k < 2147483648 := by
  unfold rn
  rw [List.getD_eq_getElem?_getD]
  cases h : (runes s)[k]? with
  | none => exact ⟨by decide, by decide⟩
  | some c => exact rest_rng s _ _ c (List.mem_of_getElem? h)
def askN (p : Int) (s : ByteArray) : Int := askR 6144 [s] 0 [p]
theorem askN_eq (p : Int) (s : ByteArray) : askN p s = if 6144 < s.size then 3 else if pgB p = true then 1 else 0 := by
  unfold askN askR
  by_cases h : 6144 < s.size <;> cases h1 : pgB p <;> simp [bigTo, pgTo, h, h1]
  all_goals (try omega)
set_option maxRecDepth 100000 in
set_option maxHeartbeats 4000000 in
theorem rEncode_any (s : ByteArray) (p : Int) (w : World) (hs : s.size ≤ 9223372036854775807) (hT : Lib.Utf8Tabs 0 1 w) : Calls Tryd.prog 8 #[.string s, .int .i64 p] w (GiveEnc p s w) := by
  have ha : Hid (askR 6144 [s] 0 [p] = askN p s) := rfl
  by_cases h : askN p s = 0
  rotate_left
  · have e1 : (askN p s != 0) = true := by simp [h]
    have Fin : Hid (EncIs p s (askN p s) ByteArray.empty) := by
      unfold Hid
      rw [askN_eq] at h ⊢
      by_cases h1 : 6144 < s.size
      · rw [if_pos h1]; exact enc_1 h1
      · rw [if_neg h1] at h ⊢
        cases h2 : pgB p with
        | true => rw [if_pos rfl]; exact enc_2 h1 h2
        | false => rw [h2] at h; exact absurd rfl h
    clear h
    go_enter Tryd.func8, Tryd.ntmps8
    go_wp2_with fail
    refine (rasked_any 6144 _ _ _ [s] 0 _ _ _ [p] _ ((RdS.new1 w s 9).alloc (.cells #[.int .i64 p] 3)) (RdI.new1b w (.cells #[.string s] 9) p 3)).mono ?_
    rintro e w1 ⟨rfl, rfl⟩
    rw [ha.out]
    go_wp2
    go_ret2
    exact fin_enc Fin.out (((Ext.refl w).alloc_right _).alloc_right _)
  have e1 : (askN p s != 0) = false := by simp [h]
  obtain ⟨h1, hpg⟩ : ¬ 6144 < s.size ∧ pgB p = false := by
    rw [askN_eq] at h
    by_cases h1 : 6144 < s.size
    · rw [if_pos h1] at h; cases h
    · rw [if_neg h1] at h
      cases h2 : pgB p with
      | true => rw [h2] at h; cases h
      | false => exact ⟨h1, rfl⟩
  obtain ⟨q, rfl, hq⟩ : ∃ q : Nat, p = q ∧ q ≤ 2 := by
    simp [pgB] at hpg
    exact ⟨p.toNat, by omega, by omega⟩
  clear h hpg
  replace hT := hid hT
  cases hv : Lib.validD s.data.toList with
  | false =>
    have Fin := hid (enc_3 h1 hq hv)
    clear h1
    go_enter Tryd.func8, Tryd.ntmps8
    go_wp2_with fail
    refine (rasked_any 6144 _ _ _ [s] 0 _ _ _ [(q : Int)] _ ((RdS.new1 w s 9).alloc (.cells #[.int .i64 (q : Int)] 3)) (RdI.new1b w (.cells #[.string s] 9) (q : Int) 3)).mono ?_
    rintro e w1 ⟨rfl, rfl⟩
    rw [ha.out]
    have hx1 := hid (((Ext.refl w).alloc_right (.cells #[.string s] 9)).alloc_right (.cells #[.int .i64 (q : Int)] 3))
    generalize (w.alloc (.cells #[.string s] 9)).alloc (.cells #[.int .i64 (q : Int)] 3) = w1 at *
    go_wp2_with fail
    refine (Tryd.utf8_ValidString s _ hs (tabs_ext hT.out hx1.out)).mono ?_
    rintro e w2 ⟨rfl, hx2⟩
    have hx2 : Hid (Ext w w2) := hx1.out.trans hx2
    rw [hv]
    go_wp2
    go_ret2
    exact fin_enc Fin.out hx2.out
  | true =>
    have Fin4 := hid (fun h => enc_4 h1 hq hv h)
    have Fin5 := hid (fun h h' => enc_5 h1 hq hv h h')
    have Fin6 := hid (fun h h' => enc_6 h1 hq hv h h')
    have hrl := runes_len s
    have info5 : (Tryd.prog.info? 5).map (fun i => (i.zero, i.size, i.bytes)) = some (some (.int .u8 0), 1, 1) := by kernel_rfl
    obtain ⟨i0, hi, hz0, hz1, hz2⟩ := info_parts info5
    clear info5
    go_enter Tryd.func8, Tryd.ntmps8
    go_wp2_with fail
    refine (rasked_any 6144 _ _ _ [s] 0 _ _ _ [(q : Int)] _ ((RdS.new1 w s 9).alloc (.cells #[.int .i64 (q : Int)] 3)) (RdI.new1b w (.cells #[.string s] 9) (q : Int) 3)).mono ?_
    rintro e w1 ⟨rfl, rfl⟩
    rw [ha.out]
    have hx1 := hid (((Ext.refl w).alloc_right (.cells #[.string s] 9)).alloc_right (.cells #[.int .i64 (q : Int)] 3))
    generalize (w.alloc (.cells #[.string s] 9)).alloc (.cells #[.int .i64 (q : Int)] 3) = w1 at *
    go_wp2_with fail
    refine (Tryd.utf8_ValidString s _ hs (tabs_ext hT.out hx1.out)).mono ?_
    rintro e w2 ⟨rfl, hx2⟩
    have hx2 : Hid (Ext w w2) := hx1.out.trans hx2
    rw [hv]
    clear hT hx1
    replace hv := hid hv
    have hcr := conv_runes w2 s (by omega)
    have hcp := capR_in w2 s (by omega)
    have hcl := hid (fun k hk => newR_cell w2 s (k := k) hk)
    have hx3 := hid (hx2.out.trans (newR_ext w2 s))
    have hlt := newR_lt w2 s
    generalize newR w2 s = w3 at *
    go_wp2_with fail
    go_loopw [7, 9] (fun v i wr => ∃ k : Nat, k ≤ (runes s).length ∧ i = .int .i64 k ∧ Hid (allS q ((runes s).take k) = true) ∧ Hid (wr.ownsRow w3.heap.size 5 1 v k (bytesC (encL q ((runes s).take k)))) ∧ Hid (Below w3.heap.size w3 wr)) (fun _ i _ => (runes s).length - (intOf i).toNat)
    case atStart => exact ⟨0, by omega, rfl, rfl, World.ownsRow_nil _ _ _ _, Below.refl _ _⟩
    case round =>
      obtain ⟨k, hk, rfl, hal, hown, hbel⟩ := hrel
      obtain ⟨A0, c0, rfl, -⟩ := own_form hown.out
      have hbs := hbel.out.size
      by_cases hkr : k < (runes s).length
      · have hc := hbel.out.cell (p := ⟨w2.heap.size, k, none⟩) hlt |>.trans (hcl.out k hkr)
        have hrr := rn_rng s k
        have hno := hid (fun h => allS_no (q := q) hkr h)
        have hsu := hid (fun h => allS_succ (q := q) hkr hal.out h)
        have hen := hid (encL_succ (q := q) hkr)
        have lg : w2.heap.size < wr.heap.size := World.block_lt_of_cell? wr _ hc
        change Hid ((fB (chS q) (rn s k)).isSome = false → _) at hno
        change Hid ((fB (chS q) (rn s k)).isSome = true → _) at hsu
        change Hid (_ = _ ++ [bOf (bv (fB (chS q) (rn s k)))]) at hen
        generalize rn s k = c at *
        have hcb := fB_bv (chS q) c
        have ew : IntKind.i64.wrap c = c := IntWalk.i64_in _ (by omega)
        rcases Bool.eq_false_or_eq_true (fB (chS q) c).isSome with hsm | hsm
        · have hal2 := hid (hsu.out hsm)
          go_wp2_with fail
          refine (rbyteOf_any c q hq _).mono ?_
          rintro e w' ⟨rfl, rfl⟩
          have hown7 := hown.out
          go_wp2_with (at_builtin; refine wpList_push _ rfl _ _ 36 rfl w3.heap.size 5 i0 _ 1 1 Tryd.underlying36 hi hz0 hz1 hz2 rfl (by decide) _ _ _ rfl hown7 [.int .u8 (bv (fB (chS q) c))] rfl rfl (by simp [Value.oneCell']) (by unfold maxLen; omega) (by omega) hbs ?_)
          intro g2 cap wp ownp grp _
          have hbe := hid (bytesC_snoc (encL q ((runes s).take k)) (bv (fB (chS q) c)) hcb.1 hcb.2)
          rw [← hbe.out, ← hen.out] at ownp
          have bel := hid (below_push hbel.out hown7 grp hbs)
          replace ownp := hid ownp
          clear grp hown7
          go_wp2_with fail
          go_roundw
          case rel => exact ⟨k + 1, by omega, by go_num, hal2, ownp, bel⟩
          case measure => simp [intOf] <;> omega
        · have hfin := hid (Fin4.out (hno.out hsm))
          have hxf := hid (hx3.out.trans hbel.out)
          clear Fin4 Fin5 Fin6
          go_wp2_with fail
          refine (rbyteOf_any c q hq _).mono ?_
          rintro e w' ⟨rfl, rfl⟩
          go_wp2
          go_ret2
          exact fin_enc hfin.out hxf.out
      · obtain rfl : k = (runes s).length := by omega
        have htk : Hid ((runes s).take (runes s).length = runes s) := List.take_length
        have hal2 : Hid (allS q (runes s) = true) := by have := hal.out; rwa [htk.out] at this
        have hown2 := hown.out
        rw [htk.out] at hown2
        have hrd : RdB wr A0 (runes s).length c0 (encL q (runes s)) := Rd.of_own hown2
        have hcv := conv_RdB hrd
        have hxf := hid (hx3.out.trans hbel.out)
        clear hrd hown2 hown hal
        by_cases h5 : 2048 < (runes s).length
        · have d5 : decide ((2048 : Int) < ((runes s).length : Int)) = true := by simp; omega
          have hfin := hid (Fin5.out hal2.out h5)
          clear Fin4 Fin5 Fin6 h5
          go_wp2
          go_ret2
          exact fin_enc hfin.out hxf.out
        · have d5 : decide ((2048 : Int) < ((runes s).length : Int)) = false := by simp; omega
          have hfin := hid (Fin6.out hal2.out h5)
          clear Fin4 Fin5 Fin6 h5
          go_wp2
          go_ret2
          exact fin_enc hfin.out hxf.out
end Go.Proofs.YtlhnabkfacmmnaaDoor
