/-
  The bytes of characters in UTF-8: the program.
-/
import Derived.Test.YtlhnabkfacmmnaaDoorPD6
namespace Go.Proofs.YtlhnabkfacmmnaaDoor
open Go.RowKit
set_option linter.unusedVariables false
set_option linter.unusedSimpArgs false
def GiveEnc (p : Int) (s : ByteArray) (w : World) : Ending → World → Prop := GiveSN (encB p s) (encE p s) w
theorem fin_enc {p : Int} {s : ByteArray} {e : Int} {t : ByteArray} {w w' : World} (h : EncIs p s e t) (hx : Ext w w') : GiveEnc p s w (.returned (.tuple #[.string t, .int .i64 e])) w' := ⟨by rw [h.1, h.2], hx⟩
theorem tabs_ext {w w' : World} (h : Lib.Utf8Tabs 0 1 w) (hx : Ext w w') : Lib.Utf8Tabs 0 1 w' := Utf8Tabs_below h hx
theorem iter_ext (w : World) (s : ByteArray) : Ext w (w.iter s 0) := (Ext.refl w).alloc_right (.stringIter s 0)
theorem iter_size (w : World) (s : ByteArray) : (w.iter s 0).heap.size = w.heap.size + 1 := World.size_alloc ..
theorem iter_new (w : World) (s : ByteArray) : (w.iter s 0).heap[w.heap.size]? = some (.stringIter s 0) := World.iter_heap w s 0
set_option maxRecDepth 100000 in
set_option maxHeartbeats 4000000 in
theorem Encode_any (s : ByteArray) (p : Int) (w : World) (hs : s.size ≤ 9223372036854775807) (hT : Lib.Utf8Tabs 0 1 w) : Calls Tryd.prog 7 #[.string s, .int .i64 p] w (GiveEnc p s w) := by
  by_cases h1 : 6144 < s.size
  · have d1 : decide ((6144 : Int) < (s.size : Int)) = true := by simp; omega
    have Fin := hid (enc_1 (p := p) h1)
    clear h1
    go_enter Tryd.func7, Tryd.ntmps7
    go_wp2
    go_ret2
    exact fin_enc Fin.out (Ext.refl _)
  have d1 : decide ((6144 : Int) < (s.size : Int)) = false := by simp; omega
  by_cases h2 : p < 0
  · have d2 : decide (p < 0) = true := by simpa using h2
    have Fin := hid (enc_2 (p := p) h1 (by simp [pgB]; omega))
    clear h1 h2
    go_enter Tryd.func7, Tryd.ntmps7
    go_wp2
    go_ret2
    exact fin_enc Fin.out (Ext.refl _)
  have d2 : decide (p < 0) = false := by simpa using h2
  by_cases h3 : 2 < p
  · have d3 : decide (2 < p) = true := by simpa using h3
    have Fin := hid (enc_2 (p := p) h1 (by simp [pgB]; omega))
    clear h1 h2 h3
    go_enter Tryd.func7, Tryd.ntmps7
    go_wp2
    go_ret2
    exact fin_enc Fin.out (Ext.refl _)
  have d3 : decide (2 < p) = false := by simpa using h3
  obtain ⟨q, rfl, hq⟩ : ∃ q : Nat, p = q ∧ q ≤ 2 := ⟨p.toNat, by omega, by omega⟩
  clear h2 h3
  replace hT := hid hT
  cases hv : Lib.validD s.data.toList with
  | false =>
    have Fin := hid (enc_3 h1 hq hv)
    clear h1
    go_enter Tryd.func7, Tryd.ntmps7
    go_wp2_with fail
    refine (Tryd.utf8_ValidString s _ hs hT.out).mono ?_
    rintro e w1 ⟨rfl, hx1⟩
    rw [hv]
    go_wp2
    go_ret2
    exact fin_enc Fin.out hx1
  | true =>
    have Fin4 := hid (fun h => enc_4 h1 hq hv h)
    have Fin5 := hid (fun h h' => enc_5 h1 hq hv h h')
    have Fin6 := hid (fun h h' => enc_6 h1 hq hv h h')
    have hrl := runes_len s
    have info5 : (Tryd.prog.info? 5).map (fun i => (i.zero, i.size, i.bytes)) = some (some (.int .u8 0), 1, 1) := by kernel_rfl
    obtain ⟨i0, hi, hz0, hz1, hz2⟩ := info_parts info5
    clear info5
    go_enter Tryd.func7, Tryd.ntmps7
    go_wp2_with fail
    refine (Tryd.utf8_ValidString s _ hs hT.out).mono ?_
    rintro e w1 ⟨rfl, hx1⟩
    have hx1 : Hid (Ext w w1) := hx1
    rw [hv]
    clear hT
    have hv := hid hv
    go_wp2_with fail
    refine (pages_any _).mono ?_
    rintro e w2 ⟨rfl, hx2⟩
    have hx2 := hid (hx1.out.trans hx2)
    clear hx1
    have hidx := idx_page hq w2
    have hth := hid (putP_there w2 q)
    have hin := hid (putP_info q)
    have h1c := hid (putP_one q)
    go_upto_region 8 with (first | (with_reducible refine wpList_alloc rfl rfl zero33 ?_) | (refine wpList_store_mid rfl 33 (.tmp 6) (.tmp 26) rfl w2.heap.size 0 (i32s (chS q) 256).toArray rfl rfl hth.out hin.out h1c.out ?_))
    have hB3 := hid (putP_bi w2 q)
    have hx3 := hid (hx2.out.trans (putP_ext w2 q))
    have hg3 := hid (show w2.heap.size < (putP w2 q).heap.size from World.block_lt_of_cell? _ _ (putP_bi w2 q 0 (by omega)).1)
    unfold putP at hB3 hx3 hg3
    clear hx2 hth hin h1c hidx
    generalize (w2.alloc (.cells (zer 256) 33)).setCells w2.heap.size 0 (i32s (chS q) 256).toArray.toList = w3 at *
    generalize w2.heap.size = g at *
    have hit0 := hid (iter_new w3 s)
    have hE5 := hid (iter_ext w3 s)
    have hs5 : (w3.iter s 0).heap.size = w3.heap.size + 1 := iter_size w3 s
    have hR5 := hid (hB3.out.ext hE5.out).range
    have hx5 := hid (hx3.out.trans hE5.out)
    have hxs := hid hx3.out.size
    clear hB3 hx3 hE5
    go_wp2_with fail
    generalize w3.iter s 0 = w5 at *
    replace hs5 := hid hs5
    go_loopw [7] (fun v wr => ∃ k pos f : Nat, Hid (St s k pos f) ∧ Hid (wr.heap[w3.heap.size]? = some (.stringIter s pos)) ∧ Hid (allS q ((runes s).take k) = true) ∧ Hid (wr.ownsRow w5.heap.size 5 1 v k (bytesC (encL q ((runes s).take k)))) ∧ Hid (Bt w3.heap.size w5.heap.size w5 wr)) (fun _ wr => s.size - wr.iterPos w3.heap.size)
    case atStart => exact ⟨0, 0, s.size, St.start s, hit0, rfl, World.ownsRow_nil _ _ _ _, Bt.refl _ _ _⟩
    case round =>
      obtain ⟨k, pos, f, hst, hit, hal, hown, hbt⟩ := hrel
      have hkl := hst.out.1
      have hb1 : w3.heap.size < w5.heap.size := by have := hs5.out; omega
      have hb2 := hbt.out.2.2.2.1
      obtain ⟨A0, c0, rfl, -⟩ := own_form hown.out
      by_cases hp : pos < s.size
      · obtain ⟨hkr, hrn, hst2⟩ := hst.out.step hp
        have hnx := fun ty => Lib.run_next_any_at (P := Tryd.prog) wr w3.heap.size s pos ty hit.out hp
        rw [← hrn] at hnx
        have hit2 := hid (Lib.iterAt_heap wr w3.heap.size s pos (pos + (Utf8.decode s pos).2) hit.out)
        have hbt2 := hid (hbt.out.iter s (pos + (Utf8.decode s pos).2))
        have hown2 := hid (ownsRow_iterAt hown.out hb1 s (pos + (Utf8.decode s pos).2))
        have hw := width_pos s pos hp
        have hlt2 : pos < pos + (Utf8.decode s pos).2 := by omega
        have hrg := hid (show (wr.iterAt w3.heap.size s (pos + (Utf8.decode s pos).2)).rangeAt g 0 (i32s (chS q) 256) from fun j v hv => hbt2.out.cell (hR5.out j v hv) (by show g < _; have := hg3.out; omega) (by show g ≠ _; have := hg3.out; omega))
        have hin : Hid ((Tryd.prog.info? 33).map (·.size) = some (i32s (chS q) 256).length) := by unfold Hid; rw [i32s_len]; exact info58
        have hst2 := hid hst2
        have hno := hid (fun h => allS_no (q := q) hkr h)
        have hsu := hid (fun h => allS_succ (q := q) hkr hal.out h)
        have hen := hid (encL_succ (q := q) hkr)
        have hip := hid (iterPos_of hit.out)
        have hsz6 : (wr.iterAt w3.heap.size s (pos + (Utf8.decode s pos).2)).heap.size = wr.heap.size := Lib.iterAt_size _ _ _ _
        clear hrn hit hown
        change Hid ((fB (chS q) (rn s k)).isSome = false → _) at hno
        change Hid ((fB (chS q) (rn s k)).isSome = true → _) at hsu
        change Hid (_ = _ ++ [bOf (bv (fB (chS q) (rn s k)))]) at hen
        generalize rn s k = c at *
        generalize pos + (Utf8.decode s pos).2 = pos2 at *
        have hcr := fB_bv (chS q) c
        clear hw
        rcases Bool.eq_false_or_eq_true (fB (chS q) c).isSome with hsm | hsm
        · have hal2 := hid (hsu.out hsm)
          go_upto_region 11 with fail
          generalize wr.iterAt w3.heap.size s pos2 = w6 at *
          go_wp2_with (refine wpList_load_mid rfl 33 (.tmp 6) rfl g 0 rfl (i32s (chS q) 256) _ hrg.out Tryd.underlying33 rfl hin.out ?_)
          refine (byteOf_any (chS q) c _).mono ?_
          rintro e w7 ⟨rfl, hx7⟩
          have hs7 := hx7.size
          have hown7 := Ext.own hx7 hown2.out
          have hbt7 := hid (hbt2.out.right hx7 (by omega))
          have hit7 := hid ((hx7.block (by omega)).trans hit2.out)
          have hx7 := hid hx7
          have hbs : w5.heap.size ≤ w7.heap.size := by omega
          go_wp2_with (at_builtin; refine wpList_push _ rfl _ _ 36 rfl w5.heap.size 5 i0 _ 1 1 Tryd.underlying36 hi hz0 hz1 hz2 rfl (by decide) _ _ _ rfl hown7 [.int .u8 (bv (fB (chS q) c))] rfl rfl (by simp [Value.oneCell']) (by unfold maxLen; omega) (by omega) hbs ?_)
          intro g2 cap wp ownp grp _
          have hbe := hid (bytesC_snoc (encL q ((runes s).take k)) (bv (fB (chS q) c)) hcr.1 hcr.2)
          rw [← hbe.out, ← hen.out] at ownp
          have hob := hid (fun k' hk' => (hown7.lt k' hk').1)
          have hbt8 := hid (hbt7.out.grown grp hbs hob.out)
          have hit8 := hid ((grp.block w3.heap.size (by omega) (fun e => by have := hob.out _ e.symm; omega)).trans hit7.out)
          have hip8 := hid (iterPos_of hit8.out)
          have ownp := hid ownp
          clear grp hown7
          go_wp2_with fail
          go_roundw
          case rel => exact ⟨k + 1, pos2, f - 1, hst2, hit8, hal2, ownp, hbt8⟩
          case measure => rw [hip.out, hip8.out]; omega
        · have hfin := hid (Fin4.out (hno.out hsm))
          clear Fin4 Fin5 Fin6
          go_upto_region 11 with fail
          generalize wr.iterAt w3.heap.size s pos2 = w6 at *
          go_wp2_with (refine wpList_load_mid rfl 33 (.tmp 6) rfl g 0 rfl (i32s (chS q) 256) _ hrg.out Tryd.underlying33 rfl hin.out ?_)
          refine (byteOf_any (chS q) c _).mono ?_
          rintro e w7 ⟨rfl, hx7⟩
          have hxf := hid ((hbt2.out.ext hx5.out hxs.out (by have := hxs.out; omega)).trans hx7)
          clear hx7
          go_wp2
          go_ret2
          exact fin_enc hfin.out hxf.out
      · have hnx := fun ty => Lib.run_next_end_at (P := Tryd.prog) wr w3.heap.size s pos ty hit.out hp
        have hkL := hst.out.done hp
        subst hkL
        have htk : Hid ((runes s).take (runes s).length = runes s) := List.take_length
        have hal2 : Hid (allS q (runes s) = true) := by have := hal.out; rwa [htk.out] at this
        have hown2 := hown.out
        rw [htk.out] at hown2
        have hrd : RdB wr A0 (runes s).length c0 (encL q (runes s)) := Rd.of_own hown2
        have hcv := conv_RdB hrd
        have hxf := hid (hbt.out.ext hx5.out hxs.out (by have := hxs.out; omega))
        clear hrd hown2 hown hal hit hst
        by_cases h5 : 2048 < (runes s).length
        · have d5 : decide ((2048 : Int) < ((runes s).length : Int)) = true := by simp; omega
          have hfin := hid (Fin5.out hal2.out h5)
          clear Fin4 Fin5 Fin6 h5
          go_wp2
          go_ret2
          exact fin_enc hfin.out hxf.out
        · have d5 : decide ((2048 : Int) < ((runes s).length : Int)) = false := by simp; omega
          have hfin := hid (Fin6.out hal2.out h5)
          clear Fin4 Fin5 Fin6 h5
          go_wp2
          go_ret2
          exact fin_enc hfin.out hxf.out
end Go.Proofs.YtlhnabkfacmmnaaDoor
