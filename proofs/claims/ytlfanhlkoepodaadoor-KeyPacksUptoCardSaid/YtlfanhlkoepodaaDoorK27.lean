/-
  The bytes of a list of keys: the program.
-/
import Derived.Test.YtlfanhlkoepodaaDoorK26
namespace Go.Proofs.YtlfanhlkoepodaaDoor
open Go.RowKit
set_option linter.unusedVariables false
set_option linter.unusedSimpArgs false
theorem pak_3a {l : List ByteArray} (h : 300 < l.length) : pakE l = 3 ∧ pakB l = [] := by have : pakE l = 3 := by { unfold pakE; rw [if_pos h] }; exact ⟨this, by unfold pakB; rw [this, if_neg (by decide)]⟩
theorem pak_3b {l : List ByteArray} (h : bigL l = true) : pakE l = 3 ∧ pakB l = [] := by
  have : pakE l = 3 := by
    unfold pakE
    split
    · rfl
    · first | rfl | rw [if_pos h]
  exact ⟨this, by unfold pakB; rw [this, if_neg (by decide)]⟩
theorem pak_1 {l : List ByteArray} (h0 : ¬ 300 < l.length) (h1 : bigL l = false) (h : srtL [] l = false) : pakE l = 1 ∧ pakB l = [] := by
  have : pakE l = 1 := by unfold pakE; rw [if_neg h0, if_neg (by rw [h1]; simp), if_neg (by rw [h]; simp)]
  exact ⟨this, by unfold pakB; rw [this, if_neg (by decide)]⟩
theorem pak_0 {l : List ByteArray} (h0 : ¬ 300 < l.length) (h1 : bigL l = false) (h : srtL [] l = true) : pakE l = 0 ∧ pakB l = pkL [] l := by
  have : pakE l = 0 := by unfold pakE; rw [if_neg h0, if_neg (by rw [h1]; simp), if_pos h]
  exact ⟨this, by unfold pakB; rw [this, if_pos rfl]⟩
theorem srt_no {bf : List UInt8} {l : List ByteArray} {j : Nat} (hj : j < l.length) (hr : srtL bf (l.drop j) = srtL [] l) (h : Op.bytesLess (Pg.sth l j).toList bf = true) : srtL [] l = false := by
  rw [← hr, drop_sth hj, srt_cons, h]
  rfl
theorem srt_on {bf : List UInt8} {l : List ByteArray} {j : Nat} (hj : j < l.length) (hr : srtL bf (l.drop j) = srtL [] l) (h : Op.bytesLess (Pg.sth l j).toList bf = false) : srtL (Pg.sth l j).toList (l.drop (j + 1)) = srtL [] l := by
  rw [← hr, drop_sth hj, srt_cons, h]
  rfl
theorem pk_on {bf out : List UInt8} {l : List ByteArray} {j : Nat} (hj : j < l.length) (hr : out ++ pkL bf (l.drop j) = pkL [] l) :
    out ++ [byo (cmnL bf (Pg.sth l j).toList), byo ((Pg.sth l j).size - cmnL bf (Pg.sth l j).toList)] ++ (Pg.sth l j).toList.drop (cmnL bf (Pg.sth l j).toList) ++ pkL (Pg.sth l j).toList (l.drop (j + 1)) = pkL [] l := by
  rw [← hr, drop_sth hj, pk_cons]
  simp
theorem dropS_list' (s : ByteArray) (q : Nat) : (s.extract q s.size).toList = s.toList.drop q := by
  rw [ext_list, List.take_of_length_le]
  rw [List.length_drop, len_toList]
  exact Nat.le_refl _
set_option maxRecDepth 100000 in
set_option maxHeartbeats 4000000 in
theorem Pack_any (A : Option Addr) (n c : Nat) (l : List ByteArray) (w : World) (hl : Pg.RdS w A n c l) (hz : Hid (∀ k, k < n → (Pg.sth l k).size ≤ 140737488351232)) : Calls Tryd.prog 33 #[.slice A n c] w (GiveBE (pakB l) (pakE l) w) := by
  have info5 : (Tryd.prog.info? 5).map (fun i => (i.zero, i.size, i.bytes)) = some (some (.int .u8 0), 1, 1) := by kernel_rfl
  obtain ⟨i0, hi, hz0, hz1, hz2⟩ := info_parts info5
  clear info5
  have hlen := hid hl.len
  have hmx := Rd.max hl
  by_cases h3 : 300 < n
  · obtain ⟨e1, e2⟩ := pak_3a (l := l) (by rw [hlen.out]; exact h3)
    rw [e1, e2]
    have d1 : decide ((300 : Int) < (n : Int)) = true := by simp; omega
    clear h3 e1 e2 hlen hl
    go_enter Tryd.func33, Tryd.ntmps33
    go_wp2
    go_ret2
    exact GiveBE.no 3 (Ext.refl _)
  have d1 : decide ((300 : Int) < (n : Int)) = false := by simp; omega
  have hn300 : n ≤ 300 := by omega
  have p3 := hid (fun h => pak_3b (l := l) h)
  have p1 := hid (fun h1 h => pak_1 (l := l) (by rw [hlen.out]; exact h3) h1 h)
  have p0 := hid (fun h1 h => pak_0 (l := l) (by rw [hlen.out]; exact h3) h1 h)
  clear h3
  generalize pakE l = E at *
  generalize pakB l = B at *
  have hall := hid (fun h => big_all l hlen.out h)
  have hyes := hid (fun k (hk : k < n) h => big_yes l (k := k) (by rw [hlen.out]; exact hk) h)
  replace hl := hid hl
  have cc := hid (fun a b hs ht w => common_any a b hs ht w)
  go_enter Tryd.func33, Tryd.ntmps33
  go_wp2_with fail
  go_loop [16] (fun i => ∃ j : Nat, j ≤ n ∧ i = .int .i64 j ∧ Hid (∀ k, k < j → (Pg.sth l k).size ≤ 100)) (fun i => n - (intOf i).toNat)
  case atStart => exact ⟨0, by omega, rfl, fun k hk => absurd hk (by omega)⟩
  case round =>
    obtain ⟨j, hj, rfl, hsm⟩ := hrel
    by_cases hlt : j < n
    · obtain ⟨ad, rfl, hcell⟩ := Pg.RdS.at_ hl.out hlt
      have hbig : Hid (100 < (Pg.sth l j).size → bigL l = true) := fun h => hyes.out j hlt h
      have hsz : (Pg.sth l j).size ≤ 140737488351232 := hz.out j hlt
      have hpre : Hid ((Pg.sth l j).size ≤ 100 → ∀ k, k < j + 1 → (Pg.sth l k).size ≤ 100) := fun h k hk => (Nat.lt_or_ge k j).elim (fun e => hsm.out k e) (fun e => by (obtain rfl : k = j := (by omega)); exact h)
      clear hsm
      generalize Pg.sth l j = K at *
      by_cases hK : 100 < K.size
      · have d2 : decide ((100 : Int) < (K.size : Int)) = true := by simp; omega
        obtain ⟨rfl, rfl⟩ := p3.out (hbig.out hK)
        clear hK hbig hpre p3 p1 p0
        go_wp2
        go_ret2
        exact GiveBE.no 3 (Ext.refl _)
      · have d2 : decide ((100 : Int) < (K.size : Int)) = false := by simp; omega
        have hp2 := hid (hpre.out (by omega))
        clear hpre hbig hK
        go_wp2_with fail
        go_round
        case rel => exact ⟨j + 1, by omega, by go_num, hp2⟩
        case measure => simp [intOf]; omega
    · obtain rfl : j = n := by omega
      have hbg := hid (hall.out hsm.out)
      clear hyes hall p3
      have hsort0 : Hid (srtL [] (l.drop 0) = srtL [] l) := by unfold Hid; rw [List.drop_zero]
      have hpk0 : Hid ([] ++ pkL [] (l.drop 0) = pkL [] l) := by unfold Hid; rw [List.drop_zero]; rfl
      go_wp2_with fail
      go_loopw [6, 7, 26] (fun v b i wr => ∃ (q m : Nat) (bf : ByteArray) (out : List UInt8), q ≤ j ∧ b = .string bf ∧ i = .int .i64 q ∧ m ≤ q * 102 ∧ bf.size ≤ 100 ∧ wr.ownsRow w.heap.size 5 1 v m (Pg.bytesC out) ∧ Below w.heap.size w wr ∧ Hid (srtL bf.toList (l.drop q) = srtL [] l) ∧ Hid (out ++ pkL bf.toList (l.drop q) = pkL [] l)) (fun _ _ i _ => j - (intOf i).toNat)
      case atStart => exact ⟨0, 0, { data := #[] }, [], by omega, rfl, rfl, by omega, by decide, World.ownsRow_nil _ _ _ _, Below.refl _ _, by rw [show ByteArray.toList { data := #[] } = [] from emp_list]; exact hsort0, by rw [show ByteArray.toList { data := #[] } = [] from emp_list]; exact hpk0⟩
      clear hsort0 hpk0
      case round =>
        obtain ⟨q, m, bf, out, hq, rfl, rfl, hm, hbf, hown, hb, hsr, hpk⟩ := hrel
        have hbs := hb.size
        obtain ⟨A0, c0, rfl, hc0⟩ := own_form hown
        by_cases hlt2 : q < j
        · obtain ⟨ad, rfl, hcell⟩ := Pg.RdS.at_ (Pg.RdS.ext hl.out hb) hlt2
          have hql : q < l.length := by rw [hlen.out]; exact hlt2
          have hK : (Pg.sth l q).size ≤ 100 := hsm.out q hlt2
          have s1 := hid (fun h => srt_no hql hsr.out h)
          have s2 := hid (fun h => srt_on hql hsr.out h)
          have s3 := hid (pk_on hql hpk.out)
          have ps := hid (pk_step out bf.toList (Pg.sth l q) hK)
          have hcl := cmn_le bf.toList (Pg.sth l q).toList
          rw [len_toList, len_toList] at hcl
          clear hsr hpk hql
          generalize Pg.sth l q = K at *
          have hcc := hid (fun w => cc.out bf K (by omega) (by omega) w)
          obtain ⟨N, hN⟩ : ∃ N, N = cmnL bf.toList K.toList := ⟨_, rfl⟩
          rw [← hN] at s3 ps hcl hcc
          clear hN
          obtain ⟨hN1, hN2⟩ := hcl
          rcases Bool.eq_false_or_eq_true (Op.bytesLess K.toList bf.toList) with ql | ql
          · obtain ⟨rfl, rfl⟩ := p1.out hbg.out (s1.out ql)
            clear s1 s2 s3 ps hcc
            go_wp2
            go_ret2
            exact GiveBE.no 1 hb
          · have s4 := hid (s2.out ql)
            have e8 : IntKind.u8.wrap (N : Int) = (N : Int) := Pg.u8_in _ (by omega) (by omega)
            have e9 : IntKind.u8.wrap ((K.size : Int) - (N : Int)) = (K.size : Int) - (N : Int) := Pg.u8_in _ (by omega) (by omega)
            have hz3 : (K.extract N K.size).size = K.size - N := by rw [ByteArray.size_extract]; omega
            have hz3 := hid hz3
            have sl : ∀ wx, (Instr.slice 9 (.string K) (some (.int .i64 (N : Nat))) none none).run Tryd.prog wx = .ok (.string (K.extract N K.size)) wx := by
              intro wx
              rw [run_slice_string_from_if (P := Tryd.prog) wx 9 K .i64 (N : Int) Tryd.underlying9, if_pos ⟨by omega, by omega⟩]
              rfl
            have hdl : Hid ((K.extract N K.size).toList = K.toList.drop N) := dropS_list' K N
            clear s1 s2
            go_wp2_with fail
            refine (hcc.out _).mono ?_
            rintro e w2 ⟨rfl, hx2⟩
            have hown2 := Ext.own hx2 hown
            have hb2 : Below w.heap.size w w2 := Ext.trans hb hx2
            have hbs2 := hb2.size
            clear hx2 hown hb hcell hcc
            go_wp2_with (at_builtin; refine wpList_pushN _ rfl _ _ 49 rfl w.heap.size 5 i0 _ 1 1 Tryd.underlying49 hi hz0 hz1 hz2 rfl (by decide) _ _ 2 (by decide) _ rfl hown2 [.int .u8 (N : Int), .int .u8 ((K.size : Int) - (N : Int))] rfl rfl (by simp [Value.oneCell']) (by unfold maxLen; omega) (by omega) hbs2 ?_)
            intro g cap wp ownp grp _
            rw [show Pg.bytesC out ++ [.int .u8 (N : Int), .int .u8 ((K.size : Int) - (N : Int))] = Pg.bytesC (out ++ [byo N, byo (K.size - N)]) from (by rw [← ps.out, show ((K.size : Int) - (N : Int)) = ((K.size - N : Nat) : Int) by omega])] at ownp
            have bel := below_push hb2 hown2 grp hbs2
            clear grp hown2 hb2 ps
            have hbs3 := bel.size
            go_wp2_with (at_builtin; refine Go.Lib.wpList_append_own_string _ rfl _ _ 49 9 rfl w.heap.size 5 i0 Tryd.underlying49 Tryd.underlying9 hi hz0 hz1 hz2 _ _ _ rfl ownp (K.extract N K.size) rfl (by rw [hz3.out]; unfold maxLen; omega) (by rw [hz3.out]; omega) hbs3 ?_)
            intro v3 w3 own3 grp3 _
            rw [strCells_bytes, hdl.out, ← bytesC_app] at own3
            have bel3 := below_push bel ownp grp3 hbs3
            clear grp3 ownp bel hz3 hdl sl
            go_wp2_with fail
            go_roundw
            case rel => exact ⟨q + 1, m + 2 + (K.size - N), K, _, by omega, rfl, by go_num, by omega, hK, own3, bel3, s4, s3⟩
            case measure => simp [intOf]; omega
        · obtain rfl : q = j := by omega
          rw [List.drop_of_length_le (by rw [hlen.out]; exact Nat.le_refl _)] at hsr hpk
          obtain ⟨rfl, rfl⟩ := p0.out hbg.out hsr.out.symm
          rw [show pkL bf.toList [] = [] from rfl, List.append_nil] at hpk
          have hrd : Hid (Pg.RdB wr A0 m c0 (pkL [] l)) := by rw [← hpk.out]; exact Rd.of_own hown
          have hfr := hid (own_fresh hown)
          clear hsr hpk p1 p0
          go_wp2
          go_ret2
          exact GiveBE.yes hrd.out hb hfr.out
end Go.Proofs.YtlfanhlkoepodaaDoor
