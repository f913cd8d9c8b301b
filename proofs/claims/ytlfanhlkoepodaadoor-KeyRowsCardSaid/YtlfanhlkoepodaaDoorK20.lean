/-
  The values of a compound key: the program and the reference.
-/
import Derived.Test.YtlfanhlkoepodaaDoorK19
namespace Go.Proofs.YtlfanhlkoepodaaDoor
open Go.RowKit
set_option linter.unusedVariables false
set_option linter.unusedSimpArgs false
def splA (acc : List VL) (l : List UInt8) : List Bool → List VL × Int
  | [] => if l.isEmpty then (acc, 0) else ([], 11)
  | d :: ds => if l.isEmpty then ([], 10) else match cutS (turnD d l) with
    | none => ([], 11)
    | some x => splA (acc ++ [(x.1.1, x.1.2.1, strB x.1.2.2)]) (l.drop x.2) ds
theorem drop_both {ds : List Bool} {j : Nat} (h : j < ds.length) : ds.drop j = both_ ds j :: ds.drop (j + 1) := by
  rw [List.drop_eq_getElem_cons h]
  congr 1
  simp [both_, List.getD, h]
theorem spl_e0 (acc : List VL) : splA acc [] [] = (acc, 0) := rfl
theorem spl_e1 (acc : List VL) {l : List UInt8} (h : l.isEmpty = false) : splA acc l [] = ([], 11) := by unfold splA; rw [h]; rfl
theorem spl_c0 (acc : List VL) (d : Bool) (ds : List Bool) : splA acc [] (d :: ds) = ([], 10) := by unfold splA; rfl
theorem spl_c1 (acc : List VL) {l : List UInt8} (d : Bool) (ds : List Bool) (h : l.isEmpty = false) (hc : cutS (turnD d l) = none) : splA acc l (d :: ds) = ([], 11) := by rw [splA, h, hc]; rfl
theorem spl_c2 (acc : List VL) {l : List UInt8} (d : Bool) (ds : List Bool) (h : l.isEmpty = false) {k n : Int} {t : List UInt8} {q : Nat} (hc : cutS (turnD d l) = some ((k, n, t), q)) : splA acc l (d :: ds) = splA (acc ++ [(k, n, strB t)]) (l.drop q) ds := by rw [splA, h, hc]; rfl
/-- A list of values and an error. -/
def GiveVsE (R : List VL × Int) (w : World) (e : Ending) (w' : World) : Prop := ∃ A n c, e = .returned (.tuple #[.slice A n c, .int .i64 R.2]) ∧ RdV w' A n c R.1 ∧ Ext w w'
theorem GiveVsE.no {w w' : World} (x : Int) (h : Ext w w') : GiveVsE ([], x) w (.returned (.tuple #[.slice none 0 0, .int .i64 x])) w' := ⟨_, _, _, rfl, RdV.nil _, h⟩
theorem GiveVsE.yes {w w' : World} {A : Option Addr} {n c : Nat} {l : List VL} {x : Int} (h : RdV w' A n c l) (hx : Ext w w') : GiveVsE (l, x) w (.returned (.tuple #[.slice A n c, .int .i64 x])) w' := ⟨_, _, _, rfl, h, hx⟩
theorem dropS_list (s : ByteArray) (q : Nat) : (s.extract q s.size).toList = s.toList.drop q := by
  rw [ext_list, List.take_of_length_le]
  rw [List.length_drop, len_toList]
  exact Nat.le_refl _
set_option maxRecDepth 100000 in
set_option maxHeartbeats 4000000 in
theorem Split_any (k : ByteArray) (A : Option Addr) (n c : Nat) (ds : List Bool) (hs : k.size ≤ 400000) (hn : n ≤ 1000000) (w : World) (hd : RdO w A n c ds) : Calls Tryd.prog 42 #[.string k, .slice A n c] w (GiveVsE (splA [] k.toList ds) w) := by
  have infoV : (Tryd.prog.info? 23).map (fun i => (i.zero, i.size, i.bytes)) = some (some (.agg #[.int .i64 0, .int .i64 0, .string { data := #[] }]), 3, 32) := by kernel_rfl
  obtain ⟨i0, hi, hz0, hz1, hz2⟩ := info_parts infoV
  clear infoV
  have hlen := hid hd.len
  have hm := Rd.max hd
  generalize hRR : splA [] k.toList ds = R
  replace hRR := hid hRR
  replace hd := hid hd
  go_enter Tryd.func42, Tryd.ntmps42
  go_wp2_with fail
  go_loopw [0, 6, 13] (fun s v i wr => ∃ (j m : Nat) (K : ByteArray) (acc : List VL), j ≤ n ∧ s = .string K ∧ i = .int .i64 j ∧ m ≤ j ∧ wr.ownsRow w.heap.size 23 3 v m (valsC acc) ∧ Below w.heap.size w wr ∧ K.size ≤ 400000 ∧ Hid (splA acc K.toList (ds.drop j) = R)) (fun _ _ i _ => n - (intOf i).toNat)
  case atStart => exact ⟨0, 0, k, [], by omega, rfl, rfl, by omega, World.ownsRow_nil _ _ _ _, Below.refl _ _, by omega, hRR⟩
  clear hRR
  case round =>
    obtain ⟨j, m, K, acc, hj, rfl, rfl, hmj, hown, hb, hK, hR⟩ := hrel
    have hbs := hb.size
    obtain ⟨A0, c0, rfl, hc0⟩ := own_form hown
    by_cases hlt : j < n
    · obtain ⟨ad, rfl, hcell⟩ := (hd.out.ext hb).at_ hlt
      have hdd := drop_both (ds := ds) (j := j) (by rw [hlen.out]; exact hlt)
      rw [hdd] at hR
      replace hdd := trivial
      generalize both_ ds j = d at *
      by_cases h0 : K.size = 0
      · obtain rfl := str_nil h0
        obtain rfl : R = ([], 10) := by rw [← hR.out, show ByteArray.toList { data := #[] } = [] from emp_list, spl_c0]
        clear hR h0
        go_wp2
        go_ret2
        exact GiveVsE.no 10 hb
      obtain ⟨em1, em2⟩ := full_facts h0
      clear h0
      have em3 := hid em1
      cases d with
      | false =>
        have ht := hid (fun w => turner_any false w)
        have en := enterT1
        obtain ⟨S, hSK⟩ : ∃ S, S = K := ⟨_, rfl⟩
        have hT : Hid (∀ w : World, Calls Tryd.prog 80 #[.string K] w fun e w' => e = .returned (.string S) ∧ w = w') := by intro w; rw [hSK]; exact turn1_any K w
        have hS : S.toList = turnD false K.toList := by rw [hSK]; rfl
        have hz : S.size = K.size := by rw [hSK]
        clear hSK
        have hc := hid (fun w => cut_any S (by omega) w)
        replace hS := hid hS
        cases hcu : cutS S.toList with
        | none =>
          rw [hcu] at hc
          obtain rfl : R = ([], 11) := by rw [← hR.out, spl_c1 acc false _ em3.out (by rw [← hS.out]; exact hcu)]
          clear hR hcu hS hz
          go_wp2_with fail
          refine (ht.out _).mono ?_
          rintro e w' ⟨rfl, rfl⟩
          go_wp2_with fail
          refine (hT.out _).mono ?_
          rintro e w2 ⟨rfl, hx2⟩
          replace hx2 : Ext wr w2 := by rw [← hx2]; exact Ext.refl _
          replace hx2 := hid hx2
          go_wp2_with fail
          refine (hc.out w2).mono ?_
          rintro e w3 ⟨k', n', s', rfl, hx3⟩
          unfold vV
          have hE := hid (((Ext.trans hb hx2.out).trans hx3).alloc_right (.cells #[.int .i64 k', .int .i64 n', .string s'] 23))
          go_wp2
          go_ret2
          exact GiveVsE.no 11 hE.out
        | some x =>
          obtain ⟨⟨k', n', t⟩, q⟩ := x
          have hq := cutS_len hcu
          rw [len_toList, hz] at hq
          have hq1 := hq.1
          have hq2 := hq.2.1
          have hq0 : ((q : Int) == 0) = false := by simp; omega
          rw [hcu] at hc
          have hR2 := hid ((spl_c2 acc false (ds.drop (j + 1)) em3.out (by rw [← hS.out]; exact hcu)).symm.trans hR.out)
          rw [← dropS_list] at hR2
          have hKq : (K.extract q K.size).size ≤ 400000 := by rw [ByteArray.size_extract]; omega
          have sl : ∀ wx, (Instr.slice 9 (.string K) (some (.int .i64 (q : Nat))) none none).run Tryd.prog wx = .ok (.string (K.extract q K.size)) wx := by
            intro wx
            rw [run_slice_string_from_if (P := Tryd.prog) wx 9 K .i64 (q : Int) Tryd.underlying9, if_pos ⟨by omega, by omega⟩]
            rfl
          clear hR hcu hS hz hq
          go_wp2_with fail
          refine (ht.out _).mono ?_
          rintro e w' ⟨rfl, rfl⟩
          go_wp2_with fail
          refine (hT.out _).mono ?_
          rintro e w2 ⟨rfl, hx2⟩
          replace hx2 : Ext wr w2 := by rw [← hx2]; exact Ext.refl _
          replace hx2 := hid hx2
          go_wp2_with fail
          refine (hc.out w2).mono ?_
          rintro e w3 ⟨rfl, hx3⟩
          unfold vV
          have hE := hid ((Ext.trans hb hx2.out).trans hx3)
          have hox := (((Ext.trans hx2.out hx3)).own hown)
          clear hx2 hx3 hown hb hcell
          go_upto_region 8 with fail
          have u0 : (w3.alloc (.cells #[.int .i64 k', .int .i64 n', .string (strB t)] 23)).cell? ⟨w3.heap.size, 0, none⟩ = some (.int .i64 k') := by go_simp
          have u1 : (w3.alloc (.cells #[.int .i64 k', .int .i64 n', .string (strB t)] 23)).cell? ⟨w3.heap.size, 1, none⟩ = some (.int .i64 n') := by go_simp
          have u2 : (w3.alloc (.cells #[.int .i64 k', .int .i64 n', .string (strB t)] 23)).cell? ⟨w3.heap.size, 2, none⟩ = some (.string (strB t)) := by go_simp
          replace hox := hox.alloc (.cells #[.int .i64 k', .int .i64 n', .string (strB t)] 23)
          replace hE := hid (hE.out.alloc_right (.cells #[.int .i64 k', .int .i64 n', .string (strB t)] 23))
          generalize w3.alloc (.cells #[.int .i64 k', .int .i64 n', .string (strB t)] 23) = w4 at *
          have lt4 : w3.heap.size < w4.heap.size := World.block_lt_of_cell? w4 _ u0
          have hb4 : Below w.heap.size w w4 := hE.out
          have hbs4 := hb4.size
          clear hE
          have hb1 := hid (valsC_snoc acc (k', n', strB t))
          go_wp2_with (at_builtin; refine wpList_push _ rfl _ _ 63 rfl w.heap.size 23 i0 _ 3 32 Tryd.underlying63 hi hz0 hz1 hz2 rfl (by decide) _ _ _ rfl hox [.int .i64 k', .int .i64 n', .string (strB t)] rfl rfl (by simp [Value.oneCell']) (by unfold maxLen; omega) (by omega) hbs4 ?_)
          intro g cap wp ownp grp _
          rw [show valsC acc ++ [.int .i64 k', .int .i64 n', .string (strB t)] = valsC (acc ++ [(k', n', strB t)]) from hb1.out.symm] at ownp
          have bel := below_push hb4 hox grp hbs4
          clear grp hox hb4 u0 u1 u2 lt4
          go_wp2_with fail
          go_roundw
          case rel => exact ⟨j + 1, m + 1, _, _, by omega, rfl, by go_num, by omega, ownp, bel, hKq, hR2⟩
          case measure => simp [intOf]; omega
      | true =>
        have ht := hid (fun w => turner_any true w)
        have en := enterT2
        have hT := hid (fun w => turn2_any K (by omega) w)
        rw [← turnS_t] at hT
        have hS := turnS_list true K
        have hz := turnS_size true K
        generalize turnS true K = S at *
        have hc := hid (fun w => cut_any S (by omega) w)
        replace hS := hid hS
        cases hcu : cutS S.toList with
        | none =>
          rw [hcu] at hc
          obtain rfl : R = ([], 11) := by rw [← hR.out, spl_c1 acc true _ em3.out (by rw [← hS.out]; exact hcu)]
          clear hR hcu hS hz
          go_wp2_with fail
          refine (ht.out _).mono ?_
          rintro e w' ⟨rfl, rfl⟩
          go_wp2_with fail
          refine (hT.out _).mono ?_
          rintro e w2 ⟨rfl, hx2⟩
          replace hx2 := hid hx2
          go_wp2_with fail
          refine (hc.out w2).mono ?_
          rintro e w3 ⟨k', n', s', rfl, hx3⟩
          unfold vV
          have hE := hid (((Ext.trans hb hx2.out).trans hx3).alloc_right (.cells #[.int .i64 k', .int .i64 n', .string s'] 23))
          go_wp2
          go_ret2
          exact GiveVsE.no 11 hE.out
        | some x =>
          obtain ⟨⟨k', n', t⟩, q⟩ := x
          have hq := cutS_len hcu
          rw [len_toList, hz] at hq
          have hq1 := hq.1
          have hq2 := hq.2.1
          have hq0 : ((q : Int) == 0) = false := by simp; omega
          rw [hcu] at hc
          have hR2 := hid ((spl_c2 acc true (ds.drop (j + 1)) em3.out (by rw [← hS.out]; exact hcu)).symm.trans hR.out)
          rw [← dropS_list] at hR2
          have hKq : (K.extract q K.size).size ≤ 400000 := by rw [ByteArray.size_extract]; omega
          have sl : ∀ wx, (Instr.slice 9 (.string K) (some (.int .i64 (q : Nat))) none none).run Tryd.prog wx = .ok (.string (K.extract q K.size)) wx := by
            intro wx
            rw [run_slice_string_from_if (P := Tryd.prog) wx 9 K .i64 (q : Int) Tryd.underlying9, if_pos ⟨by omega, by omega⟩]
            rfl
          clear hR hcu hS hz hq
          go_wp2_with fail
          refine (ht.out _).mono ?_
          rintro e w' ⟨rfl, rfl⟩
          go_wp2_with fail
          refine (hT.out _).mono ?_
          rintro e w2 ⟨rfl, hx2⟩
          replace hx2 := hid hx2
          go_wp2_with fail
          refine (hc.out w2).mono ?_
          rintro e w3 ⟨rfl, hx3⟩
          unfold vV
          have hE := hid ((Ext.trans hb hx2.out).trans hx3)
          have hox := (((Ext.trans hx2.out hx3)).own hown)
          clear hx2 hx3 hown hb hcell
          go_upto_region 8 with fail
          have u0 : (w3.alloc (.cells #[.int .i64 k', .int .i64 n', .string (strB t)] 23)).cell? ⟨w3.heap.size, 0, none⟩ = some (.int .i64 k') := by go_simp
          have u1 : (w3.alloc (.cells #[.int .i64 k', .int .i64 n', .string (strB t)] 23)).cell? ⟨w3.heap.size, 1, none⟩ = some (.int .i64 n') := by go_simp
          have u2 : (w3.alloc (.cells #[.int .i64 k', .int .i64 n', .string (strB t)] 23)).cell? ⟨w3.heap.size, 2, none⟩ = some (.string (strB t)) := by go_simp
          replace hox := hox.alloc (.cells #[.int .i64 k', .int .i64 n', .string (strB t)] 23)
          replace hE := hid (hE.out.alloc_right (.cells #[.int .i64 k', .int .i64 n', .string (strB t)] 23))
          generalize w3.alloc (.cells #[.int .i64 k', .int .i64 n', .string (strB t)] 23) = w4 at *
          have lt4 : w3.heap.size < w4.heap.size := World.block_lt_of_cell? w4 _ u0
          have hb4 : Below w.heap.size w w4 := hE.out
          have hbs4 := hb4.size
          clear hE
          have hb1 := hid (valsC_snoc acc (k', n', strB t))
          go_wp2_with (at_builtin; refine wpList_push _ rfl _ _ 63 rfl w.heap.size 23 i0 _ 3 32 Tryd.underlying63 hi hz0 hz1 hz2 rfl (by decide) _ _ _ rfl hox [.int .i64 k', .int .i64 n', .string (strB t)] rfl rfl (by simp [Value.oneCell']) (by unfold maxLen; omega) (by omega) hbs4 ?_)
          intro g cap wp ownp grp _
          rw [show valsC acc ++ [.int .i64 k', .int .i64 n', .string (strB t)] = valsC (acc ++ [(k', n', strB t)]) from hb1.out.symm] at ownp
          have bel := below_push hb4 hox grp hbs4
          clear grp hox hb4 u0 u1 u2 lt4
          go_wp2_with fail
          go_roundw
          case rel => exact ⟨j + 1, m + 1, _, _, by omega, rfl, by go_num, by omega, ownp, bel, hKq, hR2⟩
          case measure => simp [intOf]; omega
    · obtain rfl : j = n := by omega
      rw [List.drop_of_length_le (by rw [hlen.out]; exact Nat.le_refl _)] at hR
      by_cases h0 : K.size = 0
      · obtain rfl := str_nil h0
        obtain rfl : R = (acc, 0) := by rw [← hR.out, show ByteArray.toList { data := #[] } = [] from emp_list, spl_e0]
        clear hR h0
        have hrd := hid (show RdV wr A0 m c0 acc from Rd.of_own hown)
        go_wp2
        go_ret2
        exact GiveVsE.yes hrd.out hb
      · obtain ⟨em1, em2⟩ := full_facts h0
        obtain rfl : R = ([], 11) := by rw [← hR.out, spl_e1 _ em1]
        clear hR h0
        go_wp2
        go_ret2
        exact GiveVsE.no 11 hb
set_option maxRecDepth 100000 in
set_option maxHeartbeats 4000000 in
theorem rSplit_any (k : ByteArray) (A : Option Addr) (n c : Nat) (ds : List Bool) (hs : k.size ≤ 400000) (hn : n ≤ 1000000) (w : World) (hd : RdO w A n c ds) : Calls Tryd.prog 43 #[.string k, .slice A n c] w (GiveVsE (splA [] k.toList ds) w) := by
  have infoV : (Tryd.prog.info? 23).map (fun i => (i.zero, i.size, i.bytes)) = some (some (.agg #[.int .i64 0, .int .i64 0, .string { data := #[] }]), 3, 32) := by kernel_rfl
  obtain ⟨i0, hi, hz0, hz1, hz2⟩ := info_parts infoV
  clear infoV
  have hlen := hid hd.len
  have hm := Rd.max hd
  generalize hRR : splA [] k.toList ds = R
  replace hRR := hid hRR
  replace hd := hid hd
  go_enter Tryd.func43, Tryd.ntmps43
  go_wp2_with fail
  go_loopw [0, 6, 7] (fun s v i wr => ∃ (j m : Nat) (K : ByteArray) (acc : List VL), j ≤ n ∧ s = .string K ∧ i = .int .i64 j ∧ m ≤ j ∧ wr.ownsRow w.heap.size 23 3 v m (valsC acc) ∧ Below w.heap.size w wr ∧ K.size ≤ 400000 ∧ Hid (splA acc K.toList (ds.drop j) = R)) (fun _ _ i _ => n - (intOf i).toNat)
  case atStart => exact ⟨0, 0, k, [], by omega, rfl, rfl, by omega, World.ownsRow_nil _ _ _ _, Below.refl _ _, by omega, hRR⟩
  clear hRR
  case round =>
    obtain ⟨j, m, K, acc, hj, rfl, rfl, hmj, hown, hb, hK, hR⟩ := hrel
    have hbs := hb.size
    obtain ⟨A0, c0, rfl, hc0⟩ := own_form hown
    by_cases hlt : j < n
    · obtain ⟨ad, rfl, hcell⟩ := (hd.out.ext hb).at_ hlt
      have hdd := drop_both (ds := ds) (j := j) (by rw [hlen.out]; exact hlt)
      rw [hdd] at hR
      replace hdd := trivial
      generalize both_ ds j = d at *
      by_cases h0 : K.size = 0
      · obtain rfl := str_nil h0
        obtain rfl : R = ([], 10) := by rw [← hR.out, show ByteArray.toList { data := #[] } = [] from emp_list, spl_c0]
        clear hR h0
        go_wp2
        go_ret2
        exact GiveVsE.no 10 hb
      obtain ⟨em1, em2⟩ := full_facts h0
      clear h0
      have em3 := hid em1
      have hT := hid (fun w => rturned_any K d (by omega) w)
      have hS := turnS_list d K
      have hz := turnS_size d K
      generalize turnS d K = S at *
      have hc := hid (fun w => one_any S (by omega) w)
      replace hS := hid hS
      cases hcu : cutS S.toList with
      | none =>
        rw [hcu] at hc
        obtain rfl : R = ([], 11) := by rw [← hR.out, spl_c1 acc d _ em3.out (by rw [← hS.out]; exact hcu)]
        clear hR hcu hS hz
        go_wp2_with fail
        refine (hT.out _).mono ?_
        rintro e w2 ⟨rfl, hx2⟩
        replace hx2 := hid hx2
        go_wp2_with fail
        refine (hc.out w2).mono ?_
        rintro e w3 ⟨k', n', s', rfl, hx3⟩
        unfold vV
        have hE := hid (((Ext.trans hb hx2.out).trans hx3).alloc_right (.cells #[.int .i64 k', .int .i64 n', .string s'] 23))
        go_wp2
        go_ret2
        exact GiveVsE.no 11 hE.out
      | some x =>
        obtain ⟨⟨k', n', t⟩, q⟩ := x
        have hq := cutS_len hcu
        rw [len_toList, hz] at hq
        have hq1 := hq.1
        have hq2 := hq.2.1
        have hq0 : ((q : Int) == 0) = false := by simp; omega
        rw [hcu] at hc
        have hR2 := hid ((spl_c2 acc d (ds.drop (j + 1)) em3.out (by rw [← hS.out]; exact hcu)).symm.trans hR.out)
        rw [← dropS_list] at hR2
        have hKq : (K.extract q K.size).size ≤ 400000 := by rw [ByteArray.size_extract]; omega
        have sl : ∀ wx, (Instr.slice 9 (.string K) (some (.int .i64 (q : Nat))) none none).run Tryd.prog wx = .ok (.string (K.extract q K.size)) wx := by
          intro wx
          rw [run_slice_string_from_if (P := Tryd.prog) wx 9 K .i64 (q : Int) Tryd.underlying9, if_pos ⟨by omega, by omega⟩]
          rfl
        clear hR hcu hS hz hq
        go_wp2_with fail
        refine (hT.out _).mono ?_
        rintro e w2 ⟨rfl, hx2⟩
        replace hx2 := hid hx2
        go_wp2_with fail
        refine (hc.out w2).mono ?_
        rintro e w3 ⟨rfl, hx3⟩
        unfold vV
        have hE := hid ((Ext.trans hb hx2.out).trans hx3)
        have hox := (((Ext.trans hx2.out hx3)).own hown)
        clear hx2 hx3 hown hb hcell
        go_upto_region 8 with fail
        have u0 : (w3.alloc (.cells #[.int .i64 k', .int .i64 n', .string (strB t)] 23)).cell? ⟨w3.heap.size, 0, none⟩ = some (.int .i64 k') := by go_simp
        have u1 : (w3.alloc (.cells #[.int .i64 k', .int .i64 n', .string (strB t)] 23)).cell? ⟨w3.heap.size, 1, none⟩ = some (.int .i64 n') := by go_simp
        have u2 : (w3.alloc (.cells #[.int .i64 k', .int .i64 n', .string (strB t)] 23)).cell? ⟨w3.heap.size, 2, none⟩ = some (.string (strB t)) := by go_simp
        replace hox := hox.alloc (.cells #[.int .i64 k', .int .i64 n', .string (strB t)] 23)
        replace hE := hid (hE.out.alloc_right (.cells #[.int .i64 k', .int .i64 n', .string (strB t)] 23))
        generalize w3.alloc (.cells #[.int .i64 k', .int .i64 n', .string (strB t)] 23) = w4 at *
        have lt4 : w3.heap.size < w4.heap.size := World.block_lt_of_cell? w4 _ u0
        have hb4 : Below w.heap.size w w4 := hE.out
        have hbs4 := hb4.size
        clear hE
        have hb1 := hid (valsC_snoc acc (k', n', strB t))
        go_wp2_with (at_builtin; refine wpList_push _ rfl _ _ 63 rfl w.heap.size 23 i0 _ 3 32 Tryd.underlying63 hi hz0 hz1 hz2 rfl (by decide) _ _ _ rfl hox [.int .i64 k', .int .i64 n', .string (strB t)] rfl rfl (by simp [Value.oneCell']) (by unfold maxLen; omega) (by omega) hbs4 ?_)
        intro g cap wp ownp grp _
        rw [show valsC acc ++ [.int .i64 k', .int .i64 n', .string (strB t)] = valsC (acc ++ [(k', n', strB t)]) from hb1.out.symm] at ownp
        have bel := below_push hb4 hox grp hbs4
        clear grp hox hb4 u0 u1 u2 lt4
        go_wp2_with fail
        go_roundw
        case rel => exact ⟨j + 1, m + 1, _, _, by omega, rfl, by go_num, by omega, ownp, bel, hKq, hR2⟩
        case measure => simp [intOf]; omega
    · obtain rfl : j = n := by omega
      rw [List.drop_of_length_le (by rw [hlen.out]; exact Nat.le_refl _)] at hR
      by_cases h0 : K.size = 0
      · obtain rfl := str_nil h0
        obtain rfl : R = (acc, 0) := by rw [← hR.out, show ByteArray.toList { data := #[] } = [] from emp_list, spl_e0]
        clear hR h0
        have hrd := hid (show RdV wr A0 m c0 acc from Rd.of_own hown)
        go_wp2
        go_ret2
        exact GiveVsE.yes hrd.out hb
      · obtain ⟨em1, em2⟩ := full_facts h0
        obtain rfl : R = ([], 11) := by rw [← hR.out, spl_e1 _ em1]
        clear hR h0
        go_wp2
        go_ret2
        exact GiveVsE.no 11 hb
end Go.Proofs.YtlfanhlkoepodaaDoor
