/-
  The bytes of a list of keys: the reference.
-/
import Derived.Test.YtlfanhlkoepodaaDoorK27
namespace Go.Proofs.YtlfanhlkoepodaaDoor
open Go.RowKit
set_option linter.unusedVariables false
set_option linter.unusedSimpArgs false
attribute [local go_sem] Pg.conv_new
theorem cmp_anti : ∀ a b : List UInt8, Lib.compareBytes a b = - Lib.compareBytes b a
  | [], [] => rfl
  | [], _ :: _ => rfl
  | _ :: _, [] => rfl
  | a :: x, b :: y => by
    have ih := cmp_anti x y
    by_cases h1 : a.toNat < b.toNat
    · rw [cmp_lt h1, cmp_gt h1]
    · by_cases h2 : b.toNat < a.toNat
      · rw [cmp_gt h2, cmp_lt h2]
        decide
      · obtain rfl : a = b := UInt8.toNat_inj.1 (by omega)
        rw [cmp_same, cmp_same]
        exact ih
theorem less_nil (a : List UInt8) : Op.bytesLess a [] = false := by cases a <;> rfl
/-- 'out = append(out, []byte(s)...)' where out is no nil. -/
theorem wpList_appB {W : World} {ops : Array Oper} {rest : List Oper} {o : Oper} {a : Act} {Q : Exit → Act → World → Prop} (hgd : o.guard = none) (sl x : Operand)
    (ho : o.op = .call { callee := .builtin .append, args := #[sl, x], argTypes := #[49, 49] })
    (base g n cap : Nat) (xs : List Value) (hs : a.eval sl = .slice (some ⟨g, 0, none⟩) n cap) (hown : W.ownsRow base 5 1 (.slice (some ⟨g, 0, none⟩) n cap) n xs) (s : ByteArray)
    (hx : a.eval x = .slice (some ⟨W.heap.size, 0, none⟩) s.size (Pg.capB W s)) (h63 : n + s.size ≤ 1000000) (hbase : base ≤ W.heap.size)
    (h : ∀ v' w', w'.ownsRow base 5 1 v' (n + s.size) (xs ++ Pg.bytesC s.toList) → (Pg.newB W s).grownBy w' (some g) → wpList Tryd.prog ops Q rest (a.put o.dst v') w') : wpList Tryd.prog ops Q (o :: rest) a (Pg.newB W s) := by
  have info5 : (Tryd.prog.info? 5).map (fun i => (i.zero, i.size, i.bytes)) = some (some (.int .u8 0), 1, 1) := by kernel_rfl
  obtain ⟨i0, hi, hz0, hz1, hz2⟩ := info_parts info5
  have hE := Pg.newB_ext W s
  have hB := Pg.newB_bk W s
  have hon := Ext.own hE hown
  have hcells : ∀ j u, (Pg.bytesC s.toList)[j]? = some u → (Pg.newB W s).cell? ((⟨W.heap.size, 0, none⟩ : Addr).add j) = some u := by
    intro j u hu
    have hj : j < s.toList.length := by have := (List.getElem?_eq_some_iff.1 hu).1; simpa [Pg.bytesC] using this
    rw [len_toList] at hj
    have hadd : (⟨W.heap.size, 0, none⟩ : Addr).add j = ⟨W.heap.size, j, none⟩ := by unfold Addr.add; split <;> simp_all
    rw [hadd, (hB.2 j hj).1, ← hu]
    have hj' : j < s.toList.length := by rw [len_toList]; exact hj
    simp [Pg.bytesC, Pg.byt, Pg.bth, List.getD, hj']
  have hl : (Pg.bytesC s.toList).length = s.size * 1 := by simp [Pg.bytesC, len_toList]
  have h1 : ∀ u ∈ Pg.bytesC s.toList, u.oneCell' = true := by
    intro u hu
    obtain ⟨_, _, rfl⟩ := List.mem_map.1 hu
    rfl
  have hsz := hE.size
  by_cases hz : s.size = 0
  · obtain ⟨A, c, e, hc⟩ := own_form hown
    have hcap : n ≤ cap := by injection e with _ _ e3; omega
    exact wpList_append_fits _ hgd sl x 49 ho base 5 i0 1 Tryd.underlying49 hi hz1 g n cap xs hs hon ⟨W.heap.size, 0, none⟩ s.size _ _ hx hl hcells h1 (by omega) (fun w' h2 h3 => h _ w' h2 h3)
  · exact wpList_append_lies _ hgd sl x 49 ho base 5 i0 _ 1 1 Tryd.underlying49 hi hz0 hz1 hz2 rfl (by decide) _ n xs hs hon ⟨W.heap.size, 0, none⟩ s.size _ _ hx hl hcells h1 (by omega) (by unfold maxLen; omega) (by omega) (by omega) _ rfl
      (fun g' cap' w' h2 h3 _ _ => h _ w' h2 h3)
set_option maxRecDepth 100000 in
set_option maxHeartbeats 20000000 in
theorem rPack_any (A : Option Addr) (n c : Nat) (l : List ByteArray) (w : World) (hl : Pg.RdS w A n c l) (hz : Hid (∀ k, k < n → (Pg.sth l k).size ≤ 140737488351232)) : Calls Tryd.prog 34 #[.slice A n c] w (GiveBE (pakB l) (pakE l) w) := by
  have info5 : (Tryd.prog.info? 5).map (fun i => (i.zero, i.size, i.bytes)) = some (some (.int .u8 0), 1, 1) := by kernel_rfl
  obtain ⟨i0, hi, hz0, hz1, hz2⟩ := info_parts info5
  clear info5
  have hlen := hid hl.len
  have hmx := Rd.max hl
  by_cases h3 : 300 < n
  · obtain ⟨e1, e2⟩ := pak_3a (l := l) (by rw [hlen.out]; exact h3)
    rw [e1, e2]
    have d1 : decide ((300 : Int) < (n : Int)) = true := by simp; omega
    clear h3 e1 e2 hlen hl
    go_enter Tryd.func34, Tryd.ntmps34
    go_wp2
    go_ret2
    exact GiveBE.no 3 (Ext.refl _)
  have d1 : decide ((300 : Int) < (n : Int)) = false := by simp; omega
  have hn300 : n ≤ 300 := by omega
  have p3 := hid (fun h => pak_3b (l := l) h)
  have p1 := hid (fun h1 h => pak_1 (l := l) (by rw [hlen.out]; exact h3) h1 h)
  have p0 := hid (fun h1 h => pak_0 (l := l) (by rw [hlen.out]; exact h3) h1 h)
  clear h3
  generalize pakE l = E at *
  generalize pakB l = B at *
  have hall := hid (fun h => big_all l hlen.out h)
  have hyes := hid (fun k (hk : k < n) h => big_yes l (k := k) (by rw [hlen.out]; exact hk) h)
  replace hl := hid hl
  have cc := hid (fun a b hs ht w => rCmpT_any a b hs ht w)
  go_enter Tryd.func34, Tryd.ntmps34
  go_wp2_with fail
  go_loop [4] (fun i => ∃ j : Nat, j ≤ n ∧ i = .int .i64 j ∧ Hid (∀ k, k < j → (Pg.sth l k).size ≤ 100)) (fun i => n - (intOf i).toNat)
  case atStart => exact ⟨0, by omega, rfl, fun k hk => absurd hk (by omega)⟩
  case round =>
    obtain ⟨j, hj, rfl, hsm⟩ := hrel
    by_cases hlt : j < n
    · obtain ⟨ad, rfl, hcell⟩ := Pg.RdS.at_ hl.out hlt
      have hbig : Hid (100 < (Pg.sth l j).size → bigL l = true) := fun h => hyes.out j hlt h
      have hsz : (Pg.sth l j).size ≤ 140737488351232 := hz.out j hlt
      have hpre : Hid ((Pg.sth l j).size ≤ 100 → ∀ k, k < j + 1 → (Pg.sth l k).size ≤ 100) := fun h k hk => (Nat.lt_or_ge k j).elim (fun e => hsm.out k e) (fun e => by (obtain rfl : k = j := (by omega)); exact h)
      clear hsm
      generalize Pg.sth l j = K at *
      by_cases hK : 100 < K.size
      · have d2 : decide ((100 : Int) < (K.size : Int)) = true := by simp; omega
        obtain ⟨rfl, rfl⟩ := p3.out (hbig.out hK)
        clear hK hbig hpre p3 p1 p0
        go_wp2
        go_ret2
        exact GiveBE.no 3 (Ext.refl _)
      · have d2 : decide ((100 : Int) < (K.size : Int)) = false := by simp; omega
        have hp2 := hid (hpre.out (by omega))
        clear hpre hbig hK
        go_wp2_with fail
        go_round
        case rel => exact ⟨j + 1, by omega, by go_num, hp2⟩
        case measure => simp [intOf]; omega
    · obtain rfl : j = n := by omega
      have hbg := hid (hall.out hsm.out)
      clear hyes hall p3
      have hsort0 : Hid (srtL [] (l.drop 0) = srtL [] l) := by unfold Hid; rw [List.drop_zero]
      have hpk0 : Hid ([] ++ pkL [] (l.drop 0) = pkL [] l) := by unfold Hid; rw [List.drop_zero]; rfl
      go_wp2_with fail
      go_loopw [5, 6, 7] (fun v b i wr => ∃ (q m : Nat) (bf : ByteArray) (out : List UInt8), q ≤ j ∧ b = .string bf ∧ i = .int .i64 q ∧ m ≤ q * 102 ∧ bf.size ≤ 100 ∧ Hid (q = 0 → bf.size = 0) ∧ wr.ownsRow w.heap.size 5 1 v m (Pg.bytesC out) ∧ Below w.heap.size w wr ∧ Hid (srtL bf.toList (l.drop q) = srtL [] l) ∧ Hid (out ++ pkL bf.toList (l.drop q) = pkL [] l)) (fun _ _ i _ => j - (intOf i).toNat)
      case atStart => exact ⟨0, 0, { data := #[] }, [], by omega, rfl, rfl, by omega, by decide, fun _ => rfl, World.ownsRow_nil _ _ _ _, Below.refl _ _, by rw [show ByteArray.toList { data := #[] } = [] from emp_list]; exact hsort0, by rw [show ByteArray.toList { data := #[] } = [] from emp_list]; exact hpk0⟩
      clear hsort0 hpk0
      case round =>
        obtain ⟨q, m, bf, out, hq, rfl, rfl, hm, hbf, hq0, hown, hb, hsr, hpk⟩ := hrel
        have hbs := hb.size
        obtain ⟨A0, c0, rfl, hc0⟩ := own_form hown
        by_cases hlt2 : q < j
        · obtain ⟨ad, rfl, hcell⟩ := Pg.RdS.at_ (Pg.RdS.ext hl.out hb) hlt2
          have hql : q < l.length := by rw [hlen.out]; exact hlt2
          have hK : (Pg.sth l q).size ≤ 100 := hsm.out q hlt2
          have s1 := hid (fun h => srt_no hql hsr.out h)
          have s2 := hid (fun h => srt_on hql hsr.out h)
          have s3 := hid (pk_on hql hpk.out)
          have ps := hid (pk_step out bf.toList (Pg.sth l q) hK)
          have hcl := cmn_le bf.toList (Pg.sth l q).toList
          rw [len_toList, len_toList] at hcl
          have hcells : Hid (∀ wx, Ext w wx → wx.cell? (ad.add q) = some (.string (Pg.sth l q))) := fun wx hx => RdS_at (Pg.RdS.ext hl.out hx) hlt2
          clear hsr hpk hql
          generalize Pg.sth l q = K at *
          have hcc := hid (fun w => cc.out bf K (by omega) (by omega) w)
          obtain ⟨N, hN⟩ : ∃ N, N = cmnL bf.toList K.toList := ⟨_, rfl⟩
          rw [← hN] at s3 ps hcl
          replace hN := hid hN
          obtain ⟨hN1, hN2⟩ := hcl
          by_cases hq1 : q = 0
          · have hbe := hq0.out hq1
            have s4 := hid (s2.out (by rw [show bf.toList = [] from emp_facts hbe]; exact less_nil _))
            have d3 : decide ((0 : Int) < (q : Int)) = false := by simp; omega
            have d3n : decide (0 < q) = false := by simp; omega
            clear s1 s2 hcc hq1 hbe
            go_wp2_with fail
            have e8 : IntKind.u8.wrap (N : Int) = (N : Int) := Pg.u8_in _ (by omega) (by omega)
            have e9 : IntKind.u8.wrap ((K.size : Int) - (N : Int)) = (K.size : Int) - (N : Int) := Pg.u8_in _ (by omega) (by omega)
            have hz3 : Hid ((K.extract N K.size).size = K.size - N) := by unfold Hid; rw [ByteArray.size_extract]; omega
            have sl : ∀ wx, (Instr.slice 9 (.string K) (some (.int .i64 (N : Nat))) none none).run Tryd.prog wx = .ok (.string (K.extract N K.size)) wx := by
              intro wx
              rw [run_slice_string_from_if (P := Tryd.prog) wx 9 K .i64 (N : Int) Tryd.underlying9, if_pos ⟨by omega, by omega⟩]
              rfl
            have hdl : Hid ((K.extract N K.size).toList = K.toList.drop N) := dropS_list' K N
            generalize K.extract N K.size = KS at *
            obtain ⟨wo, hwo⟩ : ∃ wo : World, wo = wr := ⟨_, rfl⟩
            rw [← hwo]
            have hxo : Hid (Ext wr wo) := by rw [hwo]; exact Ext.refl _
            clear hwo
            replace hown := Ext.own hxo.out hown
            replace hb : Below w.heap.size w wo := Ext.trans hb hxo.out
            clear hxo hbs hcell
            go_loopw [8] (fun t wr => (∃ k : Nat, k ≤ bf.size ∧ k ≤ K.size ∧ t = .int .i64 k ∧ Hid (N = k + cmnL (bf.toList.drop k) (K.toList.drop k))) ∧ Hid (Ext wo wr)) (fun t _ => bf.size - (intOf t).toNat)
            case atStart => exact ⟨⟨0, by omega, by omega, rfl, by unfold Hid; rw [List.drop_zero, List.drop_zero, Nat.zero_add]; exact hN.out⟩, Ext.refl _⟩
            case round =>
              obtain ⟨⟨k, hk1, hk2, rfl, hinv⟩, hx⟩ := hrel
              rw [hN.out] at hinv
              have hcy := hcells.out wr (Ext.trans hb hx.out)
              by_cases h1 : k < bf.size
              · have d4 : decide ((k : Int) < (bf.size : Int)) = true := by simp; omega
                by_cases hkb : k < K.size
                · have d5 : decide ((k : Int) < (K.size : Int)) = true := by simp; omega
                  rcases Bool.eq_false_or_eq_true (((bf[k]'h1).toNat : Int) == ((K[k]'hkb).toNat : Int)) with qq | qq
                  · have hn := hid (hN.out.trans (cmn_of h1 hkb hinv.out qq))
                    clear hinv
                    go_wp2
                    go_quiet (fail)
                    go_wp2
                    go_roundw
                    case rel => exact ⟨⟨k + 1, by omega, by omega, by go_num, hn⟩, hx.out.drewN_right _⟩
                    case measure => simp [intOf]; omega
                  · have hc := cmn_of' h1 hkb hinv.out qq
                    rw [← hN.out] at hc
                    obtain rfl : N = k := hc
                    clear hinv
                    go_wp2
                    go_quiet (fail)
                    generalize hwx : wr.drewN _ = wx
                    have hxx : Hid (Ext wo wx) := by rw [← hwx]; exact hx.out.drewN_right _
                    clear hwx hx hcy
                    have hownx := Ext.own hxx.out hown
                    have hbx : Below w.heap.size w wx := Ext.trans hb hxx.out
                    have hbsx := hbx.size
                    have hcx := hcells.out wx hbx
                    clear hown hb hxx
                    go_upto_region 18 with fail
                    go_wp2_with (at_builtin; refine wpList_pushN _ rfl _ _ 49 rfl w.heap.size 5 i0 _ 1 1 Tryd.underlying49 hi hz0 hz1 hz2 rfl (by decide) _ _ 2 (by decide) _ rfl hownx [.int .u8 (N : Int), .int .u8 ((K.size : Int) - (N : Int))] rfl rfl (by simp [Value.oneCell']) (by unfold maxLen; omega) (by omega) hbsx ?_)
                    intro g cap wp ownp grp _
                    rw [show Pg.bytesC out ++ [.int .u8 (N : Int), .int .u8 ((K.size : Int) - (N : Int))] = Pg.bytesC (out ++ [byo N, byo (K.size - N)]) from (by rw [← ps.out, show ((K.size : Int) - (N : Int)) = ((K.size - N : Nat) : Int) by omega])] at ownp
                    have bel := below_push hbx hownx grp hbsx
                    clear grp hownx hbx hcx
                    have hbs3 := bel.size
                    have hcp := hcells.out wp bel
                    go_wp2_with (at_builtin; refine wpList_appB rfl _ _ rfl w.heap.size g _ cap _ rfl ownp KS rfl (by rw [hz3.out]; omega) hbs3 ?_)
                    intro v3 w3 own3 grp3
                    rw [hdl.out, ← bytesC_app] at own3
                    have bel3 : Below w.heap.size w w3 := Below.grown (bel.trans (Below.mono (Pg.newB_ext wp KS) hbs3)) grp3 (by have := (Pg.newB_ext wp KS).size; omega) (fun k hk => (ownp.lt k (by simpa [Value.ownBlock] using hk)).1)
                    clear grp3 ownp bel hcp
                    have hc3 := hcells.out w3 bel3
                    have htt := trivial
                    go_wp2_with fail
                    go_roundw
                    case rel => exact ⟨q + 1, m + 2 + (K.size - N), K, _, by omega, rfl, by go_num, by omega, hK, fun h => absurd h (by omega), by (first | exact own3 | (rw [hz3.out] at own3; exact own3)), bel3, s4, s3⟩
                    case measure => simp [intOf]; omega
                · have d5 : decide ((k : Int) < (K.size : Int)) = false := by simp; omega
                  have hc := cmn_stop hinv.out (by rw [len_toList, len_toList]; omega)
                  rw [← hN.out] at hc
                  obtain rfl : N = k := hc
                  clear hinv
                  go_wp2
                  go_quiet (fail)
                  generalize hwx : wr.drewN _ = wx
                  have hxx : Hid (Ext wo wx) := by rw [← hwx]; exact hx.out.drewN_right _
                  clear hwx hx hcy
                  have hownx := Ext.own hxx.out hown
                  have hbx : Below w.heap.size w wx := Ext.trans hb hxx.out
                  have hbsx := hbx.size
                  have hcx := hcells.out wx hbx
                  clear hown hb hxx
                  go_upto_region 18 with fail
                  go_wp2_with (at_builtin; refine wpList_pushN _ rfl _ _ 49 rfl w.heap.size 5 i0 _ 1 1 Tryd.underlying49 hi hz0 hz1 hz2 rfl (by decide) _ _ 2 (by decide) _ rfl hownx [.int .u8 (N : Int), .int .u8 ((K.size : Int) - (N : Int))] rfl rfl (by simp [Value.oneCell']) (by unfold maxLen; omega) (by omega) hbsx ?_)
                  intro g cap wp ownp grp _
                  rw [show Pg.bytesC out ++ [.int .u8 (N : Int), .int .u8 ((K.size : Int) - (N : Int))] = Pg.bytesC (out ++ [byo N, byo (K.size - N)]) from (by rw [← ps.out, show ((K.size : Int) - (N : Int)) = ((K.size - N : Nat) : Int) by omega])] at ownp
                  have bel := below_push hbx hownx grp hbsx
                  clear grp hownx hbx hcx
                  have hbs3 := bel.size
                  have hcp := hcells.out wp bel
                  go_wp2_with (at_builtin; refine wpList_appB rfl _ _ rfl w.heap.size g _ cap _ rfl ownp KS rfl (by rw [hz3.out]; omega) hbs3 ?_)
                  intro v3 w3 own3 grp3
                  rw [hdl.out, ← bytesC_app] at own3
                  have bel3 : Below w.heap.size w w3 := Below.grown (bel.trans (Below.mono (Pg.newB_ext wp KS) hbs3)) grp3 (by have := (Pg.newB_ext wp KS).size; omega) (fun k hk => (ownp.lt k (by simpa [Value.ownBlock] using hk)).1)
                  clear grp3 ownp bel hcp
                  have hc3 := hcells.out w3 bel3
                  have htt := trivial
                  go_wp2_with fail
                  go_roundw
                  case rel => exact ⟨q + 1, m + 2 + (K.size - N), K, _, by omega, rfl, by go_num, by omega, hK, fun h => absurd h (by omega), by (first | exact own3 | (rw [hz3.out] at own3; exact own3)), bel3, s4, s3⟩
                  case measure => simp [intOf]; omega
              · have d4 : decide ((k : Int) < (bf.size : Int)) = false := by simp; omega
                have hc := cmn_stop hinv.out (by rw [len_toList, len_toList]; omega)
                rw [← hN.out] at hc
                obtain rfl : N = k := hc
                clear hinv
                go_wp2
                go_quiet (fail)
                generalize hwx : wr.drewN _ = wx
                have hxx : Hid (Ext wo wx) := by rw [← hwx]; exact hx.out.drewN_right _
                clear hwx hx hcy
                have hownx := Ext.own hxx.out hown
                have hbx : Below w.heap.size w wx := Ext.trans hb hxx.out
                have hbsx := hbx.size
                have hcx := hcells.out wx hbx
                clear hown hb hxx
                go_upto_region 18 with fail
                go_wp2_with (at_builtin; refine wpList_pushN _ rfl _ _ 49 rfl w.heap.size 5 i0 _ 1 1 Tryd.underlying49 hi hz0 hz1 hz2 rfl (by decide) _ _ 2 (by decide) _ rfl hownx [.int .u8 (N : Int), .int .u8 ((K.size : Int) - (N : Int))] rfl rfl (by simp [Value.oneCell']) (by unfold maxLen; omega) (by omega) hbsx ?_)
                intro g cap wp ownp grp _
                rw [show Pg.bytesC out ++ [.int .u8 (N : Int), .int .u8 ((K.size : Int) - (N : Int))] = Pg.bytesC (out ++ [byo N, byo (K.size - N)]) from (by rw [← ps.out, show ((K.size : Int) - (N : Int)) = ((K.size - N : Nat) : Int) by omega])] at ownp
                have bel := below_push hbx hownx grp hbsx
                clear grp hownx hbx hcx
                have hbs3 := bel.size
                have hcp := hcells.out wp bel
                go_wp2_with (at_builtin; refine wpList_appB rfl _ _ rfl w.heap.size g _ cap _ rfl ownp KS rfl (by rw [hz3.out]; omega) hbs3 ?_)
                intro v3 w3 own3 grp3
                rw [hdl.out, ← bytesC_app] at own3
                have bel3 : Below w.heap.size w w3 := Below.grown (bel.trans (Below.mono (Pg.newB_ext wp KS) hbs3)) grp3 (by have := (Pg.newB_ext wp KS).size; omega) (fun k hk => (ownp.lt k (by simpa [Value.ownBlock] using hk)).1)
                clear grp3 ownp bel hcp
                have hc3 := hcells.out w3 bel3
                have htt := trivial
                go_wp2_with fail
                go_roundw
                case rel => exact ⟨q + 1, m + 2 + (K.size - N), K, _, by omega, rfl, by go_num, by omega, hK, fun h => absurd h (by omega), by (first | exact own3 | (rw [hz3.out] at own3; exact own3)), bel3, s4, s3⟩
                case measure => simp [intOf]; omega
          have d3 : decide ((0 : Int) < (q : Int)) = true := by simp; omega
          have d3n : decide (0 < q) = true := by simp; omega
          have hcp : Lib.compareBytes bf.toList K.toList = - Lib.compareBytes K.toList bf.toList := cmp_anti _ _
          have hle := less_cmp K.toList bf.toList
          by_cases ql : Lib.compareBytes K.toList bf.toList < 0
          · have dD : decide (0 < Lib.compareBytes bf.toList K.toList) = true := by simp; omega
            obtain ⟨rfl, rfl⟩ := p1.out hbg.out (s1.out (by rw [hle, decide_eq_true ql]))
            generalize Lib.compareBytes bf.toList K.toList = D at *
            clear s1 s2 s3 ps hcp hle ql
            go_wp2_with fail
            refine (hcc.out _).mono ?_
            rintro e w2 ⟨rfl, hx2⟩
            have hcp := hcells.out w2 (Ext.trans hb hx2)
            go_wp2
            go_ret2
            exact GiveBE.no 1 (Ext.trans hb hx2)
          · have dD : decide (0 < Lib.compareBytes bf.toList K.toList) = false := by simp; omega
            have s4 := hid (s2.out (by rw [hle, decide_eq_false ql]))
            generalize Lib.compareBytes bf.toList K.toList = D at *
            clear s1 s2 hcp hle ql hq1
            go_wp2_with fail
            refine (hcc.out _).mono ?_
            rintro e w2 ⟨rfl, hx2⟩
            replace hx2 := hid hx2
            have hcp := hcells.out w2 (Ext.trans hb hx2.out)
            clear hcc
            go_wp2_with fail
            clear hcp
            have e8 : IntKind.u8.wrap (N : Int) = (N : Int) := Pg.u8_in _ (by omega) (by omega)
            have e9 : IntKind.u8.wrap ((K.size : Int) - (N : Int)) = (K.size : Int) - (N : Int) := Pg.u8_in _ (by omega) (by omega)
            have hz3 : Hid ((K.extract N K.size).size = K.size - N) := by unfold Hid; rw [ByteArray.size_extract]; omega
            have sl : ∀ wx, (Instr.slice 9 (.string K) (some (.int .i64 (N : Nat))) none none).run Tryd.prog wx = .ok (.string (K.extract N K.size)) wx := by
              intro wx
              rw [run_slice_string_from_if (P := Tryd.prog) wx 9 K .i64 (N : Int) Tryd.underlying9, if_pos ⟨by omega, by omega⟩]
              rfl
            have hdl : Hid ((K.extract N K.size).toList = K.toList.drop N) := dropS_list' K N
            generalize K.extract N K.size = KS at *
            obtain ⟨wo, hwo⟩ : ∃ wo : World, wo = w2 := ⟨_, rfl⟩
            rw [← hwo]
            have hxo : Hid (Ext wr wo) := by rw [hwo]; exact hx2.out
            clear hwo
            replace hown := Ext.own hxo.out hown
            replace hb : Below w.heap.size w wo := Ext.trans hb hxo.out
            clear hxo hbs hcell
            go_loopw [8] (fun t wr => (∃ k : Nat, k ≤ bf.size ∧ k ≤ K.size ∧ t = .int .i64 k ∧ Hid (N = k + cmnL (bf.toList.drop k) (K.toList.drop k))) ∧ Hid (Ext wo wr)) (fun t _ => bf.size - (intOf t).toNat)
            case atStart => exact ⟨⟨0, by omega, by omega, rfl, by unfold Hid; rw [List.drop_zero, List.drop_zero, Nat.zero_add]; exact hN.out⟩, Ext.refl _⟩
            case round =>
              obtain ⟨⟨k, hk1, hk2, rfl, hinv⟩, hx⟩ := hrel
              rw [hN.out] at hinv
              have hcy := hcells.out wr (Ext.trans hb hx.out)
              by_cases h1 : k < bf.size
              · have d4 : decide ((k : Int) < (bf.size : Int)) = true := by simp; omega
                by_cases hkb : k < K.size
                · have d5 : decide ((k : Int) < (K.size : Int)) = true := by simp; omega
                  rcases Bool.eq_false_or_eq_true (((bf[k]'h1).toNat : Int) == ((K[k]'hkb).toNat : Int)) with qq | qq
                  · have hn := hid (hN.out.trans (cmn_of h1 hkb hinv.out qq))
                    clear hinv
                    go_wp2
                    go_quiet (fail)
                    go_wp2
                    go_roundw
                    case rel => exact ⟨⟨k + 1, by omega, by omega, by go_num, hn⟩, hx.out.drewN_right _⟩
                    case measure => simp [intOf]; omega
                  · have hc := cmn_of' h1 hkb hinv.out qq
                    rw [← hN.out] at hc
                    obtain rfl : N = k := hc
                    clear hinv
                    go_wp2
                    go_quiet (fail)
                    generalize hwx : wr.drewN _ = wx
                    have hxx : Hid (Ext wo wx) := by rw [← hwx]; exact hx.out.drewN_right _
                    clear hwx hx hcy
                    have hownx := Ext.own hxx.out hown
                    have hbx : Below w.heap.size w wx := Ext.trans hb hxx.out
                    have hbsx := hbx.size
                    have hcx := hcells.out wx hbx
                    clear hown hb hxx
                    go_upto_region 18 with fail
                    go_wp2_with (at_builtin; refine wpList_pushN _ rfl _ _ 49 rfl w.heap.size 5 i0 _ 1 1 Tryd.underlying49 hi hz0 hz1 hz2 rfl (by decide) _ _ 2 (by decide) _ rfl hownx [.int .u8 (N : Int), .int .u8 ((K.size : Int) - (N : Int))] rfl rfl (by simp [Value.oneCell']) (by unfold maxLen; omega) (by omega) hbsx ?_)
                    intro g cap wp ownp grp _
                    rw [show Pg.bytesC out ++ [.int .u8 (N : Int), .int .u8 ((K.size : Int) - (N : Int))] = Pg.bytesC (out ++ [byo N, byo (K.size - N)]) from (by rw [← ps.out, show ((K.size : Int) - (N : Int)) = ((K.size - N : Nat) : Int) by omega])] at ownp
                    have bel := below_push hbx hownx grp hbsx
                    clear grp hownx hbx hcx
                    have hbs3 := bel.size
                    have hcp := hcells.out wp bel
                    go_wp2_with (at_builtin; refine wpList_appB rfl _ _ rfl w.heap.size g _ cap _ rfl ownp KS rfl (by rw [hz3.out]; omega) hbs3 ?_)
                    intro v3 w3 own3 grp3
                    rw [hdl.out, ← bytesC_app] at own3
                    have bel3 : Below w.heap.size w w3 := Below.grown (bel.trans (Below.mono (Pg.newB_ext wp KS) hbs3)) grp3 (by have := (Pg.newB_ext wp KS).size; omega) (fun k hk => (ownp.lt k (by simpa [Value.ownBlock] using hk)).1)
                    clear grp3 ownp bel hcp
                    have hc3 := hcells.out w3 bel3
                    have htt := trivial
                    go_wp2_with fail
                    go_roundw
                    case rel => exact ⟨q + 1, m + 2 + (K.size - N), K, _, by omega, rfl, by go_num, by omega, hK, fun h => absurd h (by omega), by (first | exact own3 | (rw [hz3.out] at own3; exact own3)), bel3, s4, s3⟩
                    case measure => simp [intOf]; omega
                · have d5 : decide ((k : Int) < (K.size : Int)) = false := by simp; omega
                  have hc := cmn_stop hinv.out (by rw [len_toList, len_toList]; omega)
                  rw [← hN.out] at hc
                  obtain rfl : N = k := hc
                  clear hinv
                  go_wp2
                  go_quiet (fail)
                  generalize hwx : wr.drewN _ = wx
                  have hxx : Hid (Ext wo wx) := by rw [← hwx]; exact hx.out.drewN_right _
                  clear hwx hx hcy
                  have hownx := Ext.own hxx.out hown
                  have hbx : Below w.heap.size w wx := Ext.trans hb hxx.out
                  have hbsx := hbx.size
                  have hcx := hcells.out wx hbx
                  clear hown hb hxx
                  go_upto_region 18 with fail
                  go_wp2_with (at_builtin; refine wpList_pushN _ rfl _ _ 49 rfl w.heap.size 5 i0 _ 1 1 Tryd.underlying49 hi hz0 hz1 hz2 rfl (by decide) _ _ 2 (by decide) _ rfl hownx [.int .u8 (N : Int), .int .u8 ((K.size : Int) - (N : Int))] rfl rfl (by simp [Value.oneCell']) (by unfold maxLen; omega) (by omega) hbsx ?_)
                  intro g cap wp ownp grp _
                  rw [show Pg.bytesC out ++ [.int .u8 (N : Int), .int .u8 ((K.size : Int) - (N : Int))] = Pg.bytesC (out ++ [byo N, byo (K.size - N)]) from (by rw [← ps.out, show ((K.size : Int) - (N : Int)) = ((K.size - N : Nat) : Int) by omega])] at ownp
                  have bel := below_push hbx hownx grp hbsx
                  clear grp hownx hbx hcx
                  have hbs3 := bel.size
                  have hcp := hcells.out wp bel
                  go_wp2_with (at_builtin; refine wpList_appB rfl _ _ rfl w.heap.size g _ cap _ rfl ownp KS rfl (by rw [hz3.out]; omega) hbs3 ?_)
                  intro v3 w3 own3 grp3
                  rw [hdl.out, ← bytesC_app] at own3
                  have bel3 : Below w.heap.size w w3 := Below.grown (bel.trans (Below.mono (Pg.newB_ext wp KS) hbs3)) grp3 (by have := (Pg.newB_ext wp KS).size; omega) (fun k hk => (ownp.lt k (by simpa [Value.ownBlock] using hk)).1)
                  clear grp3 ownp bel hcp
                  have hc3 := hcells.out w3 bel3
                  have htt := trivial
                  go_wp2_with fail
                  go_roundw
                  case rel => exact ⟨q + 1, m + 2 + (K.size - N), K, _, by omega, rfl, by go_num, by omega, hK, fun h => absurd h (by omega), by (first | exact own3 | (rw [hz3.out] at own3; exact own3)), bel3, s4, s3⟩
                  case measure => simp [intOf]; omega
              · have d4 : decide ((k : Int) < (bf.size : Int)) = false := by simp; omega
                have hc := cmn_stop hinv.out (by rw [len_toList, len_toList]; omega)
                rw [← hN.out] at hc
                obtain rfl : N = k := hc
                clear hinv
                go_wp2
                go_quiet (fail)
                generalize hwx : wr.drewN _ = wx
                have hxx : Hid (Ext wo wx) := by rw [← hwx]; exact hx.out.drewN_right _
                clear hwx hx hcy
                have hownx := Ext.own hxx.out hown
                have hbx : Below w.heap.size w wx := Ext.trans hb hxx.out
                have hbsx := hbx.size
                have hcx := hcells.out wx hbx
                clear hown hb hxx
                go_upto_region 18 with fail
                go_wp2_with (at_builtin; refine wpList_pushN _ rfl _ _ 49 rfl w.heap.size 5 i0 _ 1 1 Tryd.underlying49 hi hz0 hz1 hz2 rfl (by decide) _ _ 2 (by decide) _ rfl hownx [.int .u8 (N : Int), .int .u8 ((K.size : Int) - (N : Int))] rfl rfl (by simp [Value.oneCell']) (by unfold maxLen; omega) (by omega) hbsx ?_)
                intro g cap wp ownp grp _
                rw [show Pg.bytesC out ++ [.int .u8 (N : Int), .int .u8 ((K.size : Int) - (N : Int))] = Pg.bytesC (out ++ [byo N, byo (K.size - N)]) from (by rw [← ps.out, show ((K.size : Int) - (N : Int)) = ((K.size - N : Nat) : Int) by omega])] at ownp
                have bel := below_push hbx hownx grp hbsx
                clear grp hownx hbx hcx
                have hbs3 := bel.size
                have hcp := hcells.out wp bel
                go_wp2_with (at_builtin; refine wpList_appB rfl _ _ rfl w.heap.size g _ cap _ rfl ownp KS rfl (by rw [hz3.out]; omega) hbs3 ?_)
                intro v3 w3 own3 grp3
                rw [hdl.out, ← bytesC_app] at own3
                have bel3 : Below w.heap.size w w3 := Below.grown (bel.trans (Below.mono (Pg.newB_ext wp KS) hbs3)) grp3 (by have := (Pg.newB_ext wp KS).size; omega) (fun k hk => (ownp.lt k (by simpa [Value.ownBlock] using hk)).1)
                clear grp3 ownp bel hcp
                have hc3 := hcells.out w3 bel3
                have htt := trivial
                go_wp2_with fail
                go_roundw
                case rel => exact ⟨q + 1, m + 2 + (K.size - N), K, _, by omega, rfl, by go_num, by omega, hK, fun h => absurd h (by omega), by (first | exact own3 | (rw [hz3.out] at own3; exact own3)), bel3, s4, s3⟩
                case measure => simp [intOf]; omega
        · obtain rfl : q = j := by omega
          rw [List.drop_of_length_le (by rw [hlen.out]; exact Nat.le_refl _)] at hsr hpk
          obtain ⟨rfl, rfl⟩ := p0.out hbg.out hsr.out.symm
          rw [show pkL bf.toList [] = [] from rfl, List.append_nil] at hpk
          have hrd : Hid (Pg.RdB wr A0 m c0 (pkL [] l)) := by rw [← hpk.out]; exact Rd.of_own hown
          have hfr := hid (own_fresh hown)
          clear hsr hpk p1 p0
          go_wp2
          go_ret2
          exact GiveBE.yes hrd.out hb hfr.out
end Go.Proofs.YtlfanhlkoepodaaDoor
