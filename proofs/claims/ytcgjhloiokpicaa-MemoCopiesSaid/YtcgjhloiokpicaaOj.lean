/-
  Open of the program.
-/
import Derived.Test.YtcgjhloiokpicaaOi
namespace Go.Proofs.Ytcgjhloiokpicaa
open Go.RowKit Go.Shelf
set_option linter.unusedVariables false
set_option linter.unusedSimpArgs false
theorem MT.extF {u w w' : World} {g : Nat} {v v' : Value} (h : MT g v v' w w') (hx : Ext u w) (hg : u.heap.size ≤ g) (hv : ∀ k, v.ownBlock = some k → u.heap.size ≤ k) : Ext u w' := by
  obtain ⟨h1, h2, h3, h4, h5, _⟩ := h
  have hs := hx.size
  exact ⟨h1.symm.trans hx.os, h2.symm.trans hx.tape, h3.symm.trans hx.output, Nat.le_trans hs h4, fun k hk => (h5 k (by omega) (by omega) (fun e => by have := hv k e; omega)).trans (hx.block hk)⟩
section
set_option maxRecDepth 100000
set_option maxHeartbeats 4000000
theorem Equal_rd (B1 n1 n c : Nat) (v1 : Value) (ad : Addr) (a b : List Int) (w : World) (h1 : w.ownsRow B1 5 1 v1 n1 (bys a)) (h2 : RdB w (some ad) n c b) : Calls Try.prog 38 #[v1, .slice (some ad) n c] w fun e w' => e = .returned (.bool (eqB a b)) ∧ w = w' := by
  have c1 := conv_own h1
  have c2 := conv_rd h2
  have hq : Hid (eqB a b = ((strI a).toList == (strI b).toList)) := rfl
  generalize eqB a b = eb at *
  generalize strI a = sa at *
  generalize strI b = sb at *
  obtain ⟨A1, d1, rfl, -⟩ := own_form h1
  clear h1 h2
  go_enter Try.func38, Try.ntmps38
  go_wp2
  go_ret
  exact ⟨ret_bool hq.out.symm, rfl⟩
end
set_option maxRecDepth 100000 in
set_option maxHeartbeats 4000000 in
theorem Open_rp (A : Option Addr) (n c : Nat) (L : List Int) (w : World) (h : RdB w A n c L) (RP : Ending → World → Prop)
    (hNo : ∀ w', Ext w w' → NoFile L → RP (.returned (.tuple #[.pointer none, .int .i64 11])) w')
    (hYes : ∀ w' size l g v, Ext w w' → Opens L size l → (∀ size' l', Opens L size' l' → size' = size ∧ l' = l) → MA 0 w' g size v l → w.heap.size ≤ g → (∀ k, v.ownBlock = some k → w.heap.size ≤ k) → RP (.returned (.tuple #[.pointer (some ⟨g, 0, none⟩), .int .i64 0])) w') :
    Calls Try.prog 12 #[.slice A n c] w RP := by
  have hlen := h.len
  have hmx := Rd.max h.1
  replace hNo := hid hNo
  replace hYes := hid hYes
  by_cases h16 : n < 16
  · have hnf := hid (op_small (L := L) (by omega))
    have d : (n : Int) < 16 := by omega
    clear h
    go_enter Try.func12, Try.ntmps12
    go_wp2
    exact hNo.out _ (Ext.refl _) hnf.out
  · obtain ⟨ad, rfl, -⟩ := h.at_ (k := 0) (by omega)
    have d : ¬ (n : Int) < 16 := by omega
    have hcN : Hid (∀ k, Calls Try.prog 36 #[.slice (some ad) 4 c] (w.drewN k) fun e w'' => e = .returned (.int .i64 (num L 0 4)) ∧ w.drewN k = w'') := fun k =>
      get_any _ _ 4 _ _ ((h.ext (Ext.drewN w k)).at0 (by omega)) (by omega)
    have hcS : Hid (∀ k, Calls Try.prog 36 #[.slice (some ⟨ad.block, ad.off + 4, none⟩) 2 (c - 4)] (w.drewN k) fun e w'' => e = .returned (.int .i64 (num L 4 2)) ∧ w.drewN k = w'') := fun k =>
      get_any _ _ 2 _ _ ((h.ext (Ext.drewN w k)).at4 (by omega) (by omega)) (by omega)
    have rN := num_rng h.2 0
    have rS : 0 ≤ num L 4 2 ∧ num L 4 2 < 65536 := leV_bd (l := L.drop 4) (fun x hx => h.2 x (List.mem_of_mem_drop hx)) 2
    have hhd := hid (fun h => op_head (L := L) h)
    replace hlen := hid hlen
    replace h := hid h
    generalize hn : num L 0 4 = N at *
    generalize hz : num L 4 2 = size at *
    replace hn := hid hn
    replace hz := hid hz
    have u1 : (4 : Int) ≤ (c : Int) := by omega
    have u2 : (6 : Int) ≤ (c : Int) := by omega
    have u3 : ¬ c = 0 := by omega
    have u4 : ¬ c = 4 := by omega
    go_enter Try.func12, Try.ntmps12
    go_upto_region 3 with fail
    have hx1 : Hid (Ext w w.drew) := (Ext.refl _).drew_right
    have h1 : Hid (RdB w.drew (some ad) n c L) := h.out.ext hx1.out
    replace hcN := hcN.out 1
    replace hcS := hcS.out 1
    replace hcN : Hid (Calls Try.prog 36 #[.slice (some ad) 4 c] w.drew fun e w'' => e = .returned (.int .i64 N) ∧ w.drew = w'') := hcN
    replace hcS : Hid (Calls Try.prog 36 #[.slice (some ⟨ad.block, ad.off + 4, none⟩) 2 (c - 4)] w.drew fun e w'' => e = .returned (.int .i64 size) ∧ w.drew = w'') := hcS
    refine region_J (fun _ => True) 8 (by kernel_rfl) ?_
    generalize w.drew = w1 at *
    refine J_takeO 0 (v := ?va0) rfl (by kernel_rfl) (by kernel_rfl) (by kernel_rfl) (by kernel_rfl) (fun _ _ _ h => h) (Or.inl ⟨by rfl, ?ya0⟩) trivial ?ra0
    case ya0 => (intro w hSw; obtain _ := hSw; (go_simp; with_reducible rfl))
    simp only [Act.put, List.getElem_toArray, List.getElem_cons_zero, List.getElem_cons_succ, List.setIfInBounds_toArray, List.set_cons_zero, List.set_cons_succ]
    refine J_takeO 1 (v := ?va1) rfl (by kernel_rfl) (by kernel_rfl) (by kernel_rfl) (by kernel_rfl) (fun _ _ _ h => h) (Or.inl ⟨by rfl, ?ya1⟩) trivial ?ra1
    case ya1 => (intro w hSw; obtain _ := hSw; (go_simp; with_reducible rfl))
    simp only [Act.put, List.getElem_toArray, List.getElem_cons_zero, List.getElem_cons_succ, List.setIfInBounds_toArray, List.set_cons_zero, List.set_cons_succ]
    refine J_takeO 3 (v := ?va3) rfl (by kernel_rfl) (by kernel_rfl) (by kernel_rfl) (by kernel_rfl) (fun _ _ _ h => h) (Or.inl ⟨by rfl, ?ya3⟩) trivial ?ra3
    case ya3 => (intro w hSw; obtain _ := hSw; (go_simp; with_reducible rfl))
    simp only [Act.put, List.getElem_toArray, List.getElem_cons_zero, List.getElem_cons_succ, List.setIfInBounds_toArray, List.set_cons_zero, List.set_cons_succ]
    refine J_takeO 4 (v := ?va4) rfl (by kernel_rfl) (by kernel_rfl) (by kernel_rfl) (by kernel_rfl) (fun _ _ _ h => h) (Or.inl ⟨by rfl, ?ya4⟩) trivial ?ra4
    case ya4 => (intro w hSw; obtain _ := hSw; (go_simp; with_reducible rfl))
    simp only [Act.put, List.getElem_toArray, List.getElem_cons_zero, List.getElem_cons_succ, List.setIfInBounds_toArray, List.set_cons_zero, List.set_cons_succ]
    refine J_one 2 rfl (by kernel_rfl) (fun K hK => ?_)
    go_simp
    refine hcN.out.mono ?_
    rintro e w' ⟨rfl, rfl⟩
    refine hK _ _ ⟨fun _ => trivial, ?_⟩
    clear hK K
    try simp only [Act.put, List.getElem_toArray, List.getElem_cons_zero, List.getElem_cons_succ, List.setIfInBounds_toArray, List.set_cons_zero, List.set_cons_succ]
    refine J_one 5 rfl (by kernel_rfl) (fun K hK => ?_)
    go_simp
    refine hcS.out.mono ?_
    rintro e w' ⟨rfl, rfl⟩
    refine hK _ _ ⟨fun _ => trivial, ?_⟩
    clear hK K
    try simp only [Act.put, List.getElem_toArray, List.getElem_cons_zero, List.getElem_cons_succ, List.setIfInBounds_toArray, List.set_cons_zero, List.set_cons_succ]
    refine J_one 6 rfl (by kernel_rfl) (fun K hK => ?_)
    go_simp
    refine hK _ _ ⟨fun _ => trivial, ?_⟩
    clear hK K
    try simp only [Act.put, List.setIfInBounds_toArray, List.set_cons_zero, List.set_cons_succ]
    refine J_one 7 rfl (by kernel_rfl) (fun K hK => ?_)
    go_simp
    refine hK _ _ ⟨fun _ => trivial, ?_⟩
    clear hK K
    try simp only [Act.put, List.setIfInBounds_toArray, List.set_cons_zero, List.set_cons_succ]
    refine J_done (by kernel_rfl) (OnlyOn.normal ?_)
    clear hcN hcS
    by_cases hb : szB size = true
    · have hsz := sz_bd hb
      by_cases hN1 : N < 1
      · have hnf := hid (hhd.out (.inr (.inl hN1)))
        go_wp2_with fail
        refine (isSize_any size _).mono ?_
        rintro e w' ⟨rfl, rfl⟩
        rw [hb]
        go_wp2
        exact hNo.out _ hx1.out (hnf.out)
      · by_cases hN2 : 4096 < N
        · have hnf := hid (hhd.out (.inr (.inr (.inl hN2))))
          go_wp2_with fail
          refine (isSize_any size _).mono ?_
          rintro e w' ⟨rfl, rfl⟩
          rw [hb]
          go_wp2
          exact hNo.out _ hx1.out (hnf.out)
        · have hP1 : N * size ≤ 4096 * 256 := Int.mul_le_mul (by omega) (by omega) (by omega) (by omega)
          have hP0 : 0 ≤ N * size := Int.mul_nonneg (by omega) (by omega)
          have hwP : IntKind.i64.wrap (N * size) = N * size := IntWalk.i64_in _ (by omega)
          by_cases hP : (n : Int) = N * size
          · have d3 : ((n : Int) != N * size) = false := by simpa using hP
            have hP' := hid hP
            clear hP
            replace hn := hn
            have hstart := hid (op_start (size := size) (L := L) (n := N) (by omega))
            go_wp2_with fail
            refine (isSize_any size _).mono ?_
            rintro e w' ⟨rfl, rfl⟩
            rw [hb]
            have hg0 := hid (MA.new w1 size)
            have hgx : Hid (Ext w (w1.alloc (.cells #[.int .i32 0, .int .u32 0, .int .i64 size, .slice none 0 0] 76))) := hx1.out.alloc_right _
            have hgw : Hid (w.heap.size ≤ w1.heap.size) := hx1.out.size
            go_wp2_with fail
            generalize w1.heap.size = g at *
            generalize w1.alloc (.cells #[.int .i32 0, .int .u32 0, .int .i64 size, .slice none 0 0] 76) = w2 at *
            go_loopw [7] (fun q wx => ∃ (qi : Int) (l : List En) (v : Value), q = .int .i64 qi ∧ Hid (OpInv size N L qi l) ∧ Hid (MA 0 wx g size v l) ∧ Hid (wx.ownsRow w.heap.size 78 4 v l.length (ents l)) ∧ Hid (Ext w wx)) (fun q _ => (N - intOf q).toNat)
            case atStart => exact ⟨1, [], .slice none 0 0, rfl, hstart, hg0, World.ownsRow_nil _ _ _ _, hgx⟩
            case round =>
              obtain ⟨q, l, v, rfl, hop, hm, ho, hx⟩ := hrel
              by_cases hq : q < N
              · have hql := op_len hop.out
                obtain ⟨a, ha⟩ : ∃ a : Nat, (a : Int) = q * size := ⟨(q * size).toNat, by rw [Int.toNat_of_nonneg (Int.mul_nonneg (by omega) (by omega))]⟩
                have hro := hid (fun w (h : RdB w (some ad) n c L) => read_any size N q (some ad) n c L w h hsz.1 hsz.2 hP'.out hql.1 hq (by omega) a ha)
                have hno := hid (fun hh => op_no hsz hop.out hq hn.out hz.out ha hh)
                have hgo := hid (fun hh => op_go hsz h.out.2 (by rw [hlen.out]; exact hP'.out) hop.out hq hn.out hz.out ha (ok_R hh))
                have hrd := hid (h.out.ext hx.out)
                generalize hXX : rdE L q a = X at *
                replace hXX := hid hXX
                go_wp2_with fail
                refine (hro.out _ hrd.out).mono ?_
                rintro e w4 ⟨hx4, ⟨hok, rfl⟩ | ⟨hbad, rfl⟩⟩
                · obtain ⟨hb0, hb1, hb2, hkd, hgo1, hgo2⟩ := hgo.out hok
                  replace hgo1 := hid hgo1
                  replace hgo2 := hid hgo2
                  clear hro hno hgo hok hrd
                  obtain ⟨xb, xn, xk, xs⟩ := X
                  rw [show (En.mk xb xn xk xs).cells.toArray = #[.int .i64 xb, .int .i64 xn, .int .i64 xk, .string xs] from rfl]
                  dsimp only at hb0 hb1 hb2 hkd hgo1 hgo2
                  have hb0' := hb0.symm
                  subst hb0'
                  clear hb0
                  have hxa : Hid (Ext w4 (w4.alloc (.cells #[.int .i64 q, .int .i64 xn, .int .i64 xk, .string xs] 78))) := (Ext.refl _).alloc_right _
                  have hpl : Hid (wr.heap.size ≤ w4.heap.size) := hx4.size
                  have hgp : Hid (g < w4.heap.size) := Nat.lt_of_lt_of_le hm.out.lt hx4.size
                  have hvp : Hid (∀ k, v.ownBlock = some k → k < w4.heap.size) := fun k e => Nat.lt_of_lt_of_le (ho.out.lt k e).2 hx4.size
                  have hB5 := hid (heap_alloc_new w4 (.cells #[.int .i64 q, .int .i64 xn, .int .i64 xk, .string xs] 78))
                  go_upto_region 10 with fail
                  generalize w4.heap.size = p at *
                  generalize w4.alloc (.cells #[.int .i64 q, .int .i64 xn, .int .i64 xk, .string xs] 78) = w5 at *
                  have hx5 : Hid (Ext wr w5) := hx4.trans hxa.out
                  replace hm := hid (hm.out.ext hx5.out)
                  replace ho := hid (hx5.out.own ho.out)
                  replace hx := hid (hx.out.trans hx5.out)
                  clear hx4 hxa
                  have e0 : w5.cell? ⟨p, 0, none⟩ = some (.int .i64 q) := by rw [Lib.cell_of_heap hB5.out]; rfl
                  have e1 : w5.cell? ⟨p, 1, none⟩ = some (.int .i64 xn) := by rw [Lib.cell_of_heap hB5.out]; rfl
                  have e2 : w5.cell? ⟨p, 2, none⟩ = some (.int .i64 xk) := by rw [Lib.cell_of_heap hB5.out]; rfl
                  have e3 : w5.cell? ⟨p, 3, none⟩ = some (.string xs) := by rw [Lib.cell_of_heap hB5.out]; rfl
                  have hqx : IntKind.i64.wrap (q + xn) = q + xn := IntWalk.i64_in _ (by omega)
                  go_cut [89] (fun b wx => ∃ cb : Bool, b = .bool cb ∧ Hid (cb = ((xk == 0) && (lastF l || (q + xn == N)))) ∧ Hid (Ext w5 wx))
                  case first =>
                    have c3 := hm.out.c3
                    obtain ⟨A, cl, rfl, hr⟩ := hm.out.rd
                    have hml := Rd.max hr
                    rcases hkd with rfl | rfl
                    · have hlast := hid (fun k (hk : l.length = k + 1) => lastF_at hk)
                      have hnil : Hid (l.length = 0 → lastF l = false) := fun h0 => by rw [List.length_eq_zero_iff.1 h0]; rfl
                      generalize lastF l = lf at *
                      generalize hll : l.length = ll at *
                      cases ll with
                      | zero =>
                        have hlf := hnil.out rfl
                        subst hlf
                        clear hlast hnil
                        by_cases hend : q + xn = N
                        · have d5 : (q + xn == N) = true := by simpa using hend
                          have hcb : Hid (true = (((0 : Int) == 0) && (false || (q + xn == N)))) := by unfold Hid; rw [d5]; rfl
                          clear hend
                          go_quiet (fail)
                          go_wp2_with fail
                          go_meet
                          exact ⟨true, rfl, hcb, Ext.drewN _ _⟩
                        · have d5 : (q + xn == N) = false := by simpa using hend
                          have hcb : Hid (false = (((0 : Int) == 0) && (false || (q + xn == N)))) := by unfold Hid; rw [d5]; rfl
                          clear hend
                          go_quiet (fail)
                          go_wp2_with fail
                          go_meet
                          exact ⟨false, rfl, hcb, Ext.drewN _ _⟩
                      | succ k =>
                        obtain ⟨al, rfl, x0, x1, x2, x3⟩ := hr.at_ (Nat.lt_succ_self k)
                        have hk : IntKind.i64.wrap (k : Int) = (k : Int) := IntWalk.i64_in _ (by omega)
                        have hk1 : (k : Int) < (k : Int) + 1 := by omega
                        have hlf := hlast.out k rfl
                        generalize (eth l k).kind = zk at *
                        cases hzk : (zk == 0) with
                        | true =>
                          rw [hzk] at hlf
                          subst hlf
                          have hcb : Hid (true = (((0 : Int) == 0) && (true || (q + xn == N)))) := by unfold Hid; simp
                          clear hlast hnil
                          go_quiet (fail)
                          go_wp2_with fail
                          go_meet
                          exact ⟨true, rfl, hcb, Ext.drewN _ _⟩
                        | false =>
                          rw [hzk] at hlf
                          subst hlf
                          clear hlast hnil
                          by_cases hend : q + xn = N
                          · have d5 : (q + xn == N) = true := by simpa using hend
                            have hcb : Hid (true = (((0 : Int) == 0) && (false || (q + xn == N)))) := by unfold Hid; rw [d5]; rfl
                            clear hend
                            go_quiet (fail)
                            go_wp2_with fail
                            go_meet
                            exact ⟨true, rfl, hcb, Ext.drewN _ _⟩
                          · have d5 : (q + xn == N) = false := by simpa using hend
                            have hcb : Hid (false = (((0 : Int) == 0) && (false || (q + xn == N)))) := by unfold Hid; rw [d5]; rfl
                            clear hend
                            go_quiet (fail)
                            go_wp2_with fail
                            go_meet
                            exact ⟨false, rfl, hcb, Ext.drewN _ _⟩
                    · have hcb : Hid (false = (((1 : Int) == 0) && (lastF l || (q + xn == N)))) := by unfold Hid; rfl
                      go_quiet (fail)
                      go_wp2_with fail
                      go_meet
                      exact ⟨false, rfl, hcb, Ext.drewN _ _⟩
                  case rest =>
                    obtain ⟨cb, rfl, hcb, hx6⟩ := hcut
                    generalize wc = w6 at *
                    replace e0 := hx6.out.cell e0
                    replace e1 := hx6.out.cell e1
                    replace e2 := hx6.out.cell e2
                    replace e3 := hx6.out.cell e3
                    replace hm := hid (hm.out.ext hx6.out)
                    replace ho := hid (hx6.out.own ho.out)
                    replace hx := hid (hx.out.trans hx6.out)
                    clear hx5 hx6 hB5
                    cases cb with
                    | true =>
                      have hnf : Hid (NoFile L) := by
                        have hh := hcb.out
                        have h0 : xk = 0 := by
                          rcases hkd with h0 | h0
                          · exact h0
                          · rw [h0] at hh; cases hh
                        refine hgo2.out h0 ?_
                        rw [h0] at hh
                        cases hl : lastF l with
                        | true => exact .inl rfl
                        | false => rw [hl] at hh; exact .inr (by simpa using hh)
                      have hfin := hid (hNo.out _ hx.out hnf.out)
                      go_wp2
                      exact hfin.out
                    | false =>
                      have hcc : xk = 0 → lastF l = false ∧ q + xn ≠ N := by
                        intro h0
                        have hh := hcb.out
                        rw [h0] at hh
                        constructor
                        · cases hl : lastF l with
                          | true => rw [hl] at hh; cases hh
                          | false => rfl
                        · intro e
                          rw [e] at hh
                          simp at hh
                      have hop2 := hid (hgo1.out hcc)
                      clear hcc hgo1 hgo2 hcb
                      obtain ⟨i0, hi0, hz0, hz1, hz2⟩ := info_parts infoEn
                      have c3 := hm.out.c3
                      have hown := hid (fun (cs : Array Value) => ((Ext.refl w6).drew_right.alloc_right (.cells cs 78)).own ho.out)
                      have hnews : Hid (∀ j u, (En.mk q xn xk xs).cells[j]? = some u → (w6.drew.alloc (.cells #[.int .i64 q, .int .i64 xn, .int .i64 xk, .string xs] 78)).cell? ((⟨w6.heap.size, 0, none⟩ : Addr).add j) = some u) := World.news_of_block (heap_alloc_new w6.drew _)
                      have hw6 : Hid (w.heap.size ≤ w6.heap.size) := hx.out.size
                      have hpost : Hid (∀ (ga ca : Nat) (w8 : World), w8.ownsRow w.heap.size 78 4 (.slice (some ⟨ga, 0, none⟩) (l.length + 1) ca) (l.length + 1) (ents l ++ (En.mk q xn xk xs).cells) → (w6.drew.alloc (.cells #[.int .i64 q, .int .i64 xn, .int .i64 xk, .string xs] 78)).grownBy w8 v.ownBlock → (v.ownBlock = some ga ∨ ga = w6.heap.size + 1) → ((fun w' : World => w'.cell? ⟨g, 3, none⟩ = some v ∧ w'.cell? ⟨p, 0, none⟩ = some (.int .i64 q) ∧ w'.cell? ⟨p, 1, none⟩ = some (.int .i64 xn) ∧ w'.cell? ⟨p, 2, none⟩ = some (.int .i64 xk) ∧ w'.cell? ⟨p, 3, none⟩ = some (.string xs)) w8 ∧ w8.frozen? ⟨g, 3, none⟩ = false ∧ Hid (MA 0 (w8.setCell ⟨g, 3, none⟩ (.slice (some ⟨ga, 0, none⟩) (l.length + 1) ca)) g size (.slice (some ⟨ga, 0, none⟩) (l.length + 1) ca) (l ++ [⟨q, xn, xk, xs⟩])) ∧ Hid ((w8.setCell ⟨g, 3, none⟩ (.slice (some ⟨ga, 0, none⟩) (l.length + 1) ca)).ownsRow w.heap.size 78 4 (.slice (some ⟨ga, 0, none⟩) (l.length + 1) ca) (l ++ [En.mk q xn xk xs]).length (ents (l ++ [⟨q, xn, xk, xs⟩]))) ∧ Hid (Ext w (w8.setCell ⟨g, 3, none⟩ (.slice (some ⟨ga, 0, none⟩) (l.length + 1) ca))))) := by
                        intro ga ca w8 ho8 hgr hga
                        have hxe : Ext w6 (w6.drew.alloc (.cells #[.int .i64 q, .int .i64 xn, .int .i64 xk, .string xs] 78)) := (Ext.refl w6).drew_right.alloc_right _
                        have hrw : Rw v (.slice (some ⟨ga, 0, none⟩) (l.length + 1) ca) w6 w8 := ⟨(Ext.grown hxe _).trans hgr, by
                          rcases hga with e | e
                          · exact .inl (by rw [e]; rfl)
                          · refine .inr (fun k hk => ?_)
                            have hk2 : ga = k := by simpa [Value.ownBlock] using hk
                            omega⟩
                        have hl1 : (l ++ [En.mk q xn xk xs]).length = l.length + 1 := by simp
                        have ho9 : w8.ownsRow w.heap.size 78 4 (.slice (some ⟨ga, 0, none⟩) (l.length + 1) ca) (l ++ [En.mk q xn xk xs]).length (ents (l ++ [⟨q, xn, xk, xs⟩])) := by rw [hl1, ents_append]; simpa [ents] using ho8
                        obtain ⟨m1, m2, m3, m4⟩ := MA.put (l' := l ++ [⟨q, xn, xk, xs⟩]) hm.out hrw (own_baseK ho9 (Nat.zero_le _))
                        have hfar : ∀ i, (⟨p, i, none⟩ : Addr).block = p := fun _ => rfl
                        have hpv : v.ownBlock ≠ some p := fun e => by have := hvp.out p e; omega
                        refine ⟨⟨m3, hrw.1.cell e0 (fun e => hpv e.symm), hrw.1.cell e1 (fun e => hpv e.symm), hrw.1.cell e2 (fun e => hpv e.symm), hrw.1.cell e3 (fun e => hpv e.symm)⟩, m4, m1, own_set ho9 m2 3 _, ?_⟩
                        exact Ext.set (ext_push (hx.out.trans hxe) (hown.out _) hgr) (p := ⟨g, 3, none⟩) hgw.out _
                      have I0 : (fun w' : World => w'.cell? ⟨g, 3, none⟩ = some v ∧ w'.cell? ⟨p, 0, none⟩ = some (.int .i64 q) ∧ w'.cell? ⟨p, 1, none⟩ = some (.int .i64 xn) ∧ w'.cell? ⟨p, 2, none⟩ = some (.int .i64 xk) ∧ w'.cell? ⟨p, 3, none⟩ = some (.string xs)) w6.drew := ⟨c3, e0, e1, e2, e3⟩
                      have I1 : (fun w' : World => w'.cell? ⟨g, 3, none⟩ = some v ∧ w'.cell? ⟨p, 0, none⟩ = some (.int .i64 q) ∧ w'.cell? ⟨p, 1, none⟩ = some (.int .i64 xn) ∧ w'.cell? ⟨p, 2, none⟩ = some (.int .i64 xk) ∧ w'.cell? ⟨p, 3, none⟩ = some (.string xs)) (w6.drew.alloc (.cells #[.int .i64 q, .int .i64 xn, .int .i64 xk, .string xs] 78)) := by
                        have hxe : Ext w6 (w6.drew.alloc (.cells #[.int .i64 q, .int .i64 xn, .int .i64 xk, .string xs] 78)) := (Ext.refl w6).drew_right.alloc_right _
                        exact ⟨hxe.cell c3, hxe.cell e0, hxe.cell e1, hxe.cell e2, hxe.cell e3⟩
                      have hlen4 : l.length + 1 ≤ 5000 := by omega
                      go_upto_region 12 with fail
                      refine region_J (fun w' => w'.cell? ⟨g, 3, none⟩ = some v ∧ w'.cell? ⟨p, 0, none⟩ = some (.int .i64 q) ∧ w'.cell? ⟨p, 1, none⟩ = some (.int .i64 xn) ∧ w'.cell? ⟨p, 2, none⟩ = some (.int .i64 xk) ∧ w'.cell? ⟨p, 3, none⟩ = some (.string xs)) 10 (by kernel_rfl) ?_
                      refine J_take 0 (v := ?vz0) rfl (by kernel_rfl) (by kernel_rfl) (by kernel_rfl) (by kernel_rfl) (fun _ _ _ h => h) (Or.inl ⟨by rfl, ?yz0⟩) I0 ?rz0
                      case yz0 => (intro w hSw; obtain ⟨_, _, _, _, _⟩ := hSw; (go_simp; with_reducible rfl))
                      simp only [Act.put, List.getElem_toArray, List.getElem_cons_zero, List.getElem_cons_succ, List.setIfInBounds_toArray, List.set_cons_zero, List.set_cons_succ]
                      refine J_take 1 (v := ?vz1) rfl (by kernel_rfl) (by kernel_rfl) (by kernel_rfl) (by kernel_rfl) (fun _ _ _ h => h) (Or.inl ⟨by rfl, ?yz1⟩) I0 ?rz1
                      case yz1 => (intro w hSw; obtain ⟨_, _, _, _, _⟩ := hSw; (go_simp; with_reducible rfl))
                      simp only [Act.put, List.getElem_toArray, List.getElem_cons_zero, List.getElem_cons_succ, List.setIfInBounds_toArray, List.set_cons_zero, List.set_cons_succ]
                      refine J_take 2 (v := ?vz2) rfl (by kernel_rfl) (by kernel_rfl) (by kernel_rfl) (by kernel_rfl) (fun _ _ _ h => h) (Or.inl ⟨by rfl, ?yz2⟩) I0 ?rz2
                      case yz2 => (intro w hSw; obtain ⟨_, _, _, _, _⟩ := hSw; (go_simp; with_reducible rfl))
                      simp only [Act.put, List.getElem_toArray, List.getElem_cons_zero, List.getElem_cons_succ, List.setIfInBounds_toArray, List.set_cons_zero, List.set_cons_succ]
                      refine J_take 3 (v := ?vz3) rfl (by kernel_rfl) (by kernel_rfl) (by kernel_rfl) (by kernel_rfl) (fun _ _ _ h => h) (Or.inl ⟨by rfl, ?yz3⟩) I0 ?rz3
                      case yz3 => (intro w hSw; obtain ⟨_, _, _, _, _⟩ := hSw; (go_simp; with_reducible rfl))
                      simp only [Act.put, List.getElem_toArray, List.getElem_cons_zero, List.getElem_cons_succ, List.setIfInBounds_toArray, List.set_cons_zero, List.set_cons_succ]
                      refine J_take 4 (v := ?vz4) rfl (by kernel_rfl) (by kernel_rfl) (by kernel_rfl) (by kernel_rfl) (fun _ _ _ h => h) (Or.inl ⟨by rfl, ?yz4⟩) I0 ?rz4
                      case yz4 => (intro w hSw; obtain ⟨_, _, _, _, _⟩ := hSw; (go_simp; with_reducible rfl))
                      simp only [Act.put, List.getElem_toArray, List.getElem_cons_zero, List.getElem_cons_succ, List.setIfInBounds_toArray, List.set_cons_zero, List.set_cons_succ]
                      refine J_take 5 (v := ?vz5) rfl (by kernel_rfl) (by kernel_rfl) (by kernel_rfl) (by kernel_rfl) (fun _ _ _ h => h) (Or.inl ⟨by rfl, ?yz5⟩) I0 ?rz5
                      case yz5 => (intro w hSw; obtain ⟨_, _, _, _, _⟩ := hSw; (go_simp; with_reducible rfl))
                      simp only [Act.put, List.getElem_toArray, List.getElem_cons_zero, List.getElem_cons_succ, List.setIfInBounds_toArray, List.set_cons_zero, List.set_cons_succ]
                      refine J_one 6 rfl (by kernel_rfl) (fun K hK => ?_)
                      go_simp
                      refine hK _ _ ⟨fun _ => I1, ?_⟩
                      clear hK K
                      try simp only [Act.put, List.setIfInBounds_toArray, List.set_cons_zero, List.set_cons_succ]
                      refine J_one 7 rfl (by kernel_rfl) (fun K hK => ?_)
                      refine step_append_lies _ rfl _ _ 74 rfl w.heap.size 78 i0 _ 4 40 Try.underlying74 hi0 hz0 hz1 hz2 rfl (by decide) v l.length (ents l) (by simp [Act.eval, Act.put]) (hown.out _) ⟨w6.heap.size, 0, none⟩ 1 1 (En.mk q xn xk xs).cells (by simp [Act.eval, Act.put]) rfl hnews.out (by simp [En.cells, Value.oneCell']) (by decide) (by unfold maxLen; omega) (by omega) (by have := hw6.out; simp; omega) (w6.heap.size + 1) (by simp) ?_
                      intro ga ca w8 ho8 hgr8 hga8 _
                      obtain ⟨I3, m4, hM, hO9, hX9⟩ := hpost.out ga ca w8 ho8 hgr8 hga8
                      clear ho8 hgr8 hpost I0 I1 hnews
                      have m3 := I3.1
                      have m5 := I3.2.2.1
                      refine hK _ _ ⟨fun _ => I3, ?_⟩
                      clear hK K
                      try simp only [Act.put, List.getElem_toArray, List.getElem_cons_zero, List.getElem_cons_succ, List.setIfInBounds_toArray, List.set_cons_zero, List.set_cons_succ]
                      refine J_one 8 rfl (by kernel_rfl) (fun K hK => ?_)
                      go_simp
                      refine hK _ _ ⟨fun _ => I3, ?_⟩
                      clear hK K
                      try simp only [Act.put, List.setIfInBounds_toArray, List.set_cons_zero, List.set_cons_succ]
                      refine J_one 9 rfl (by kernel_rfl) (fun K hK => ?_)
                      go_simp
                      refine hK _ _ ⟨fun _ => I3, ?_⟩
                      clear hK K
                      try simp only [Act.put, List.setIfInBounds_toArray, List.set_cons_zero, List.set_cons_succ]
                      refine J_one 10 rfl (by kernel_rfl) (fun K hK => ?_)
                      go_simp
                      refine hK _ _ ⟨fun h => absurd rfl h, ?_⟩
                      clear hK K
                      refine J_done (by kernel_rfl) (OnlyOn.normal ?_)
                      have hgpN : Hid (g ≠ p) := by have := hgp.out; unfold Hid; omega
                      have hm3 : (w8.setCell ⟨g, 3, none⟩ (.slice (some ⟨ga, 0, none⟩) (l.length + 1) ca)).cell? ⟨p, 1, none⟩ = some (.int .i64 xn) := set_keep m5 (fun e => hgpN.out (congrArg Addr.block e))
                      generalize (Value.slice (some ⟨ga, 0, none⟩) (l.length + 1) ca) = v' at *
                      generalize w8.setCell ⟨g, 3, none⟩ v' = w9 at *
                      clear I3 m3 m4 m5 c3 e0 e1 e2 e3 hm ho hown hvp
                      go_wp2
                      go_round
                      case rel => exact ⟨q + xn, l ++ [⟨q, xn, xk, xs⟩], v', rfl, hop2, hM, hO9, hX9⟩
                      case measure => simp [intOf]; omega
                · have hnf := hid (hno.out hbad)
                  have hx5 : Hid (Ext w (w4.alloc (.cells #[.int .i64 0, .int .i64 0, .int .i64 0, .string { data := #[] }] 78))) := (hx.out.trans hx4).alloc_right _
                  clear hro hno hgo hbad hrd
                  go_upto_region 10 with fail
                  go_quiet (fail)
                  replace hx5 := hx5.out.drewN_right nq
                  have hfin := hid (hNo.out _ hx5 hnf.out)
                  go_wp2
                  exact hfin.out
              · have hq1 := (op_len hop.out).2.1
                obtain rfl : q = N := by omega
                obtain ⟨hG, hy, hn'⟩ := op_all hb hop.out hn.out hz.out (by omega)
                have hBy := hid (fun w (h : MA 0 w g size v l) => Bytes_any size g v l w h hG hsz.1 hsz.2)
                have hrd := hid (h.out.ext hx.out)
                have hfr : Hid (∀ k, v.ownBlock = some k → w.heap.size ≤ k) := fun k e => own_freshB ho.out k e
                have heb := hid (eqB_iff (isB_file size l) h.out.2)
                replace hy := hid hy
                replace hn' := hid hn'
                clear hG
                generalize fileB size l = F at *
                go_wp2_with fail
                refine (hBy.out _ hm.out).mono ?_
                rintro e w4 ⟨v2, rfl, o2, m2, t2⟩
                have hx4 := hid (t2.extF hx.out hgw.out hfr.out)
                have hrd4 := hid (h.out.ext hx4.out)
                replace o2 := hid o2
                replace m2 := hid m2
                clear t2 hBy hrd
                go_wp2_with fail
                refine (Equal_rd _ _ _ _ v2 ad F L _ o2.out hrd4.out).mono ?_
                rintro e w5 ⟨rfl, rfl⟩
                cases hbe : eqB F L with
                | true =>
                  have hFL := heb.out.1 hbe
                  obtain ⟨hO, hu⟩ := hy.out hFL
                  have hfin := hid (hYes.out _ size l g v hx4.out hO hu m2.out hgw.out hfr.out)
                  clear hFL hbe hO hu hn' hy heb
                  go_wp2
                  exact hfin.out
                | false =>
                  have hnf := hid (hn'.out (fun e => by rw [heb.out.2 e] at hbe; cases hbe))
                  have hfin := hid (hNo.out _ hx4.out hnf.out)
                  clear hbe hn' hy heb hnf
                  go_wp2
                  exact hfin.out
          · have hnf := hid (hhd.out (.inr (.inr (.inr (by rw [hlen.out]; exact hP)))))
            have d3 : ((n : Int) != N * size) = true := by simpa using hP
            clear hP
            go_wp2_with fail
            refine (isSize_any size _).mono ?_
            rintro e w' ⟨rfl, rfl⟩
            rw [hb]
            go_wp2
            exact hNo.out _ hx1.out (hnf.out)
    · have hbf : szB size = false := by simpa using hb
      have hnf := hid (hhd.out (.inl hbf))
      clear hb
      go_wp2_with fail
      refine (isSize_any size _).mono ?_
      rintro e w' ⟨rfl, rfl⟩
      rw [hbf]
      go_wp2
      exact hNo.out _ hx1.out (hnf.out)
end Go.Proofs.Ytcgjhloiokpicaa
