/-
  How texts, numbers, bytes and nodes that came in read as lists: for the rows; The law TopKeys; The wrap of a row with laid variables, the world's shape kept: for laws that reach a variable of the library's own. No program in sight; What the row of TopKeys leans on.
-/
import Derived.Test.YtjjikkhhlpikbaaGreatDoorQ12
import Derived.Test.YtjjikkhhlpikbaaGreatDoorQ15
import Derived.Test.YtjjikkhhlpikbaaGreatDoorQ10
import Derived.ProofKit
import Derived.OpenShut
import Derived.ShutString
import Derived.Lib.SmallJoins
import Derived.Deep.Slices
import Derived.Deep.Fields
import Derived.ChangeSame
import Derived.Handed
import Derived.SizedLaws
set_option maxRecDepth 100000
set_option maxHeartbeats 40000000
set_option linter.unusedVariables false
set_option linter.unusedSimpArgs false
namespace Go.Proofs.YtjjikkhhlpikbaaGreatDoor.Ky
open Go.RowKit Go.Shelf
theorem ecl_all (x : Et) : (ecl x).toArray.all (·.oneCell') = true := by simp [ecl, Value.oneCell']
theorem keys_law (A : Option Addr) (n c : Nat) (l : List VL) (x : Int) (B : Option Addr) (m d : Nat) (rs : List Int) (w : World) (hl : RdV w A n c l) (_ : n * 32 ≤ 140737488351232 ∧ ∀ (j : Nat) (v : VL), l[j]? = some v → v.2.2.size ≤ 140737488351232) (hx : (Lit.int IntKind.i64 x).wf = true) (hr : RdI w B m d rs) (hml : ML w) :
    Calls Tryz.prog 3 #[.slice A n c, .int .i64 x, .slice B m d] w (Give (.bool true) w) := by
  have mx := Rd.max hl
  have mr := RdI.max hr
  have hKn := hid (fun w' (hx : Ext w w') => keysKnown_any w' (hml.ext hx))
  have hNew := hid (New_TA w w (Ext.refl w))
  replace hl := hid hl
  replace hr := hid hr
  replace hml := hid hml
  go_enter Tryz.func3, Tryz.ntmps3
  go_wp2_with fail
  go_loopw [7, 8] (fun z i wr => ∃ (k : Nat) (u : Int), k ≤ n ∧ i = .int .i64 k ∧ z = .int .i64 u ∧ w = wr) (fun _ i _ => n - (intOf i).toNat)
  case atStart => exact ⟨0, _, by omega, rfl, rfl, rfl⟩
  case round =>
    obtain ⟨k, u, hk, rfl, rfl, rfl⟩ := hrel
    by_cases hlt : k < n
    · obtain ⟨ad, rfl, z0, z1, z2⟩ := hl.out.at_ hlt
      have hki : (k : Int) < (n : Int) := by omega
      go_wp2
      go_roundw
      case rel => exact ⟨k + 1, _, by omega, by go_num, rfl, by first | rfl | trivial⟩
      case measure => simp [intOf]; omega
    · obtain rfl : k = n := by omega
      by_cases hn2 : 200 < k
      · have hn2i : (200 : Int) < (k : Int) := by omega
        go_wp2_with fail
        refine (hKn.out w (Ext.refl w)).mono ?_
        rintro e w2 ⟨rfl, hx2⟩
        go_wp2
        go_ret
        exact ⟨rfl, hx2⟩
      · by_cases hu : 20000 < u
        · have hn2i : ¬ (200 : Int) < (k : Int) := by omega
          go_wp2_with fail
          refine (hKn.out w (Ext.refl w)).mono ?_
          rintro e w2 ⟨rfl, hx2⟩
          go_wp2
          go_ret
          exact ⟨rfl, hx2⟩
        · have hn2i : ¬ (200 : Int) < (k : Int) := by omega
          have t1 := Int.tmod_lt_of_pos x (show (0 : Int) < 6 by decide)
          have t2 := Int.lt_tmod_of_pos x (show (0 : Int) < 6 by decide)
          have hy1 : IntKind.i64.wrap (x.tmod 6 + 6) = x.tmod 6 + 6 := IntWalk.i64_in _ (by omega)
          have hy2 : 0 ≤ (x.tmod 6 + 6).tmod 6 ∧ (x.tmod 6 + 6).tmod 6 < 6 := by rw [Int.tmod_eq_emod_of_nonneg (by omega)]; omega
          go_wp2_with fail
          refine hNew.out.mono ?_
          rintro e w1 ⟨t, rfl, hT, -⟩
          replace hT := hid (TT.start hT)
          obtain ⟨hC, hA⟩ := co_six (x.tmod 6)
          generalize x.tmod 6 % 3 = p at *
          generalize x.tmod 6 % 6 / 3 = q at *
          replace hC := hid hC
          replace hA := hid hA
          clear hNew hy1 hy2 t1 t2
          go_wp2_with fail
          go_loopw [12, 13] (fun v i wr => ∃ (j : Nat) (L : List Te) (es : List Et), j ≤ k ∧ i = .int .i64 j ∧ Hid (TT w wr t L v es) ∧ Hid (Iv p q j L es)) (fun _ i _ => k - (intOf i).toNat)
          case atStart => exact ⟨0, [], [], Nat.zero_le _, rfl, hT, Iv.nil p q 0⟩
          case round =>
            obtain ⟨j, L, es, hj, rfl, hT, hI⟩ := hrel
            obtain ⟨Av, cv, rfl, -⟩ := own_form hT.out.own
            by_cases hlt : j < k
            · obtain ⟨ad, rfl, z0, z1, z2⟩ := hl.out.at_ hlt
              have hki : (j : Int) < (k : Int) := by omega
              obtain ⟨⟨kd, nn, s⟩, hve⟩ : ∃ v, v = vth l j := ⟨_, rfl⟩
              have hcl : Hid (∀ w', Ext w w' → w'.cell? (ad.add (j * 3)) = some (.int .i64 kd) ∧ w'.cell? ⟨(ad.add (j * 3)).block, (ad.add (j * 3)).off + 1, none⟩ = some (.int .i64 nn) ∧ w'.cell? ⟨(ad.add (j * 3)).block, (ad.add (j * 3)).off + 2, none⟩ = some (.string s)) := fun w' hx => by
                rw [← hve] at z0 z1 z2
                exact ⟨hx.cell z0, hx.cell z1, hx.cell z2⟩
              clear hve z0 z1 z2
              obtain ⟨z0, z1, z2⟩ := hcl.out wr hT.out.old
              have hE := hid (Encode_any kd nn s p q false wr (hml.out.ext hT.out.old))
              have hV := hid (fun w' => Validate_any kd nn s w')
              unfold GiveSE at hE
              unfold vV at hE hV
              have hfor : Hid (valE kd nn s = 0 → encS kd nn s p q false = keyB kd nn s p q) := fun h => (enc_ok hA.out h).1
              have hask : askV kd nn s p q = valE kd nn s := by
                unfold askV
                split
                · rename_i h; rw [h]; exact hA.out
                · rfl
              rw [hask] at hE
              have hput := hid (fun (hv : valE kd nn s = 0) (hs : s.size ≤ 48) => hI.out.put (by omega) hv hs)
              generalize encS kd nn s p q false = K at *
              generalize hVE : valE kd nn s = E at *
              replace hVE := hid hVE
              clear hask
              go_wp2_with fail
              refine hE.out.mono ?_
              rintro e w2 ⟨rfl, hx2⟩
              replace hT := hid (hT.out.ext hx2)
              clear hE hx2 z0 z1 z2
              obtain ⟨z0, z1, z2⟩ := hcl.out w2 hT.out.old
              go_wp2_with fail
              refine (hV.out w2).mono ?_
              rintro e w3 ⟨rfl, hx3⟩
              replace hT := hid (hT.out.ext hx3)
              clear hV hx3 z0 z1 z2
              obtain ⟨z0, z1, z2⟩ := hcl.out w3 hT.out.old
              by_cases hv : E = 0
              · subst hv
                by_cases hs : 48 < s.size
                · have hsi : (48 : Int) < (s.size : Int) := by omega
                  go_wp2_with fail
                  go_roundw
                  case rel => exact ⟨j + 1, L, es, by omega, by go_num, hT, hI.out.more (Nat.le_succ j)⟩
                  case measure => simp [intOf]; omega
                · have hsi : ¬ (48 : Int) < (s.size : Int) := by omega
                  obtain rfl := hfor.out rfl
                  obtain ⟨e1, e2, e3, e4⟩ := hput.out rfl (by omega)
                  have hj1 : IntKind.i64.wrap ((j : Int) + 1) = (j : Int) + 1 := IntWalk.i64_in _ (by omega)
                  have hP1 := hid (hT.out.put (keyB kd nn s p q) ((j : Int) + 1))
                  have hP2 := hid (fun w' (H : TT w w' t (putLs L ⟨keyB kd nn s p q, (j : Int) + 1⟩) (.slice Av es.length cv) es) => H.put (keyB kd nn s p q) ((j : Int) + 1))
                  rw [e1] at hP1
                  rw [e3, e4] at hP2
                  replace e2 := hid e2
                  have hes := hI.out.2.2.2
                  clear e1 e3 e4 hfor hput hI
                  generalize putLs L ⟨keyB kd nn s p q, (j : Int) + 1⟩ = L' at *
                  generalize keyB kd nn s p q = K at *
                  go_wp2_with fail
                  refine hP1.out.mono ?_
                  rintro e w4 ⟨rfl, hT4⟩
                  replace hT := hid hT4
                  clear hP1 hT4 z0 z1 z2
                  go_wp2_with fail
                  refine (hP2.out _ hT.out).mono ?_
                  rintro e w5 ⟨rfl, hT5⟩
                  replace hT := hid hT5
                  clear hP2 hT5
                  obtain ⟨z0, z1, z2⟩ := hcl.out w5 hT.out.old
                  have hxa := (Ext.refl w5).alloc_right (.cells #[.int .i64 kd, .int .i64 nn, .string s, .string K, .int .i64 ((j : Int) + 1)] 36)
                  obtain ⟨v6, w6, happ, ho6, hrw6⟩ := appT (w5.alloc (.cells #[.int .i64 kd, .int .i64 nn, .string s, .string K, .int .i64 ((j : Int) + 1)] 36)) 29 (.slice Av es.length cv) es.length (ecls es) (hxa.own hT.out.own) (some ⟨w5.heap.size, 0, none⟩) 1 1 (ecl ⟨kd, nn, s, K, (j : Int) + 1⟩) (rd_new (heap_alloc_new w5 _)) (fun u hu => ecls_one [⟨kd, nn, s, K, (j : Int) + 1⟩] u (by rw [ecls_cons, ecls_nil, List.append_nil]; exact hu)) (by omega)
                  have hT6 := hid ((hT.out.ext hxa).row (l' := es ++ [⟨kd, nn, s, K, (j : Int) + 1⟩]) (by rw [ecls_app, ecls_cons, ecls_nil, List.append_nil, List.length_append]; exact ho6) hrw6)
                  obtain ⟨A6, c6, rfl, -⟩ := own_form ho6
                  replace happ := hid happ
                  clear ho6 hrw6 hxa hT
                  go_wp2_with (at_builtin; refine wpList_app rfl _ _ 29 29 rfl _ _ rfl rfl _ happ.out ?_)
                  go_wp2_with fail
                  go_roundw
                  case rel => exact ⟨j + 1, L', _, by omega, by go_num, hT6, e2⟩
                  case measure => simp [intOf]; omega
              · have hvb : (E != 0) = true := by rw [bne_iff_ne]; exact hv
                go_wp2_with fail
                go_roundw
                case rel => exact ⟨j + 1, L, es, by omega, by go_num, hT, hI.out.more (Nat.le_succ j)⟩
                case measure => simp [intOf]; omega
            · obtain rfl : j = k := by omega
              obtain ⟨wo, rfl⟩ : ∃ wo : World, wo = wr := ⟨_, rfl⟩
              go_wp2_with fail
              go_loopw [12, 16] (fun v i wr => ∃ (a : Nat) (L : List Te) (es : List Et), a ≤ m ∧ i = .int .i64 a ∧ Hid (TT w wr t L v es) ∧ Hid (Iv p q j L es)) (fun _ i _ => m - (intOf i).toNat)
              case atStart => exact ⟨0, L, es, Nat.zero_le _, rfl, hT, hI⟩
              case round =>
                clear hT hI
                obtain ⟨a, L, es, ha, rfl, hT, hI⟩ := hrel
                obtain ⟨Av, cv, rfl, -⟩ := own_form hT.out.own
                obtain ⟨bgo, hbgo⟩ : ∃ b : Bool, Hid (b = (decide (a < m) && decide (0 < es.length))) := ⟨_, rfl⟩
                go_upto_region 25 with fail
                go_cut [125] (fun b wx => b = .bool bgo ∧ wr = wx)
                case first =>
                  by_cases hlt : a < m
                  · have hai : (a : Int) < (m : Int) := by omega
                    by_cases hz : 0 < es.length
                    · have hb1 : Hid (bgo = true) := by unfold Hid; rw [hbgo.out]; simp [hlt, hz]
                      have hzi : (0 : Int) < (es.length : Int) := by omega
                      go_wp2_with fail
                      go_meet
                      exact ⟨by rw [hb1.out], rfl⟩
                    · have hb1 : Hid (bgo = false) := by unfold Hid; rw [hbgo.out]; simp [hz]
                      have hzi : ¬ (0 : Int) < (es.length : Int) := by omega
                      go_wp2_with fail
                      go_meet
                      exact ⟨by rw [hb1.out], rfl⟩
                  · have hb1 : Hid (bgo = false) := by unfold Hid; rw [hbgo.out]; simp [hlt]
                    have hai : ¬ (a : Int) < (m : Int) := by omega
                    go_wp2_with fail
                    go_meet
                    exact ⟨by rw [hb1.out], rfl⟩
                case rest =>
                  obtain ⟨rfl, rfl⟩ := hcut
                  cases bgo with
                  | true =>
                    have hlz : a < m ∧ 0 < es.length := by have := hbgo.out; simpa using this.symm
                    obtain ⟨hlt, hz⟩ := hlz
                    obtain ⟨ad, rfl, zr⟩ := hr.out.at_ hlt
                    have hr0 := hid zr
                    replace zr := hT.out.old.cell zr
                    have hes := hI.out.2.2.2
                    go_upto_region 28 with fail
                    obtain ⟨b, hb, hbl⟩ := pick_at (nth rs a) es.length hz (by omega)
                    simp only [hb]
                    have hbl2 := hid hbl
                    clear hb
                    obtain ⟨ae, rfl, -⟩ := (Rd.of_own hT.out.own).2.2.2 hz
                    have hcl := hid (fun w' L' (H : TT w w' t L' (.slice (some ae) es.length cv) es) => (⟨(own_five H.own hbl).2.2.2.1, (own_five H.own hbl).2.2.2.2⟩ : w'.cell? ⟨(ae.add (b * 5)).block, (ae.add (b * 5)).off + 3, none⟩ = some (.string (eth es b).key) ∧ w'.cell? ⟨(ae.add (b * 5)).block, (ae.add (b * 5)).off + 4, none⟩ = some (.int .i64 (eth es b).no)))
                    obtain ⟨e1, e2, e3, e4⟩ := hI.out.take hT.out.ta.sr hT.out.ta.oks hbl
                    have hP1 := hid (fun w' (H : TT w w' t L (.slice (some ae) es.length cv) es) => H.take (eth es b).key (eth es b).no)
                    have hP2 := hid (fun w' (H : TT w w' t (takeLs L (eth es b).te) (.slice (some ae) es.length cv) es) => H.take (eth es b).key (eth es b).no)
                    unfold Et.te at e1 e2 e3 e4 hP2
                    rw [e1] at hP1
                    rw [e2, e3] at hP2
                    replace e4 := hid e4
                    clear e1 e2 e3 zr hI
                    generalize takeLs L ⟨(eth es b).key, (eth es b).no⟩ = L' at *
                    generalize (eth es b).key = ky at *
                    generalize (eth es b).no = no at *
                    have hmv := Rd.max (Rd.of_own hT.out.own)
                    replace hT := hid (hT.out.ext (Ext.drewN wr 1))
                    have I0 : (fun w' : World => w'.cell? ⟨(ae.add (b * 5)).block, (ae.add (b * 5)).off + 3, none⟩ = some (.string ky) ∧ w'.cell? ⟨(ae.add (b * 5)).block, (ae.add (b * 5)).off + 4, none⟩ = some (.int .i64 no)) wr.drew := hcl.out _ L hT.out
                    refine region_J (fun w' : World => w'.cell? ⟨(ae.add (b * 5)).block, (ae.add (b * 5)).off + 3, none⟩ = some (.string ky) ∧ w'.cell? ⟨(ae.add (b * 5)).block, (ae.add (b * 5)).off + 4, none⟩ = some (.int .i64 no)) 28 (by kernel_rfl) ?_
                    replace hT : Hid (TT w wr.drew t L (.slice (some ae) es.length cv) es) := hT
                    generalize wr.drew = W at *
                    refine JO 0 (v := ?va0) I0 ?ya0 ?ra0
                    case ya0 => (intro w h; obtain ⟨_, _⟩ := h; go_simp; with_reducible rfl)
                    simp only [Act.put, lyA, lyB, lyC, lyD, lyE, lyF]
                    refine JO 1 (v := ?va1) I0 ?ya1 ?ra1
                    case ya1 => (intro w h; obtain ⟨_, _⟩ := h; go_simp; with_reducible rfl)
                    simp only [Act.put, lyA, lyB, lyC, lyD, lyE, lyF]
                    refine JO 2 (v := ?va2) I0 ?ya2 ?ra2
                    case ya2 => (intro w h; obtain ⟨_, _⟩ := h; go_simp; with_reducible rfl)
                    simp only [Act.put, lyA, lyB, lyC, lyD, lyE, lyF]
                    refine JO 3 (v := ?va3) I0 ?ya3 ?ra3
                    case ya3 => (intro w h; obtain ⟨_, _⟩ := h; go_simp; with_reducible rfl)
                    simp only [Act.put, lyA, lyB, lyC, lyD, lyE, lyF]
                    refine JO 4 (v := ?va4) I0 ?ya4 ?ra4
                    case ya4 => (intro w h; obtain ⟨_, _⟩ := h; go_simp; with_reducible rfl)
                    simp only [Act.put, lyA, lyB, lyC, lyD, lyE, lyF]
                    refine JO 5 (v := ?va5) I0 ?ya5 ?ra5
                    case ya5 => (intro w h; obtain ⟨_, _⟩ := h; go_simp; with_reducible rfl)
                    simp only [Act.put, lyA, lyB, lyC, lyD, lyE, lyF]
                    refine JO 6 (v := ?va6) I0 ?ya6 ?ra6
                    case ya6 => (intro w h; obtain ⟨_, _⟩ := h; go_simp; with_reducible rfl)
                    simp only [Act.put, lyA, lyB, lyC, lyD, lyE, lyF]
                    refine JO 7 (v := ?va7) I0 ?ya7 ?ra7
                    case ya7 => (intro w h; obtain ⟨_, _⟩ := h; go_simp; with_reducible rfl)
                    simp only [Act.put, lyA, lyB, lyC, lyD, lyE, lyF]
                    refine JO 8 (v := ?va8) I0 ?ya8 ?ra8
                    case ya8 => (intro w h; obtain ⟨_, _⟩ := h; go_simp; with_reducible rfl)
                    simp only [Act.put, lyA, lyB, lyC, lyD, lyE, lyF]
                    refine JO 9 (v := ?va9) I0 ?ya9 ?ra9
                    case ya9 => (intro w h; obtain ⟨_, _⟩ := h; go_simp; with_reducible rfl)
                    simp only [Act.put, lyA, lyB, lyC, lyD, lyE, lyF]
                    refine JO 10 (v := ?va10) I0 ?ya10 ?ra10
                    case ya10 => (intro w h; obtain ⟨_, _⟩ := h; go_simp; with_reducible rfl)
                    simp only [Act.put, lyA, lyB, lyC, lyD, lyE, lyF]
                    refine J_one 11 rfl (by kernel_rfl) (fun K hK => ?_)
                    go_simp
                    refine (hP1.out _ hT.out).mono ?_
                    rintro e W2 ⟨rfl, hT2⟩
                    have I1 : (fun w' : World => w'.cell? ⟨(ae.add (b * 5)).block, (ae.add (b * 5)).off + 3, none⟩ = some (.string ky) ∧ w'.cell? ⟨(ae.add (b * 5)).block, (ae.add (b * 5)).off + 4, none⟩ = some (.int .i64 no)) W2 := hcl.out _ L' hT2
                    replace hT := hid hT2
                    clear hP1 hT2 I0
                    refine hK _ _ ⟨fun _ => I1, ?_⟩
                    clear hK K
                    try simp only [Act.put, lyA, lyB, lyC, lyD, lyE, lyF]
                    refine JO 12 (v := ?vb12) I1 ?yb12 ?rb12
                    case yb12 => (intro w h; obtain ⟨_, _⟩ := h; go_simp; with_reducible rfl)
                    simp only [Act.put, lyA, lyB, lyC, lyD, lyE, lyF]
                    refine JO 13 (v := ?vb13) I1 ?yb13 ?rb13
                    case yb13 => (intro w h; obtain ⟨_, _⟩ := h; go_simp; with_reducible rfl)
                    simp only [Act.put, lyA, lyB, lyC, lyD, lyE, lyF]
                    refine JO 14 (v := ?vb14) I1 ?yb14 ?rb14
                    case yb14 => (intro w h; obtain ⟨_, _⟩ := h; go_simp; with_reducible rfl)
                    simp only [Act.put, lyA, lyB, lyC, lyD, lyE, lyF]
                    refine JO 15 (v := ?vb15) I1 ?yb15 ?rb15
                    case yb15 => (intro w h; obtain ⟨_, _⟩ := h; go_simp; with_reducible rfl)
                    simp only [Act.put, lyA, lyB, lyC, lyD, lyE, lyF]
                    refine JO 16 (v := ?vb16) I1 ?yb16 ?rb16
                    case yb16 => (intro w h; obtain ⟨_, _⟩ := h; go_simp; with_reducible rfl)
                    simp only [Act.put, lyA, lyB, lyC, lyD, lyE, lyF]
                    refine JO 17 (v := ?vb17) I1 ?yb17 ?rb17
                    case yb17 => (intro w h; obtain ⟨_, _⟩ := h; go_simp; with_reducible rfl)
                    simp only [Act.put, lyA, lyB, lyC, lyD, lyE, lyF]
                    refine JO 18 (v := ?vb18) I1 ?yb18 ?rb18
                    case yb18 => (intro w h; obtain ⟨_, _⟩ := h; go_simp; with_reducible rfl)
                    simp only [Act.put, lyA, lyB, lyC, lyD, lyE, lyF]
                    refine JO 19 (v := ?vb19) I1 ?yb19 ?rb19
                    case yb19 => (intro w h; obtain ⟨_, _⟩ := h; go_simp; with_reducible rfl)
                    simp only [Act.put, lyA, lyB, lyC, lyD, lyE, lyF]
                    refine JO 20 (v := ?vb20) I1 ?yb20 ?rb20
                    case yb20 => (intro w h; obtain ⟨_, _⟩ := h; go_simp; with_reducible rfl)
                    simp only [Act.put, lyA, lyB, lyC, lyD, lyE, lyF]
                    refine JO 21 (v := ?vb21) I1 ?yb21 ?rb21
                    case yb21 => (intro w h; obtain ⟨_, _⟩ := h; go_simp; with_reducible rfl)
                    simp only [Act.put, lyA, lyB, lyC, lyD, lyE, lyF]
                    refine JO 22 (v := ?vb22) I1 ?yb22 ?rb22
                    case yb22 => (intro w h; obtain ⟨_, _⟩ := h; go_simp; with_reducible rfl)
                    simp only [Act.put, lyA, lyB, lyC, lyD, lyE, lyF]
                    refine JO 23 (v := ?vb23) I1 ?yb23 ?rb23
                    case yb23 => (intro w h; obtain ⟨_, _⟩ := h; go_simp; with_reducible rfl)
                    simp only [Act.put, lyA, lyB, lyC, lyD, lyE, lyF]
                    refine JO 24 (v := ?vb24) I1 ?yb24 ?rb24
                    case yb24 => (intro w h; obtain ⟨_, _⟩ := h; go_simp; with_reducible rfl)
                    simp only [Act.put, lyA, lyB, lyC, lyD, lyE, lyF]
                    refine J_one 25 rfl (by kernel_rfl) (fun K hK => ?_)
                    go_simp
                    refine (hP2.out _ hT.out).mono ?_
                    rintro e W3 ⟨rfl, hT3⟩
                    have I2 : (fun w' : World => w'.cell? ⟨(ae.add (b * 5)).block, (ae.add (b * 5)).off + 3, none⟩ = some (.string ky) ∧ w'.cell? ⟨(ae.add (b * 5)).block, (ae.add (b * 5)).off + 4, none⟩ = some (.int .i64 no)) W3 := hcl.out _ L' hT3
                    replace hT := hid hT3
                    clear hP2 hT3 I1
                    refine hK _ _ ⟨fun _ => I2, ?_⟩
                    clear hK K
                    try simp only [Act.put, lyA, lyB, lyC, lyD, lyE, lyF]
                    refine JO 26 (v := ?vc26) I2 ?yc26 ?rc26
                    case yc26 => (intro w h; obtain ⟨_, _⟩ := h; go_simp; with_reducible rfl)
                    simp only [Act.put, lyA, lyB, lyC, lyD, lyE, lyF]
                    refine JO 27 (v := ?vc27) I2 ?yc27 ?rc27
                    case yc27 => (intro w h; obtain ⟨_, _⟩ := h; go_simp; with_reducible rfl)
                    simp only [Act.put, lyA, lyB, lyC, lyD, lyE, lyF]
                    refine J_done (by kernel_rfl) (OnlyOn.normal ?_)
                    clear I2 hcl hbl
                    replace hmv := hid hmv
                    replace hz := hid hz
                    replace hes := hid hes
                    go_upto_if 168 with fail
                    go_step
                    go_step
                    go_step
                    go_step
                    replace hT := hid (hT.out.ext (Ext.drewN W3 1))
                    refine region_J (fun _ => True) 10 (by kernel_rfl) ?_
                    replace hT : Hid (TT w W3.drew t L' (.slice (some ae) es.length cv) es) := hT
                    generalize W3.drew = W at *
                    have I0 : True := trivial
                    have hb7 := hbl2.out
                    have hb8 := hmv.out
                    obtain ⟨b1, hb1⟩ : ∃ b1, b1 = b + 1 := ⟨_, rfl⟩
                    have hb2 : b ≤ cv := by omega
                    have hb3 : b1 ≤ es.length := by omega
                    have hb4 : b1 ≤ cv := by omega
                    have hb9 : (b : Int) + 1 = (b1 : Int) := by omega
                    have hba : -9223372036854775808 ≤ (b : Int) + 1 ∧ (b : Int) + 1 ≤ 9223372036854775807 := by omega
                    have hb5 : wrap64 ((b : Int) + 1) = (b1 : Int) := (IntWalk.wrap64_in _ hba).trans hb9
                    have hb6 : IntKind.i64.wrap ((b : Int) + 1) = (b1 : Int) := (IntWalk.i64_in _ hba).trans hb9
                    clear hb9 hba
                    replace hb1 := hid hb1
                    clear hb7 hb8
                    refine JO 0 (v := ?vd0) I0 ?yd0 ?rd0
                    case yd0 => (intro w h; have := h; go_simp; with_reducible rfl)
                    simp only [Act.put, lyA, lyB, lyC, lyD, lyE, lyF]
                    refine JO 1 (v := ?vd1) I0 ?yd1 ?rd1
                    case yd1 => (intro w h; have := h; go_simp; with_reducible rfl)
                    simp only [Act.put, lyA, lyB, lyC, lyD, lyE, lyF]
                    refine JO 2 (v := ?vd2) I0 ?yd2 ?rd2
                    case yd2 => (intro w h; have := h; go_simp; with_reducible rfl)
                    simp only [Act.put, lyA, lyB, lyC, lyD, lyE, lyF]
                    refine JO 4 (v := ?vd4) I0 ?yd4 ?rd4
                    case yd4 => (intro w h; have := h; go_simp; with_reducible rfl)
                    simp only [Act.put, lyA, lyB, lyC, lyD, lyE, lyF]
                    refine JO 5 (v := ?vd5) I0 ?yd5 ?rd5
                    case yd5 => (intro w h; have := h; go_simp; with_reducible rfl)
                    simp only [Act.put, lyA, lyB, lyC, lyD, lyE, lyF]
                    refine JO 6 (v := ?vd6) I0 ?yd6 ?rd6
                    case yd6 => (intro w h; have := h; go_simp; with_reducible rfl)
                    simp only [Act.put, lyA, lyB, lyC, lyD, lyE, lyF]
                    refine JO 7 (v := ?vd7) I0 ?yd7 ?rd7
                    case yd7 => (intro w h; have := h; go_simp; with_reducible rfl)
                    simp only [Act.put, lyA, lyB, lyC, lyD, lyE, lyF]
                    obtain ⟨v7, w7, A8, c8, w8, happ1, happ2, hT8⟩ := hT.out.cut hbl2.out hb1.out (by have := hes.out; omega) 29 29
                    generalize List.take b es ++ List.drop (b + 1) es = es' at *
                    replace happ1 := hid happ1
                    replace happ2 := hid happ2
                    replace hT8 := hid hT8
                    clear hT hb2 hb3 hb4 hb5 hb6
                    refine J_one 3 rfl (by kernel_rfl) (fun K hK => ?_)
                    refine step_run rfl _ (ex_append _ _ _ _ rfl _ _ (by simp [Act.eval, Act.put]) (by simp [Act.eval, Act.put]) _ happ1.out) ?_
                    refine hK _ _ ⟨fun _ => trivial, ?_⟩
                    clear hK K
                    simp only [Act.put, lyA, lyB, lyC, lyD, lyE, lyF]
                    refine J_one 8 rfl (by kernel_rfl) (fun K hK => ?_)
                    refine step_run rfl _ (ex_append _ _ _ _ rfl _ _ (by simp [Act.eval, Act.put]) (by simp [Act.eval, Act.put]) _ happ2.out) ?_
                    refine hK _ _ ⟨fun _ => trivial, ?_⟩
                    clear hK K
                    simp only [Act.put, lyA, lyB, lyC, lyD, lyE, lyF]
                    refine JO 9 (v := ?ve9) I0 ?ye9 ?re9
                    case ye9 => (intro w h; have := h; go_simp; with_reducible rfl)
                    simp only [Act.put, lyA, lyB, lyC, lyD, lyE, lyF]
                    refine J_done (by kernel_rfl) (OnlyOn.normal ?_)
                    clear happ1 happ2
                    go_wp2_with fail
                    go_roundw
                    case rel => exact ⟨a + 1, L', es', by omega, by go_num, hT8, e4⟩
                    case measure => simp [intOf]; omega
                  | false =>
                    clear hbgo
                    have hN1 := hI.out.2.2.2
                    generalize hN : es.length = N at *
                    replace hN := hid hN
                    obtain ⟨wo, rfl⟩ : ∃ wo : World, wo = wr := ⟨_, rfl⟩
                    have mv := hT.out.own.2
                    go_wp2_with fail
                    go_loopw [18] (fun i wr => ∃ (a : Nat) (es : List Et), 1 ≤ a ∧ (a ≤ N ∨ a = 1) ∧ i = .int .i64 a ∧ Hid (es.length = N) ∧ Hid (TT w wr t L (.slice Av N cv) es) ∧ Hid (Iv p q j L es) ∧ Hid (So (es.map Et.te) a)) (fun i _ => N - (intOf i).toNat)
                    case atStart => exact ⟨1, es, Nat.le_refl _, .inr rfl, rfl, hN, hT, hI, fun p q h1 h2 => by omega⟩
                    case round =>
                      clear hT hI hN
                      obtain ⟨a, es, ha1, ha, rfl, hN, hT, hI, hSo⟩ := hrel
                      by_cases hlt : a < N
                      · have hlti : (a : Int) < (N : Int) := by omega
                        have mv := Rd.max (Rd.of_own (hT.out.ownN hN.out))
                        obtain ⟨ae, rfl, -⟩ := (Rd.of_own (hT.out.ownN hN.out)).2.2.2 (by omega)
                        obtain ⟨wp, rfl⟩ : ∃ wp : World, wp = wr := ⟨_, rfl⟩
                        go_wp2_with fail
                        go_loopw [19] (fun i wr => ∃ (b : Nat) (es : List Et), b ≤ a ∧ i = .int .i64 b ∧ Hid (es.length = N) ∧ Hid (TT w wr t L (.slice (some ae) N cv) es) ∧ Hid (Iv p q j L es) ∧ Hid (Sp (es.map Et.te) a b)) (fun i _ => (intOf i).toNat)
                        case atStart => exact ⟨a, es, Nat.le_refl _, rfl, hN, hT, hI, hSo.out.enter⟩
                        case round =>
                          clear hT hI hN hSo
                          obtain ⟨b, es, hba, rfl, hN, hT, hI, hSp⟩ := hrel
                          by_cases hb0 : b = 0
                          · subst hb0
                            go_upto_region 35 with fail
                            refine region_J (fun _ => True) 16 (by kernel_rfl) ?_
                            have I0 : True := trivial
                            replace hT : Hid (TT w wr.drew t L (.slice (some ae) N cv) es) := hT.out.ext (Ext.drewN wr 1)
                            generalize wr.drew = W at *
                            refine JO 0 (v := ?vz0) I0 ?yz0 ?rz0
                            case yz0 => (intro w h; have := h; go_simp; with_reducible rfl)
                            simp only [Act.put, lyA, lyB, lyC, lyD, lyE, lyF]
                            refine JO 1 (v := ?vz1) I0 ?yz1 ?rz1
                            case yz1 => (intro w h; have := h; go_simp; with_reducible rfl)
                            simp only [Act.put, lyA, lyB, lyC, lyD, lyE, lyF]
                            refine JO 2 (v := ?vz2) I0 ?yz2 ?rz2
                            case yz2 => (intro w h; have := h; go_simp; with_reducible rfl)
                            simp only [Act.put, lyA, lyB, lyC, lyD, lyE, lyF]
                            refine J_takeO 3 rfl (by kernel_rfl) (by kernel_rfl) (by kernel_rfl) (by kernel_rfl) (fun _ _ _ h => h) (Or.inr ⟨by rfl, rfl⟩) I0 ?_
                            simp only [Act.put, lyA, lyB, lyC, lyD, lyE, lyF]
                            refine J_takeO 4 rfl (by kernel_rfl) (by kernel_rfl) (by kernel_rfl) (by kernel_rfl) (fun _ _ _ h => h) (Or.inr ⟨by rfl, rfl⟩) I0 ?_
                            simp only [Act.put, lyA, lyB, lyC, lyD, lyE, lyF]
                            refine J_takeO 5 rfl (by kernel_rfl) (by kernel_rfl) (by kernel_rfl) (by kernel_rfl) (fun _ _ _ h => h) (Or.inr ⟨by rfl, rfl⟩) I0 ?_
                            simp only [Act.put, lyA, lyB, lyC, lyD, lyE, lyF]
                            refine J_takeO 6 rfl (by kernel_rfl) (by kernel_rfl) (by kernel_rfl) (by kernel_rfl) (fun _ _ _ h => h) (Or.inr ⟨by rfl, rfl⟩) I0 ?_
                            simp only [Act.put, lyA, lyB, lyC, lyD, lyE, lyF]
                            refine J_takeO 7 rfl (by kernel_rfl) (by kernel_rfl) (by kernel_rfl) (by kernel_rfl) (fun _ _ _ h => h) (Or.inr ⟨by rfl, rfl⟩) I0 ?_
                            simp only [Act.put, lyA, lyB, lyC, lyD, lyE, lyF]
                            refine J_takeO 8 rfl (by kernel_rfl) (by kernel_rfl) (by kernel_rfl) (by kernel_rfl) (fun _ _ _ h => h) (Or.inr ⟨by rfl, rfl⟩) I0 ?_
                            simp only [Act.put, lyA, lyB, lyC, lyD, lyE, lyF]
                            refine J_takeO 9 rfl (by kernel_rfl) (by kernel_rfl) (by kernel_rfl) (by kernel_rfl) (fun _ _ _ h => h) (Or.inr ⟨by rfl, rfl⟩) I0 ?_
                            simp only [Act.put, lyA, lyB, lyC, lyD, lyE, lyF]
                            refine J_takeO 10 rfl (by kernel_rfl) (by kernel_rfl) (by kernel_rfl) (by kernel_rfl) (fun _ _ _ h => h) (Or.inr ⟨by rfl, rfl⟩) I0 ?_
                            simp only [Act.put, lyA, lyB, lyC, lyD, lyE, lyF]
                            refine J_takeO 11 rfl (by kernel_rfl) (by kernel_rfl) (by kernel_rfl) (by kernel_rfl) (fun _ _ _ h => h) (Or.inr ⟨by rfl, rfl⟩) I0 ?_
                            simp only [Act.put, lyA, lyB, lyC, lyD, lyE, lyF]
                            refine J_takeO 12 rfl (by kernel_rfl) (by kernel_rfl) (by kernel_rfl) (by kernel_rfl) (fun _ _ _ h => h) (Or.inr ⟨by rfl, rfl⟩) I0 ?_
                            simp only [Act.put, lyA, lyB, lyC, lyD, lyE, lyF]
                            refine J_takeO 13 rfl (by kernel_rfl) (by kernel_rfl) (by kernel_rfl) (by kernel_rfl) (fun _ _ _ h => h) (Or.inr ⟨by rfl, rfl⟩) I0 ?_
                            simp only [Act.put, lyA, lyB, lyC, lyD, lyE, lyF]
                            refine J_takeO 14 rfl (by kernel_rfl) (by kernel_rfl) (by kernel_rfl) (by kernel_rfl) (fun _ _ _ h => h) (Or.inr ⟨by rfl, rfl⟩) I0 ?_
                            simp only [Act.put, lyA, lyB, lyC, lyD, lyE, lyF]
                            refine JO 15 (v := ?vz15) I0 ?yz15 ?rz15
                            case yz15 => (intro w h; have := h; go_simp; with_reducible rfl)
                            simp only [Act.put, lyA, lyB, lyC, lyD, lyE, lyF]
                            refine J_done (by kernel_rfl) (OnlyOn.normal ?_)
                            have hSo2 : Hid (So (es.map Et.te) (a + 1)) := hSp.out.leave (Nat.zero_le _) (.inl rfl)
                            go_wp2_with fail
                            go_roundw
                            case rel => exact ⟨a + 1, es, by omega, .inl (by omega), by go_num, hN, hT, hI, hSo2⟩
                            case measure => simp [intOf]; omega
                          · obtain ⟨c, hc⟩ : ∃ c, b = c + 1 := ⟨b - 1, by omega⟩
                            have hbN : b < N := by omega
                            have hcN : c < N := by omega
                            have hbi : (0 : Int) < (b : Int) := by omega
                            have hbn : 0 < b := by omega
                            have hm0 : (b : Int) - 1 = (c : Int) := by omega
                            have hm1 : wrap64 ((b : Int) - 1) = (c : Int) := (IntWalk.wrap64_in _ ⟨by omega, by omega⟩).trans hm0
                            have hm2 : IntKind.i64.wrap ((b : Int) - 1) = (c : Int) := (IntWalk.i64_in _ ⟨by omega, by omega⟩).trans hm0
                            have hbl : b < es.length := by rw [hN.out]; exact hbN
                            have hcl0 : c < es.length := by rw [hN.out]; exact hcN
                            have e1 : b - 1 = c := by omega
                            have hcb : c ≠ b := by omega
                            have hcl := hid (fun w' (H : TT w w' t L (.slice (some ae) N cv) es) => (⟨own_five (H.ownN hN.out) hbl, own_five (H.ownN hN.out) hcl0⟩ : Five w' (ae.add (b * 5)) (eth es b) ∧ Five w' (ae.add (c * 5)) (eth es c)))
                            obtain ⟨Bo, hBe⟩ : ∃ Bo, befB (befN (eth es b).k (eth es b).n (eth es b).s (eth es c).k (eth es c).n (eth es c).s p q) (eth es b).no (eth es c).no = Bo := ⟨_, rfl⟩
                            have hBd : Hid (Bo = decide (cmpT (tth (es.map Et.te) b) (tth (es.map Et.te) c) < 0)) := hBe.symm.trans (hI.out.before hC.out hbl hcl0)
                            have hbc := hid (fun w' => before_any (eth es b).k (eth es b).n (eth es b).s (eth es b).key (eth es b).no (eth es c).k (eth es c).n (eth es c).s (eth es c).key (eth es c).no p q w')
                            simp only [hBe] at hbc
                            have hsw := hid (fun w' (H : TT w w' t L (.slice (some ae) N cv) es) => H.swap hN.out hbN hcN hcb)
                            have hIs := hid (hI.out.swap (k := b) (by omega) hbl)
                            rw [e1] at hIs
                            have hls : Hid (((es.set b (eth es c)).set c (eth es b)).length = N) := by unfold Hid; rw [List.length_set, List.length_set]; exact hN.out
                            have hst := hid (fun (h : cmpT (tth (es.map Et.te) b) (tth (es.map Et.te) c) < 0) => hSp.out.step (by omega) hba (by rw [List.length_map, hN.out]; exact hlt) (by rw [e1]; exact h))
                            rw [e1] at hst
                            have hlv := hid (fun (h : ¬ cmpT (tth (es.map Et.te) b) (tth (es.map Et.te) c) < 0) => hSp.out.leave hba (.inr (by rw [e1]; exact hI.out.less hT.out.ta.sr (fun e => hcb e.symm) hbl hcl0 h)))
                            clear hBe hm0 e1 hbl hcl0 hb0
                            replace hc := hid hc
                            replace hcb := hid hcb
                            generalize hx : eth es b = x at *
                            generalize hy : eth es c = y at *
                            clear hx hy
                            go_upto_region 35 with fail
                            have I0 : (fun w' : World => Five w' (ae.add (b * 5)) x ∧ Five w' (ae.add (c * 5)) y) wr.drew := hcl.out _ (hT.out.ext (Ext.drewN wr 1))
                            refine region_J (fun w' : World => Five w' (ae.add (b * 5)) x ∧ Five w' (ae.add (c * 5)) y) 16 (by kernel_rfl) ?_
                            replace hT : Hid (TT w wr.drew t L (.slice (some ae) N cv) es) := hT.out.ext (Ext.drewN wr 1)
                            generalize wr.drew = W at *
                            refine JO 0 (v := ?vf0) I0 ?yf0 ?rf0
                            case yf0 => (intro w hSw; obtain ⟨⟨_, _, _, _, _⟩, ⟨_, _, _, _, _⟩⟩ := hSw; (go_simp; with_reducible rfl))
                            simp only [Act.put, lyA, lyB, lyC, lyD, lyE, lyF]
                            refine JO 1 (v := ?vf1) I0 ?yf1 ?rf1
                            case yf1 => (intro w hSw; obtain ⟨⟨_, _, _, _, _⟩, ⟨_, _, _, _, _⟩⟩ := hSw; (go_simp; with_reducible rfl))
                            simp only [Act.put, lyA, lyB, lyC, lyD, lyE, lyF]
                            refine JO 2 (v := ?vf2) I0 ?yf2 ?rf2
                            case yf2 => (intro w hSw; obtain ⟨⟨_, _, _, _, _⟩, ⟨_, _, _, _, _⟩⟩ := hSw; (go_simp; with_reducible rfl))
                            simp only [Act.put, lyA, lyB, lyC, lyD, lyE, lyF]
                            refine JO 3 (v := ?vf3) I0 ?yf3 ?rf3
                            case yf3 => (intro w hSw; obtain ⟨⟨_, _, _, _, _⟩, ⟨_, _, _, _, _⟩⟩ := hSw; (go_simp; with_reducible rfl))
                            simp only [Act.put, lyA, lyB, lyC, lyD, lyE, lyF]
                            refine JO 4 (v := ?vf4) I0 ?yf4 ?rf4
                            case yf4 => (intro w hSw; obtain ⟨⟨_, _, _, _, _⟩, ⟨_, _, _, _, _⟩⟩ := hSw; (go_simp; with_reducible rfl))
                            simp only [Act.put, lyA, lyB, lyC, lyD, lyE, lyF]
                            refine JO 5 (v := ?vf5) I0 ?yf5 ?rf5
                            case yf5 => (intro w hSw; obtain ⟨⟨_, _, _, _, _⟩, ⟨_, _, _, _, _⟩⟩ := hSw; (go_simp; with_reducible rfl))
                            simp only [Act.put, lyA, lyB, lyC, lyD, lyE, lyF]
                            refine JO 6 (v := ?vf6) I0 ?yf6 ?rf6
                            case yf6 => (intro w hSw; obtain ⟨⟨_, _, _, _, _⟩, ⟨_, _, _, _, _⟩⟩ := hSw; (go_simp; with_reducible rfl))
                            simp only [Act.put, lyA, lyB, lyC, lyD, lyE, lyF]
                            refine JO 7 (v := ?vf7) I0 ?yf7 ?rf7
                            case yf7 => (intro w hSw; obtain ⟨⟨_, _, _, _, _⟩, ⟨_, _, _, _, _⟩⟩ := hSw; (go_simp; with_reducible rfl))
                            simp only [Act.put, lyA, lyB, lyC, lyD, lyE, lyF]
                            refine JO 8 (v := ?vf8) I0 ?yf8 ?rf8
                            case yf8 => (intro w hSw; obtain ⟨⟨_, _, _, _, _⟩, ⟨_, _, _, _, _⟩⟩ := hSw; (go_simp; with_reducible rfl))
                            simp only [Act.put, lyA, lyB, lyC, lyD, lyE, lyF]
                            refine JO 9 (v := ?vf9) I0 ?yf9 ?rf9
                            case yf9 => (intro w hSw; obtain ⟨⟨_, _, _, _, _⟩, ⟨_, _, _, _, _⟩⟩ := hSw; (go_simp; with_reducible rfl))
                            simp only [Act.put, lyA, lyB, lyC, lyD, lyE, lyF]
                            refine JO 10 (v := ?vf10) I0 ?yf10 ?rf10
                            case yf10 => (intro w hSw; obtain ⟨⟨_, _, _, _, _⟩, ⟨_, _, _, _, _⟩⟩ := hSw; (go_simp; with_reducible rfl))
                            simp only [Act.put, lyA, lyB, lyC, lyD, lyE, lyF]
                            refine JO 11 (v := ?vf11) I0 ?yf11 ?rf11
                            case yf11 => (intro w hSw; obtain ⟨⟨_, _, _, _, _⟩, ⟨_, _, _, _, _⟩⟩ := hSw; (go_simp; with_reducible rfl))
                            simp only [Act.put, lyA, lyB, lyC, lyD, lyE, lyF]
                            refine JO 12 (v := ?vf12) I0 ?yf12 ?rf12
                            case yf12 => (intro w hSw; obtain ⟨⟨_, _, _, _, _⟩, ⟨_, _, _, _, _⟩⟩ := hSw; (go_simp; with_reducible rfl))
                            simp only [Act.put, lyA, lyB, lyC, lyD, lyE, lyF]
                            refine JO 13 (v := ?vf13) I0 ?yf13 ?rf13
                            case yf13 => (intro w hSw; obtain ⟨⟨_, _, _, _, _⟩, ⟨_, _, _, _, _⟩⟩ := hSw; (go_simp; with_reducible rfl))
                            simp only [Act.put, lyA, lyB, lyC, lyD, lyE, lyF]
                            refine J_one 14 rfl (by kernel_rfl) (fun K hK => ?_)
                            go_simp
                            refine (hbc.out W).mono ?_
                            rintro e W2 ⟨rfl, hx2⟩
                            have I1 : (fun w' : World => Five w' (ae.add (b * 5)) x ∧ Five w' (ae.add (c * 5)) y) W2 := hcl.out _ (hT.out.ext hx2)
                            replace hT := hid (hT.out.ext hx2)
                            clear hx2 I0
                            refine hK _ _ ⟨fun _ => I1, ?_⟩
                            clear hK K
                            try simp only [Act.put, lyA, lyB, lyC, lyD, lyE, lyF]
                            refine JO 15 (v := ?vf15) I1 ?yf15 ?rf15
                            case yf15 => (intro w hSw; obtain ⟨⟨_, _, _, _, _⟩, ⟨_, _, _, _, _⟩⟩ := hSw; (go_simp; with_reducible rfl))
                            simp only [Act.put, lyA, lyB, lyC, lyD, lyE, lyF]
                            refine J_done (by kernel_rfl) (OnlyOn.normal ?_)
                            cases Bo with
                            | true =>
                              have hless := of_decide_eq_true hBd.out.symm
                              have hSp2 := hid (hst.out hless)
                              rw [← hIs.out.2] at hSp2
                              clear hless hlv hst hbc hBd I1 hSp
                              go_upto_if 200 with fail
                              go_step
                              go_step
                              go_step
                              go_step
                              go_upto_region 37 with fail
                              replace hT := hid (hT.out.ext (Ext.drewN W2 1))
                              have I0 : (fun w' : World => Five w' (ae.add (b * 5)) x ∧ Five w' (ae.add (c * 5)) y) W2.drew := hcl.out _ hT.out
                              refine region_K (fun w' : World => Five w' (ae.add (b * 5)) x ∧ Five w' (ae.add (c * 5)) y) 15 (by kernel_rfl) ?_
                              replace hT : Hid (TT w W2.drew t L (.slice (some ae) N cv) es) := hT
                              generalize W2.drew = W at *
                              obtain ⟨th1, th2, ad1, ad2, hT3⟩ := hsw.out W hT.out
                              replace hT3 := hid hT3
                              replace th1 := hid th1
                              replace th2 := hid th2
                              replace ad1 := hid ad1
                              replace ad2 := hid ad2
                              clear hsw hcl hT
                              refine K_free 0 (v := ?vk0) rfl (by kernel_rfl) (by kernel_rfl) (by kernel_rfl) (by kernel_rfl) (fun _ _ _ h => h) (Or.inl ⟨by rfl, ?yk0⟩) (Or.inr I0) ?rk0
                              case yk0 => (intro w h; have := h; go_simp; with_reducible rfl)
                              simp only [Act.put, lyA, lyB, lyC, lyD, lyE, lyF]
                              refine K_free 1 (v := ?vk1) rfl (by kernel_rfl) (by kernel_rfl) (by kernel_rfl) (by kernel_rfl) (fun _ _ _ h => h) (Or.inl ⟨by rfl, ?yk1⟩) (Or.inr I0) ?rk1
                              case yk1 => (intro w h; have := h; go_simp; with_reducible rfl)
                              simp only [Act.put, lyA, lyB, lyC, lyD, lyE, lyF]
                              refine K_free 2 (v := ?vk2) rfl (by kernel_rfl) (by kernel_rfl) (by kernel_rfl) (by kernel_rfl) (fun _ _ _ h => h) (Or.inl ⟨by rfl, ?yk2⟩) (Or.inr I0) ?rk2
                              case yk2 => (intro w h; have := h; go_simp; with_reducible rfl)
                              simp only [Act.put, lyA, lyB, lyC, lyD, lyE, lyF]
                              refine K_free 3 (v := ?vk3) rfl (by kernel_rfl) (by kernel_rfl) (by kernel_rfl) (by kernel_rfl) (fun _ _ _ h => h) (Or.inl ⟨by rfl, ?yk3⟩) (Or.inr I0) ?rk3
                              case yk3 => (intro w h; have := h; go_simp; with_reducible rfl)
                              simp only [Act.put, lyA, lyB, lyC, lyD, lyE, lyF]
                              refine K_free 4 (v := ?vk4) rfl (by kernel_rfl) (by kernel_rfl) (by kernel_rfl) (by kernel_rfl) (fun _ _ _ h => h) (Or.inl ⟨by rfl, ?yk4⟩) (Or.inr I0) ?rk4
                              case yk4 => (intro w h; have := h; go_simp; with_reducible rfl)
                              simp only [Act.put, lyA, lyB, lyC, lyD, lyE, lyF]
                              refine K_free 5 (v := ?vk5) rfl (by kernel_rfl) (by kernel_rfl) (by kernel_rfl) (by kernel_rfl) (fun _ _ _ h => h) (Or.inl ⟨by rfl, ?yk5⟩) (Or.inr I0) ?rk5
                              case yk5 => (intro w h; have := h; go_simp; with_reducible rfl)
                              simp only [Act.put, lyA, lyB, lyC, lyD, lyE, lyF]
                              refine K_free 6 (v := ?vk6) rfl (by kernel_rfl) (by kernel_rfl) (by kernel_rfl) (by kernel_rfl) (fun _ _ _ h => h) (Or.inl ⟨by rfl, ?yk6⟩) (Or.inr I0) ?rk6
                              case yk6 => (intro w h; have := h; go_simp; with_reducible rfl)
                              simp only [Act.put, lyA, lyB, lyC, lyD, lyE, lyF]
                              refine K_free 7 (v := ?vk7) rfl (by kernel_rfl) (by kernel_rfl) (by kernel_rfl) (by kernel_rfl) (fun _ _ _ h => h) (Or.inl ⟨by rfl, ?yk7⟩) (Or.inr I0) ?rk7
                              case yk7 => (intro w h; have := h; go_simp; with_reducible rfl)
                              simp only [Act.put, lyA, lyB, lyC, lyD, lyE, lyF]
                              refine K_free 8 (v := ?vk8) rfl (by kernel_rfl) (by kernel_rfl) (by kernel_rfl) (by kernel_rfl) (fun _ _ _ h => h) (Or.inl ⟨by rfl, ?yk8⟩) (Or.inr I0) ?rk8
                              case yk8 => (intro w h; have := h; go_simp; with_reducible rfl)
                              simp only [Act.put, lyA, lyB, lyC, lyD, lyE, lyF]
                              refine K_take 9 (v := ?vk9) rfl (by kernel_rfl) (by kernel_rfl) (by kernel_rfl) (by kernel_rfl) (by kernel_rfl) (by kernel_rfl) (fun _ _ _ h => h) (Or.inl ⟨by rfl, ?yk9⟩) I0 ?rk9
                              case yk9 => (intro w hSw; obtain ⟨⟨_, _, _, _, _⟩, ⟨_, _, _, _, _⟩⟩ := hSw; (go_simp; with_reducible rfl))
                              simp only [Act.put, lyA, lyB, lyC, lyD, lyE, lyF]
                              refine K_free 10 (v := ?vk10) rfl (by kernel_rfl) (by kernel_rfl) (by kernel_rfl) (by kernel_rfl) (fun _ _ _ h => h) (Or.inl ⟨by rfl, ?yk10⟩) (Or.inr I0) ?rk10
                              case yk10 => (intro w h; have := h; go_simp; with_reducible rfl)
                              simp only [Act.put, lyA, lyB, lyC, lyD, lyE, lyF]
                              refine K_free 11 (v := ?vk11) rfl (by kernel_rfl) (by kernel_rfl) (by kernel_rfl) (by kernel_rfl) (fun _ _ _ h => h) (Or.inl ⟨by rfl, ?yk11⟩) (Or.inr I0) ?rk11
                              case yk11 => (intro w h; have := h; go_simp; with_reducible rfl)
                              simp only [Act.put, lyA, lyB, lyC, lyD, lyE, lyF]
                              refine K_free 12 (v := ?vk12) rfl (by kernel_rfl) (by kernel_rfl) (by kernel_rfl) (by kernel_rfl) (fun _ _ _ h => h) (Or.inl ⟨by rfl, ?yk12⟩) (Or.inr I0) ?rk12
                              case yk12 => (intro w h; have := h; go_simp; with_reducible rfl)
                              simp only [Act.put, lyA, lyB, lyC, lyD, lyE, lyF]
                              refine K_take 13 (v := ?vk13) rfl (by kernel_rfl) (by kernel_rfl) (by kernel_rfl) (by kernel_rfl) (by kernel_rfl) (by kernel_rfl) (fun _ _ _ h => h) (Or.inl ⟨by rfl, ?yk13⟩) I0 ?rk13
                              case yk13 => (intro w hSw; obtain ⟨⟨_, _, _, _, _⟩, ⟨_, _, _, _, _⟩⟩ := hSw; (go_simp; with_reducible rfl))
                              simp only [Act.put, lyA, lyB, lyC, lyD, lyE, lyF]
                              refine K_free 14 (v := ?vk14) rfl (by kernel_rfl) (by kernel_rfl) (by kernel_rfl) (by kernel_rfl) (fun _ _ _ h => h) (Or.inl ⟨by rfl, ?yk14⟩) (Or.inr I0) ?rk14
                              case yk14 => (intro w h; have := h; go_simp; with_reducible rfl)
                              simp only [Act.put, lyA, lyB, lyC, lyD, lyE, lyF]
                              refine K_one 15 rfl (by kernel_rfl) (fun K hK => ?_)
                              refine step_store_mid rfl 36 _ _ rfl ae.block (b * 5) (ecl y).toArray (by rw [← ad1.out]; simp [Act.eval, Act.put]) (by simp [Act.eval, Act.put, ecl]) th1.out (by kernel_rfl) (ecl_all y) ?_
                              refine hK _ _ ⟨fun h => absurd rfl h, ?_⟩
                              clear hK K
                              simp only [Act.put, lyA, lyB, lyC, lyD, lyE, lyF]
                              refine K_free 16 (v := ?vk16) rfl (by kernel_rfl) (by kernel_rfl) (by kernel_rfl) (by kernel_rfl) (fun _ _ _ h => h) (Or.inl ⟨by rfl, ?yk16⟩) (Or.inl (by kernel_rfl)) ?rk16
                              case yk16 => (intro w h; have := h; go_simp; with_reducible rfl)
                              simp only [Act.put, lyA, lyB, lyC, lyD, lyE, lyF]
                              refine K_one 17 rfl (by kernel_rfl) (fun K hK => ?_)
                              refine step_store_mid rfl 36 _ _ rfl ae.block (c * 5) (ecl x).toArray (by rw [← ad2.out]; simp [Act.eval, Act.put]) (by simp [Act.eval, Act.put, ecl]) th2.out (by kernel_rfl) (ecl_all x) ?_
                              refine hK _ _ ⟨fun _ h => absurd h (by decide), ?_⟩
                              clear hK K
                              simp only [Act.put, lyA, lyB, lyC, lyD, lyE, lyF]
                              refine K_done (by kernel_rfl) (OnlyOn.normal ?_)
                              have hI3 := hid hIs.out.1
                              clear th1 th2 ad1 ad2 hIs I0
                              obtain ⟨W3, hW3⟩ : ∃ W3, W3 = (W.setCells ae.block (b * 5) (ecl y)).setCells ae.block (c * 5) (ecl x) := ⟨_, rfl⟩
                              rw [← hW3] at hT3
                              rw [show (W.setCells ae.block (b * 5) (ecl y).toArray.toList).setCells ae.block (c * 5) (ecl x).toArray.toList = W3 from hW3.symm]
                              clear hW3
                              generalize (es.set b y).set c x = es3 at *
                              go_wp2_with fail
                              go_roundw
                              case rel => exact ⟨c, es3, by have := hc.out; omega, by go_num, hls, hT3, hI3, hSp2⟩
                              case measure => have := hc.out; simp [intOf]; omega
                            | false =>
                              have hSo2 : Hid (So (es.map Et.te) (a + 1)) := hlv.out (of_decide_eq_false hBd.out.symm)
                              clear hcl hbc hsw hIs hls hst hlv I1 hSp
                              go_wp2_with fail
                              go_roundw
                              case rel => exact ⟨a + 1, es, by omega, .inl (by omega), by go_num, hN, hT, hI, hSo2⟩
                              case measure => simp [intOf]; omega
                      · have hSoN : So (es.map Et.te) es.length := fun u v h1 h2 => hSo.out u v h1 (by have := hN.out; omega)
                        have hdn := hid (hI.out.done hT.out.ta.sr hSoN)
                        have hLn : Hid (L.length = N) := hI.out.len.trans hN.out
                        have mv := Rd.max (Rd.of_own (hT.out.ownN hN.out))
                        have hr5 := hid (fun k (hk : k < N) (e : ∃ ae, Av = some ae) => e)
                        clear hSoN hSo
                        obtain ⟨wq, hwq⟩ : ∃ wq : World, wq = wr := ⟨_, rfl⟩
                        subst hwq
                        go_wp2_with fail
                        go_loopw [20, 21, 22] (fun kv rv i wr => ∃ (a : Nat) (ks : List ByteArray) (ns : List Int), a ≤ N ∧ i = .int .i64 a ∧ Hid (ks = (es.take a).map Et.key) ∧ Hid (ns = (es.take a).map Et.no) ∧ Hid (KR wq wr kv rv ks ns)) (fun _ _ i _ => N - (intOf i).toNat)
                        case atStart => exact ⟨0, [], [], Nat.zero_le _, rfl, rfl, rfl, KR.start _⟩
                        case round =>
                          obtain ⟨a, ks, ns, haN, rfl, hks, hns, hKR⟩ := hrel
                          by_cases hlt : a < N
                          · have hlti : (a : Int) < (N : Int) := by omega
                            obtain ⟨ae, rfl, -⟩ := (Rd.of_own (hT.out.ownN hN.out)).2.2.2 (by omega)
                            have hal : a < es.length := by rw [hN.out]; exact hlt
                            have hcl : Hid (∀ w', Ext wq w' → w'.cell? ⟨(ae.add (a * 5)).block, (ae.add (a * 5)).off + 3, none⟩ = some (.string (eth es a).key) ∧ w'.cell? ⟨(ae.add (a * 5)).block, (ae.add (a * 5)).off + 4, none⟩ = some (.int .i64 (eth es a).no)) := fun w' hx => by
                              have h5 := own_five (hT.out.ownN hN.out) hal
                              exact ⟨hx.cell h5.2.2.2.1, hx.cell h5.2.2.2.2⟩
                            have hk2 : Hid ((es.take (a + 1)).map Et.key = ks ++ [(eth es a).key]) := by unfold Hid; rw [List.take_add_one, List.getElem?_eq_getElem hal, List.map_append, hks.out, eth_get hal]; rfl
                            have hn2 : Hid ((es.take (a + 1)).map Et.no = ns ++ [(eth es a).no]) := by unfold Hid; rw [List.take_add_one, List.getElem?_eq_getElem hal, List.map_append, hns.out, eth_get hal]; rfl
                            have hl1 : ks.length = a := by rw [hks.out, List.length_map, List.length_take]; omega
                            have hl2 : ns.length = a := by rw [hns.out, List.length_map, List.length_take]; omega
                            generalize eth es a = x at *
                            obtain ⟨z3, z4⟩ := hcl.out wr hKR.out.up
                            obtain ⟨A1, d1, rfl, -⟩ := own_form hKR.out.hk
                            obtain ⟨A2, d2, rfl, -⟩ := own_form hKR.out.hr
                            have hKRa := hKR.out.ext ((Ext.refl wr).alloc_right (.cells #[.string x.key] 9))
                            obtain ⟨B1, g1, w1, happ1, hKR1, -⟩ := hKRa.appK (A := some ⟨wr.heap.size, 0, none⟩) (m := 1) (c := 1) (es := [x.key]) (rd_new1 wr (.string x.key) 9) (by omega) 38
                            have hKRb := hKR1.ext ((Ext.refl w1).alloc_right (.cells #[.int .i64 x.no] 3))
                            obtain ⟨B2, g2, w2, happ2, hKR2, -⟩ := hKRb.appR (A := some ⟨w1.heap.size, 0, none⟩) (m := 1) (c := 1) (es := [x.no]) (rd_new1 w1 (.int .i64 x.no) 3) (by omega) 23
                            have y4 := hid (hcl.out w1 hKR1.up).2
                            replace happ1 := hid happ1
                            replace happ2 := hid happ2
                            replace hKR2 := hid hKR2
                            clear hal hl1 hl2 hks hns hKR hKRa hKRb hKR1 hcl
                            generalize hk9 : ks ++ [x.key] = ks1 at *
                            generalize hn9 : ns ++ [x.no] = ns1 at *
                            clear hk9 hn9
                            go_upto_region 44 with (at_builtin; refine wpList_app rfl _ _ 38 38 rfl _ _ rfl rfl _ happ1.out ?_)
                            clear happ1 z3 z4
                            have z4 := y4.out
                            go_wp2_with (at_builtin; refine wpList_app rfl _ _ 23 23 rfl _ _ rfl rfl _ happ2.out ?_)
                            clear happ2 z4
                            go_wp2_with fail
                            go_roundw
                            case rel => exact ⟨a + 1, ks1, ns1, by omega, by go_num, hk2.out.symm, hn2.out.symm, hKR2⟩
                            case measure => simp [intOf]; omega
                          · obtain rfl : a = N := by omega
                            obtain ⟨A1, d1, rfl, hk1⟩ := own_rd hKR.out.hk
                            obtain ⟨A2, d2, rfl, hk2⟩ := own_rd hKR.out.hr
                            have e0 : es.take a = es := List.take_of_length_le (by rw [hN.out]; exact Nat.le_refl _)
                            have e1 : ks = L.map Te.key := by rw [hks.out, e0]; exact (keys_of hdn.out).1
                            have e2 : ns = L.map Te.no := by rw [hns.out, e0]; exact (keys_of hdn.out).2
                            subst e1
                            subst e2
                            rw [List.length_map] at hk1 hk2
                            have hSt := hid (sameTree_any w wr t L A1 d1 A2 d2 (hT.out.ta.ext hKR.out.up) (by have := hLn.out; omega) hk1 hk2)
                            have hKn2 := hid (fun w' (hx : Ext wr w') => hKn.out w' (hT.out.old.trans (hKR.out.up.trans hx)))
                            have hold := hid (hT.out.old.trans hKR.out.up)
                            simp only [List.length_map]
                            clear e0 hk1 hk2 hKR hks hns
                            go_wp2_with fail
                            refine hSt.out.mono ?_
                            rintro e w2 ⟨rfl, hx2⟩
                            go_wp2_with fail
                            refine (hKn2.out w2 hx2).mono ?_
                            rintro e w3 ⟨rfl, hx3⟩
                            go_wp2
                            go_ret
                            exact ⟨rfl, hold.out.trans (hx2.trans hx3)⟩
end Go.Proofs.YtjjikkhhlpikbaaGreatDoor.Ky
namespace Go.Proofs.YtjjikkhhlpikbaaGreatDoor
open Go.ChangeShapes Go.WideShapes Go.ChangeAt Go.RowKit Go.Deep
section
variable {H : Type} {enc : TypeId × Value → H} {P : Program} {w : World} {base : Nat} {spare : Nat → Bool} {held : Bool}
theorem all_mem {e : TypeId} : ∀ {l : List (DataW H)} {d : DataW H} {n : Nat}, d ∈ l → n ∈ d.weights P e → n ∈ DataW.weightsAll P e l
  | d' :: l, d, n, hd, hn => by
    rw [DataW.weightsAll, List.mem_append]
    rcases List.mem_cons.1 hd with rfl | h
    · exact .inl hn
    · exact .inr (all_mem h hn)
theorem slice_own {t e : TypeId} (ht : P.underlying t = some (.slice e)) (l s : List (DataW H)) : (l.length + s.length) * P.bytesOf e ∈ (DataW.slice l s).weights P t := by
  rw [DataW.weights, ht]
  exact List.mem_cons_self
theorem slice_mem {t e : TypeId} (ht : P.underlying t = some (.slice e)) {l s : List (DataW H)} {d : DataW H} {n : Nat} (hd : d ∈ l) (hn : n ∈ d.weights P e) : n ∈ (DataW.slice l s).weights P t := by
  rw [DataW.weights, ht]
  exact List.mem_cons_of_mem _ (List.mem_append_left _ (all_mem hd hn))
theorem each_mem {t : TypeId} {fs : Array Field} (ht : P.underlying t = some (.struct fs)) {l : List (DataW H)} {j : Nat} {f : Field} {d : DataW H} {n : Nat} (hf : fs[j]? = some f) (hd : l[j]? = some d) (hn : n ∈ d.weights P f.type) : n ∈ (DataW.agg l).weights P t := by
  rw [DataW.weights, ht]
  exact DataW.weights_mem_each (by rw [List.getElem?_map, Array.getElem?_toList, hf]; rfl) hd n hn
theorem slice_fields {t e : TypeId} {fs : Array Field} {fuel : Nat} {cs : List Value} {x : DataW H × List MemPlace} (ht : P.underlying t = some (.slice e)) (he : P.underlying e = some (.struct fs))
    (hone : oneCellFields P fs = true) (hC : P.cellsOf e = fs.size) (h : DataW.trod enc P w base spare held fuel t cs = some x) :
    (cs = [.slice none 0 0]) ∨
    ∃ (a : Addr) (len cap : Nat) (D : Nat → DataW H) (sp : List (DataW H)), cs = [.slice (some a) len cap] ∧ len ≤ cap ∧ cap ≤ maxLen ∧ x.1 = .slice ((List.range len).map D) sp ∧
      ∀ i, i < len → ∃ (ys : List (DataW H × List MemPlace)) (n : Nat), D i = .agg (ys.map (·.1)) ∧
        ∀ (j : Nat) (f : Field), fs[j]? = some f → ∃ (v : Value) (y : DataW H × List MemPlace), w.cell? (a.add (i * fs.size + j)) = some v ∧ ys[j]? = some y ∧ DataW.trod enc P w base spare held n f.type [v] = some y := by
  rcases open_slice ht h with ⟨h0, _⟩ | ⟨a, len, cap, m, n, D, Pl, hcs, hb, hl, hm, hmm, hx, hi⟩
  · exact .inl h0
  · have hlm : len ≤ m := by rw [hmm]; split <;> omega
    refine .inr ⟨a, len, cap, D, _, hcs, hl, hm, congrArg Prod.fst hx, fun i him => ?_⟩
    obtain ⟨cs', hc, ht'⟩ := hi i (by omega)
    rw [hC] at hc
    obtain ⟨ys, n', hn', hy, hlen, hyl, hf⟩ := DataW.trod_struct he ht'
    obtain ⟨_, hcl, hat⟩ := World.cells?_some hc
    simp only [Prod.mk.injEq] at hy
    refine ⟨ys, n', hy.1, fun j f hj => ?_⟩
    obtain ⟨ho, hk⟩ := hone_of hone j f hj
    have hjl : j < fs.size := (Array.getElem?_eq_some_iff.1 hj).1
    have hcell := hat j hjl
    have hv : cs'[j]? = some (cs'[j]'(by omega)) := List.getElem?_eq_getElem (by omega)
    have h1 := hf j f hj
    rw [ho, hk] at h1
    have hone' : (cs'.drop j).take 1 = [cs'[j]'(by omega)] := by
      rw [List.drop_eq_getElem_cons (by omega)]
      rfl
    rw [hone'] at h1
    have hys : ys[j]? = some (ys[j]'(by omega)) := List.getElem?_eq_getElem (by omega)
    refine ⟨_, _, ?_, hys, h1.trans hys⟩
    rw [← Go.Deep.add_add, hcell, hv]
theorem slice_ones {t e : TypeId} {fuel : Nat} {cs : List Value} {x : DataW H × List MemPlace} (ht : P.underlying t = some (.slice e)) (hC : P.cellsOf e = 1) (h : DataW.trod enc P w base spare held fuel t cs = some x) :
    (cs = [.slice none 0 0]) ∨
    ∃ (a : Addr) (len cap n : Nat) (D : Nat → DataW H) (sp : List (DataW H)), cs = [.slice (some a) len cap] ∧ len ≤ cap ∧ cap ≤ maxLen ∧ x.1 = .slice ((List.range len).map D) sp ∧
      ∀ i, i < len → ∃ (v : Value) (y : List MemPlace), w.cell? (a.add i) = some v ∧ DataW.trod enc P w base spare held n e [v] = some (D i, y) := by
  rcases open_slice ht h with ⟨h0, _⟩ | ⟨a, len, cap, m, n, D, Pl, hcs, hb, hl, hm, hmm, hx, hi⟩
  · exact .inl h0
  · have hlm : len ≤ m := by rw [hmm]; split <;> omega
    refine .inr ⟨a, len, cap, n, D, _, hcs, hl, hm, congrArg Prod.fst hx, fun i him => ?_⟩
    obtain ⟨cs', hc, ht'⟩ := hi i (by omega)
    rw [hC] at hc
    obtain ⟨_, hcl, hat⟩ := World.cells?_some hc
    match cs', hcl with
    | [v], _ =>
      refine ⟨v, Pl i, ?_, ht'⟩
      have := hat 0 (by omega)
      rw [Nat.mul_one, Go.Deep.add_add, Nat.add_zero] at this
      exact this
end
theorem choose_list {α : Type} {n : Nat} {Q : Nat → α → Prop} (h : ∀ i, i < n → ∃ a, Q i a) : ∃ l : List α, l.length = n ∧ ∀ i a, l[i]? = some a → Q i a := by
  induction n with
  | zero => exact ⟨[], rfl, fun i a e => by simp at e⟩
  | succ n ih =>
    obtain ⟨l, hl, hq⟩ := ih fun i hi => h i (by omega)
    obtain ⟨a, ha⟩ := h n (by omega)
    refine ⟨l ++ [a], by simp [hl], fun i b e => ?_⟩
    by_cases hi : i < n
    · rw [List.getElem?_append_left (by omega)] at e
      exact hq i b e
    · by_cases hn : i = n
      · subst hn
        rw [List.getElem?_append_right (by omega), hl, Nat.sub_self] at e
        obtain rfl : a = b := by simpa using e
        exact ha
      · rw [List.getElem?_eq_none (by simp; omega)] at e
        cases e
def RdS (w : World) (A : Option Addr) (n c : Nat) (l : List ByteArray) : Prop := Rd w 1 A n c (strv l)
section
variable {H : Type} {enc : TypeId × Value → H} {w : World} {base : Nat} {spare : Nat → Bool} {held : Bool} {fuel : Nat} {cs : List Value} {x : DataW H × List MemPlace}
theorem strs_read (h : DataW.trod enc Tryz.prog w base spare held fuel 38 cs = some x) : ∃ (A : Option Addr) (n c : Nat) (l : List ByteArray), cs = [.slice A n c] ∧ RdS w A n c l := by
  rcases slice_ones Tryz.underlying38 (by kernel_rfl) h with rfl | ⟨a, len, cap, n, D, sp, rfl, hl, hm, hx, hi⟩
  · exact ⟨none, 0, 0, [], rfl, Rd.none_ w 1⟩
  · obtain ⟨l, hll, hq⟩ := choose_list (n := len) (Q := fun i (b : ByteArray) => w.cell? (a.add i) = some (.string b)) (fun i hi' => by
      obtain ⟨v, y, hc, ht⟩ := hi i hi'
      obtain ⟨b, e, _, hw⟩ := DataW.trod_string Tryz.underlying9 ht
      simp only [List.cons.injEq, and_true] at e
      subst e
      exact ⟨b, hc⟩)
    refine ⟨some a, len, cap, l, rfl, by rw [strv_len, hll, Nat.mul_one], hl, hm, fun _ => ⟨a, rfl, fun j u hu => ?_⟩⟩
    unfold strv at hu
    rw [List.getElem?_map] at hu
    cases hb : l[j]? with
    | none => rw [hb] at hu; cases hu
    | some b => rw [hb] at hu; obtain rfl := Option.some.inj hu; exact hq j b hb
theorem ints_read (h : DataW.trod enc Tryz.prog w base spare held fuel 23 cs = some x) : ∃ (A : Option Addr) (n c : Nat) (l : List Int), cs = [.slice A n c] ∧ RdI w A n c l := by
  rcases slice_ones Tryz.underlying23 (by kernel_rfl) h with rfl | ⟨a, len, cap, n, D, sp, rfl, hl, hm, hx, hi⟩
  · exact ⟨none, 0, 0, [], rfl, Rd.none_ w 1⟩
  · obtain ⟨l, hll, hq⟩ := choose_list (n := len) (Q := fun i (b : Int) => w.cell? (a.add i) = some (.int .i64 b)) (fun i hi' => by
      obtain ⟨v, y, hc, ht⟩ := hi i hi'
      obtain ⟨b, e, _, hw⟩ := DataW.trod_int Tryz.underlying3 ht
      simp only [List.cons.injEq, and_true] at e
      subst e
      exact ⟨b, hc⟩)
    refine ⟨some a, len, cap, l, rfl, by simp [ints, hll], hl, hm, fun _ => ⟨a, rfl, fun j u hu => ?_⟩⟩
    unfold ints at hu
    rw [List.getElem?_map] at hu
    cases hb : l[j]? with
    | none => rw [hb] at hu; cases hu
    | some b => rw [hb] at hu; obtain rfl := Option.some.inj hu; exact hq j b hb
end
variable {H : Type} {enc : TypeId × Value → H}
theorem handed_shaped {a : Assume} {C : Checked} {os : Os} {f : FuncId} {fn : Func} {s : ChangeSpec} {conds : List PathCond} {apart fresh handsOn again : Bool} {X : World → Array Value → Prop}
    (hX : ∀ (w w' : World) (args : Array Value), w.heap = w'.heap → X w args → X w' args)
    (own : ownKnob C.prog.godebug = none) (started : os.Started) (noInit : C.prog.inits.idxOf? f = none) (hfn : C.prog.funcs[f]? = some fn)
    (witness : ∃ (w : World) (tape : Tape) (i : Input), w.os = os ∧ (w.forCall tape i).Shaped C.prog ∧ i.vars = [] ∧ Input.okWide C.prog (w.forCall tape i) .any w.heap.size f i ∧
      ((s.pre enc C.prog fn conds apart (w.forCall tape i).memory i.args ∧ X (w.forCall tape i).memory i.args) ∧ sizedMet enc C.prog fn (OpenSpec.ofChange s) apart (w.forCall tape i).memory i.args) ∧ a.holds C.prog (lone (Frame.enter C.prog f i.args .normal) [] (w.forCall tape i)))
    (contract : ∀ (W : World) (base : Nat) (args : Array Value) (ds gs : List (DataW H)) (before : List MemPlace),
      W.ShapedOpen C.prog →
      (∀ (j : Nat) t v, fn.params[j]? = some t → args[j]? = some v → Value.okWide C.prog W .any base t v) →
      DataW.Whole enc C.prog fn.params.toList s.vars apart W args.toList ds gs before →
      (DataW.weightsEach C.prog (fn.params.toList ++ s.plain.varTypes C.prog) (ds ++ gs)).all (· ≤ reachBytes) = true →
      X W args →
      Calls C.prog f args W fun e W' => ∃ v, e = .returned v ∧ s.post enc C.prog fn apart fresh handsOn again W args v W') :
    ReturnsInHanded a C os f .any (fun w args => (s.pre enc C.prog fn conds apart w args ∧ X w args) ∧ sizedMet enc C.prog fn (OpenSpec.ofChange s) apart w args) (s.post enc C.prog fn apart fresh handsOn again) := by
  refine returnsInHanded_of_calls own started noInit witness ?_
  intro w tape i _ hsh _ hok hpre hholds
  obtain ⟨_, _, _, fn', hfn', _, _, _, _, hval⟩ := hok
  obtain rfl : fn' = fn := Option.some.inj (hfn'.symm.trans hfn)
  obtain ⟨⟨⟨ds, gs, before, hw, hc⟩, hx⟩, hz⟩ := hpre
  refine (contract (w.forCall tape i) w.heap.size i.args ds gs before hsh hval (DataW.Whole.of_heap (w' := w.forCall tape i) (by rfl) hw) (hz.weights hw) (hX _ _ _ (by rfl) hx)).mono fun e W' ⟨v, he, hp⟩ => ?_
  subst he
  exact ChangeSpec.post_blind hp
theorem weigh {P : Program} {ts : List TypeId} {ds : List (DataW H)} (h : (DataW.weightsEach P ts ds).all (· ≤ reachBytes) = true) {j : Nat} {t : TypeId} {d : DataW H} (ht : ts[j]? = some t) (hd : ds[j]? = some d) {n : Nat} (hn : n ∈ d.weights P t) : n ≤ 140737488351232 := by
  have := of_decide_eq_true (List.all_eq_true.1 h n (DataW.weights_mem_each ht hd n hn))
  exact this
end Go.Proofs.YtjjikkhhlpikbaaGreatDoor
namespace Go.Proofs.YtjjikkhhlpikbaaGreatDoor.Ky
open Go.RowKit
theorem top_ml {w : World} (h : w.ShapedOpen Tryz.prog) : ML w := ml_cell h
end Go.Proofs.YtjjikkhhlpikbaaGreatDoor.Ky
