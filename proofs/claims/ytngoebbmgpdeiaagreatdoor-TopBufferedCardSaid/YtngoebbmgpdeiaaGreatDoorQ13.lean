/-
  A desk: a buffer is stored; A desk: a record is gone to; a buffer is stored; A desk: a record is locked; A desk: what an alteration does with its memory. No function of the program in sight; A desk: what is done to a record; A desk: what its user sees; a row is left; a record is gone to; a buffer is stored; Files with a write done; the log keeps a write; Three machines side by side: none turns another's memory. No function of the program in sight.
-/
import Derived.Test.YtngoebbmgpdeiaaGreatDoorQ12
import Derived.Test.YtngoebbmgpdeiaaGreatDoorQ7
import Derived.Test.YtngoebbmgpdeiaaGreatDoorQ8
import Derived.Test.YtngoebbmgpdeiaaGreatDoorQ11
set_option maxRecDepth 100000
set_option maxHeartbeats 40000000
set_option linter.unusedVariables false
set_option linter.unusedSimpArgs false
namespace Go.Proofs.YtngoebbmgpdeiaaGreatDoor
open Go.RowKit Go.Shelf Go.MuLone
def StoreTo (w w' : World) (lo b : Nat) (s p : Int) (fs : List Fd) (rs : List Rc) (mode : Int) (M : Dm) : Prop :=
  ∃ at' M', DeskI w' lo b s p fs rs rs [] mode at' M' ∧ 0 ≤ at' ∧ M'.ch = [] ∧ Mv w w' (DeskF M) ∧ ∀ k, DeskF M' k → DeskF M k ∨ w.heap.size ≤ k
theorem store_fin {lo b : Nat} {s p : Int} {fs : List Fd} {rs vb ra R : List Rc} {mode at_ at' : Int} {M : Dm} {w wr w' : World} {u : Tt} {bm' : Nat} (H : DeskI w lo b s p fs rs vb ra mode at_ M) (hU : OwTt wr lo fs.length fs R u) (hF : ∀ q, u.F q → M.t.F q ∨ (∃ i, i < ra.length ∧ rb (rrth M.pr i) = q) ∨ w.heap.size ≤ q)
    (hm : Mv w wr (DeskF M)) (ha : 0 ≤ at') (hb : Bk w' b (deskC s p mode at' { M with t := u, bm := bm', pA := none, pn := 0, pc := 0 }) 93) (hl : IsMap keyI w' M.bl []) (hbm : IsMap keyI w' bm' []) (h1 : wr.heap.size ≤ bm') (h2 : bm' < w'.heap.size) (hm2 : Mv wr w' (fun k => k = b ∨ k = M.bl)) :
    StoreTo w w' lo b s p fs R mode M := by
  have hno : ∀ k g, M.τ k = g → g ≠ .tab → g ≠ .app → g ≠ .no → ¬ u.F k := fun k g e a1 a2 a3 hk => by
    rcases hF k hk with f | ⟨i, hi, f⟩ | f
    · exact a1 (by rw [← e, H.tt k f])
    · exact a2 (by rw [← e, ← f, H.ta _ (.inr ⟨i, by have := H.pl.1; omega, rfl⟩)])
    · have := (H.bd k (by rw [e]; exact a3)).2; omega
  have ub := hno b _ H.td (by simp) (by simp) (by simp)
  have ul := hno M.bl _ H.tl (by simp) (by simp) (by simp)
  have hbl := H.bk.lt
  have hll := H.lm.lt
  have hs := hm.size
  have hlo := (H.bd b (by rw [H.td]; simp)).1
  have hlo2 := (H.bd M.bl (by rw [H.tl]; simp)).1
  refine ⟨at', _, DeskI.none (M := M) hb (hU.keep (fun k hk => hm2.at (hU.lt hk).2 (fun e => e.elim (fun e => ub (e ▸ hk)) (fun e => ul (e ▸ hk))))) hbm hl (by omega) (fun e => ?_) (by omega) ub (fun hk => by have := (hU.lt hk).2; omega) ul ⟨hlo, by omega, hlo2⟩, ha, rfl, hm.trans hm2 (fun k hk => .inl ?_), fun k hk => ?_⟩
  · have h3 := H.td; rw [e, H.tl] at h3; cases h3
  · unfold DeskF
    rcases hk with rfl | rfl
    · rw [H.td]; simp
    · rw [H.tl]; simp
  · unfold DeskF
    rcases tagN_F hk with e | e | e | e
    · left; rw [e, H.td]; simp
    · right; omega
    · left; rw [e, H.tl]; simp
    · rcases hF k e with f | ⟨i, hi, f⟩ | f
      · left; rw [H.tt k f]; simp
      · left; rw [← f, H.ta _ (.inr ⟨i, by have := H.pl.1; omega, rfl⟩)]; simp
      · right; exact f
section
variable {lo b : Nat} {s p : Int} {fs : List Fd} {rs vb ra : List Rc} {mode at_ : Int} {M : Dm}
theorem store_any (w : World) (H : DeskI w lo b s p fs rs vb ra mode at_ M) (hl : rs.length + ra.length ≤ 300) (hf : 0 < fs.length ∧ fs.length ≤ 16) (hat : -(ra.length : Int) ≤ at_) : Calls Tryz.prog 51 #[.pointer (some ⟨b, 0, none⟩), .int .i64 0, .pointer (some ⟨b, 5, none⟩), .bool false] w fun e w' =>
    ∃ v, e = .returned (.tuple #[v, .int .i64 0]) ∧ StoreTo w w' lo b s p fs (vb ++ ra) mode M := by
  have hcl := hid (clashing_any w H (by omega) (by have := H.chlen; omega) hf.2)
  have hlen := hid H.len
  have H := hid H
  go_enter Tryz.func51, Tryz.ntmps51
  go_wp2_with fail
  refine hcl.out.mono ?_
  rintro e w2 ⟨rfl, hx2⟩
  have hx2 := hid hx2
  clear hcl
  obtain ⟨w3, hrun, ⟨cnt, hR⟩, hx3⟩ := ((H.out.ext hx2.out).cm).range (t := 88) Tryz.underlying88
  obtain ⟨a0, a2, a3, a4, a5, a6, a7, a8, a21⟩ := (H.out.ext hx2.out).c
  obtain ⟨r, hr0⟩ : ∃ r, r = w2.heap.size := ⟨_, rfl⟩
  rw [← hr0] at hrun hR
  have hrb := hid (show w.heap.size ≤ r from by have := hx2.out.size; omega)
  have hR := hid hR
  have hx := hid (hx2.out.trans hx3)
  clear hr0 hx2 hx3
  go_wp2_with fail
  clear hrun a0 a2 a3 a4 a5 a6 a7 a8 a21
  go_loopw [] (fun wr => ∃ (D : Int → Bool) (cnt : Nat), Hid (Ranging keyI wr M.bm r (chK M.ch) D cnt) ∧ Hid (Ext w wr)) (fun wr => leftW wr r)
  case atStart => exact ⟨_, cnt, hR, hx⟩
  case round =>
    clear hR hx
    obtain ⟨D, cnt', hR, hx⟩ := hrel
    have H3 := hid (H.out.ext hx.out)
    have hlm := hR.out.left
    have hRm := hR.out.map.lt
    have hrl := hR.out.rlt
    rcases hR.out.next 0 with ⟨hall, hnx⟩ | ⟨k, v, w5, cnt5, hkv, hDk, hnx, hR5, hlt5, hg5, hs5, hen⟩
    · clear hR hall
      obtain ⟨w6, hrun, ⟨cnt6, hR6⟩, hx6⟩ := H3.out.cm.range (t := 88) Tryz.underlying88
      obtain ⟨a0, a2, a3, a4, a5, a6, a7, a8, a21⟩ := H3.out.c
      obtain ⟨r2, hr0⟩ : ∃ r2, r2 = wr.heap.size := ⟨_, rfl⟩
      rw [← hr0] at hrun hR6
      have hrb2 := hid (show w.heap.size ≤ r2 from by have := hx.out.size; omega)
      have hR6 := hid hR6
      have H6 := hid (H3.out.ext hx6)
      have hx := hid (hx.out.trans hx6)
      have hr2 := hid (show r2 < w6.heap.size from hR6.out.rlt)
      clear hr0 hx6 H3 hlm hRm hrl
      go_wp2_with fail
      clear hrun a0 a2 a3 a4 a5 a6 a7 a8 a21 hnx
      have tg : Hid ((∀ k, M.t.F k → M.τ k = .tab) ∧ M.τ b = .desk ∧ M.τ M.bm = .chm ∧ M.τ M.bl = .lck ∧ (∀ k, apF M k → M.τ k = .app) ∧ ∀ e ∈ M.ch, M.τ (rb e.2.1) = .old e.1 ∧ M.τ (rb e.2.2) = .now e.1) := hid ⟨H6.out.tt, H6.out.td, H6.out.tc, H6.out.tl, H6.out.ta, H6.out.tv⟩
      have hnF := hid (fun (k : Nat) (g : Tg) (e1 : M.τ k = g) (hg : g ≠ .tab) (hg2 : g ≠ .no) => (show ¬ (M.t.F k ∨ k = r2) from fun hF => hF.elim (fun hF => hg (by rw [← e1, tg.out.1 k hF])) (fun e => by
        have := (H.out.bd k (by rw [e1]; exact hg2)).2
        have := hrb2.out
        omega)))
      have hFr := hid (show ¬ M.t.F r2 from fun hF => by have := (H.out.ow.lt hF).2; have := hrb2.out; omega)
      have hFlt := hid (fun (k : Nat) (hF : M.t.F k) => (H.out.ow.lt hF).2)
      have hst : Hid (∃ u, OwTt w6 lo fs.length fs (mixR (fun _ => false) rs vb) u ∧ LkT M.t u) := hid ⟨M.t, by rw [mixR_none (fun _ => rfl)]; exact H6.out.ow, LkT.refl _⟩
      go_loopw [] (fun wr => ∃ (D : Int → Bool) (cnt : Nat), Hid (Ranging keyI wr M.bm r2 (chK M.ch) D cnt) ∧ Hid (∃ u, OwTt wr lo fs.length fs (mixR D rs vb) u ∧ LkT M.t u) ∧ Hid (Mv w6 wr (fun k => M.t.F k ∨ k = r2))) (fun wr => leftW wr r2)
      case atStart => exact ⟨_, cnt6, hR6, hst, Mv.refl⟩
      case round =>
        clear hR6 hst
        obtain ⟨D, cnt', hR, hU, hM⟩ := hrel
        have hlm := hR.out.left
        have hRm := hR.out.map.lt
        have hrl := hR.out.rlt
        rcases hR.out.next 0 with ⟨hall, hnx⟩ | ⟨k, v, w5, cnt5, hkv, hDk, hnx, hR5, hlt5, hg5, hs5, hen⟩
        · have hmx : mixR D rs vb = vb := mixR_all hlen.out (fun i hi => by
            by_cases q : ∃ e ∈ M.ch, e.1 = (i : Int) + 1
            · obtain ⟨e, he, e1⟩ := q
              exact .inl (by rw [← e1]; exact hall (e.1, chV e.2.1 e.2.2) (List.mem_map.2 ⟨e, he, rfl⟩))
            · exact .inr (H.out.un i hi (fun e he h => q ⟨e, he, h⟩)))
          rw [hmx] at hU
          have hcm := hid hR.out.map
          clear hR hall hmx
          obtain ⟨u, hU1, hU2⟩ := hU.out
          have hU1 := hid hU1
          have hU2 := hid hU2
          clear hU
          have hbk : Hid (Bk wr b (deskC s p mode at_ M) 93) := hid (H6.out.bk.keep (hM.out.at H6.out.bk.lt (hnF.out b _ tg.out.2.1 (by simp) (by simp))))
          obtain ⟨a8, ap⟩ : wr.cell? ⟨b, 8, none⟩ = some (.slice M.pA ra.length M.pc) ∧ True := ⟨by rw [← H.out.pl.2]; exact hbk.out.at rfl, trivial⟩
          have hap : Hid (OwR wr lo fs.length (.slice M.pA M.pn M.pc) M.pr ra ra.length) := hid (H6.out.ap.keep (fun g hg => hM.out.at (H6.out.ap.1.lt g hg).2 (hnF.out g _ (tg.out.2.2.2.2.1 g (.inl hg)) (by simp) (by simp))) (fun i hi => hM.out.at (H6.out.ap.2.1 i hi).lt.2 (hnF.out _ _ (tg.out.2.2.2.2.1 _ (.inr ⟨i, by have := H.out.pl.1; omega, rfl⟩)) (by simp) (by simp))))
          have hpl := hid H.out.pl
          have hws := hid (show w.heap.size ≤ wr.heap.size from Nat.le_trans hx.out.size hM.out.size)
          have hbl9 := hid (H.out.bk.lt)
          have hlo9 := hid (show ∀ k, M.τ k ≠ .no → lo ≤ k ∧ k < w.heap.size from H.out.bd)
          have hnp : Hid (∀ k g, M.τ k = g → g ≠ .app → g ≠ .no → ∀ i, i < ra.length → rb (rrth M.pr i) ≠ k) := hid (fun k g a b c i hi e => b (by rw [← a, ← e]; exact tg.out.2.2.2.2.1 _ (.inr ⟨i, by have := hpl.out.1; omega, rfl⟩)))
          have hst : Hid (OwTt wr lo fs.length fs (vb ++ ra.take 0) u) := hid (by rw [List.take_zero, List.append_nil]; exact hU1.out)
          have hbk0 : Hid (Bk wr b (deskC s p mode at_ { M with t := u }) 93) := hid (by
            have h := hbk.out
            obtain ⟨q1, q2, q3, q4, q5, q6, -⟩ := hU2.out
            unfold deskC at h ⊢
            simp only
            rw [q1, q2, q3, q4, q5, q6]
            exact h)
          clear hU1
          go_wp2_with fail
          clear a8 ap
          generalize wr = wB at *
          go_loopw [15, 76] (fun t v wx => ∃ k : Nat, k ≤ ra.length ∧ v = .int .i64 k ∧ ∃ (A : Option Addr) (c : Nat), t = .slice A k c ∧
            Hid (∃ (u : Tt) (L : List Int), wx.ownsRow wB.heap.size 3 1 (.slice A k c) k (L.map Go.encZ) ∧ (∀ z ∈ L, 0 ≤ z) ∧ OwTt wx lo fs.length fs (vb ++ ra.take k) u ∧ Bk wx b (deskC s p mode at_ { M with t := u }) 93 ∧
              (∀ q, u.F q → M.t.F q ∨ (∃ i, i < k ∧ rb (rrth M.pr i) = q) ∨ w.heap.size ≤ q) ∧ (∀ q, (Value.slice A k c).ownBlock = some q → ¬ u.F q) ∧ (∀ q, (Value.slice u.B u.m u.d).ownBlock = some q → M.t.F q ∨ wB.heap.size ≤ q) ∧ Mv wB wx (fun q => q = b ∨ M.t.F q))) (fun _ v _ => ra.length - (intOf v).toNat)
          case atStart => exact ⟨0, by omega, rfl, none, 0, rfl, u, [], World.ownsRow_nil _ _ _ _, fun z hz => (by cases hz), hst.out, hbk0.out, fun q hq => .inl (hU2.out.2.2.2.2.2.2 q hq), fun q hq => (by cases hq), fun q hq => .inl (hU2.out.2.2.2.2.2.2 q (.inr (.inl hq))), Mv.refl⟩
          case round =>
            clear hst hbk0
            obtain ⟨k, hk, rfl, A, c, rfl, hI⟩ := hrel
            obtain ⟨u, L, hout, hL, hU, hbk2, hF, hAF, hRB, hM2⟩ := hI.out
            by_cases hlt : k < ra.length
            · have hap2 : OwR wr lo fs.length (.slice M.pA M.pn M.pc) M.pr ra ra.length := hap.out.keep (fun g hg => hM2.at (hap.out.1.lt g hg).2 (fun e => by
                have h1 := tg.out.2.2.2.2.1 g (.inl hg)
                rcases e with e | e
                · rw [e, tg.out.2.1] at h1; cases h1
                · rw [tg.out.1 g e] at h1; cases h1)) (fun i hi => hM2.at (hap.out.2.1 i hi).lt.2 (fun e => by
                have h1 := tg.out.2.2.2.2.1 (rb (rrth M.pr i)) (.inr ⟨i, by have := hpl.out.1; omega, rfl⟩)
                rcases e with e | e
                · rw [e, tg.out.2.1] at h1; cases h1
                · rw [tg.out.1 _ e] at h1; cases h1))
              have hrow := hap2.1
              rw [hpl.out.1] at hrow
              have hrow2 := hrow
              rw [hpl.out.2] at hrow2
              obtain ⟨gp, ep, -, -⟩ := own_blk hrow2 (show 0 < ra.length by omega)
              obtain ⟨ad, ep2, c0, c1⟩ := rr_at (rr := M.pr) (Rd.of_own hrow2) (i := k) hlt
              have hy := hap2.2.1 k hlt
              rw [ep] at ep2
              injection ep2 with ep2
              subst ep2
              rw [lit_add0] at c0 c1
              rw [hy.1] at c0
              rw [hy.2.1] at c1
              have hum := hid (show u.m = rs.length + k from by rw [hU.2.2.2.1, List.length_append, List.length_take, hlen.out]; omega)
              have hub : ¬ u.F b := fun hFb => by
                rcases hF b hFb with e | ⟨i, hi, e⟩ | e
                · exact hnF.out b _ tg.out.2.1 (by simp) (by simp) (.inl e)
                · exact hnp.out b _ tg.out.2.1 (by simp) (by simp) i (by omega) e
                · have := hbl9.out; omega
              have hyF : ¬ u.F (rb (rrth M.pr k)) := fun hFb => by
                have h1 := tg.out.2.2.2.2.1 (rb (rrth M.pr k)) (.inr ⟨k, by have := hpl.out.1; omega, rfl⟩)
                rcases hF _ hFb with e | ⟨i, hi, e⟩ | e
                · rw [tg.out.1 _ e] at h1; cases h1
                · exact hap2.2.2.1 i k (by omega) hlt (by omega) e
                · have := (hlo9.out (rb (rrth M.pr k)) (by rw [h1]; simp)).2; omega
              obtain ⟨w3, g17, e17, h17, s17, k17, x17⟩ := newB wr [.bool (rth ra k).gone, .slice (rrth M.pr k).A fs.length (rrth M.pr k).c] 69
              have hy3 := hid (hy.keep (w' := w3) (x17.block hy.lt.2))
              have hU3 := hid (hU.ext x17)
              have hbk3 := hid (hbk2.ext x17)
              have hout3 := hid (x17.own hout)
              have hM3 := hid (hM2.ext x17)
              have hg17 := hid (show wr.heap.size = g17 from h17.out)
              have hF := hid hF
              have hAF := hid hAF
              have hL := hid hL
              have hRB := hid hRB
              have hul := hid (fun q (hq : u.F q) => (hU.lt hq).2)
              have hol := hid (fun q (hq : (Value.slice A k c).ownBlock = some q) => hout.lt q hq)
              have hyl := hid (hy.lt.2)
              have hwr := hid (show w.heap.size ≤ wr.heap.size from by have := hM2.size; have := hws.out; omega)
              have hlt2 : (k : Int) < ra.length := by omega
              have hk17 := hid k17
              have e8 : M.pA = some ⟨gp, 0, none⟩ := ep
              clear hI hout hU hbk2 hM2 hap2 hrow hrow2 hy x17 k17
              rw [ep]
              go_upto_region 17 with fail
              simp only [e17.out, h17.out]
              clear e17 h17 s17 c0 c1
              have hob := hid (fun q (hq : (Value.slice u.B u.m u.d).ownBlock = some q) => (show u.F q from .inr (.inl hq)))
              have hng : ¬ (Value.slice u.B u.m u.d).ownBlock = some g17 := fun e => by have := hul.out g17 (hob.out g17 e); have := hg17.out; omega
              have hnb : ¬ (Value.slice u.B u.m u.d).ownBlock = some b := fun e => hub (hob.out b e)
              have hO := hU3.out.ext (Ext.refl w3).drew_right
              have hyC := hid (show rcl (rrth M.pr k) = [.bool (rth ra k).gone, .slice (rrth M.pr k).A fs.length (rrth M.pr k).c] from by show [Value.bool (rrth M.pr k).g, .slice (rrth M.pr k).A (rrth M.pr k).n (rrth M.pr k).c] = _; rw [hy3.out.1, hy3.out.2.1])
              have xp : (fun w' => Mv w3 w' (fun k => (Value.slice u.B u.m u.d).ownBlock = some k)) w3.drew := (Mv.of (Ext.refl w3).drew_right)
              refine region_J (fun w' => Mv w3 w' (fun k => (Value.slice u.B u.m u.d).ownBlock = some k)) 12 (by kernel_rfl) ?_
              generalize w3.drew = dp at * 
              refine JW 0 (v := ?vp1) rfl (by kernel_rfl) rfl ?yp1 xp ?rp1
              case yp1 => (intro w hw; (go_simp; with_reducible rfl))
              simp only [Act.put, lyA, lyB, lyC, lyD, lyE, lyF]
              refine JW 1 (v := ?vp2) rfl (by kernel_rfl) rfl ?yp2 xp ?rp2
              case yp2 => (intro w hw; (go_simp; with_reducible rfl))
              simp only [Act.put, lyA, lyB, lyC, lyD, lyE, lyF]
              refine JW 2 (v := ?vp3) rfl (by kernel_rfl) rfl ?yp3 xp ?rp3
              case yp3 => (intro w hw; (go_simp; with_reducible rfl))
              simp only [Act.put, lyA, lyB, lyC, lyD, lyE, lyF]
              refine JW 3 (v := ?vp4) rfl (by kernel_rfl) rfl ?yp4 xp ?rp4
              case yp4 => (intro w hw; (go_simp; with_reducible rfl))
              simp only [Act.put, lyA, lyB, lyC, lyD, lyE, lyF]
              refine JW 4 (v := ?vp5) rfl (by kernel_rfl) rfl ?yp5 xp ?rp5
              case yp5 => (intro w hw; (go_simp; with_reducible rfl))
              simp only [Act.put, lyA, lyB, lyC, lyD, lyE, lyF]
              refine JW 5 (v := ?vp6) rfl (by kernel_rfl) rfl ?yp6 xp ?rp6
              case yp6 => (intro w hw; obtain ⟨q0, q1⟩ := (hk17.out.keep (hw.at hk17.out.lt hng)).c2; have a4 : w.cell? ⟨b, 4, none⟩ = some (.slice u.B u.m u.d) := (hbk3.out.keep (hw.at hbk3.out.lt hnb)).at rfl; (go_simp; with_reducible rfl))
              simp only [Act.put, lyA, lyB, lyC, lyD, lyE, lyF]
              refine JW 6 (v := ?vp7) rfl (by kernel_rfl) rfl ?yp7 xp ?rp7
              case yp7 => (intro w hw; obtain ⟨q0, q1⟩ := (hk17.out.keep (hw.at hk17.out.lt hng)).c2; have a4 : w.cell? ⟨b, 4, none⟩ = some (.slice u.B u.m u.d) := (hbk3.out.keep (hw.at hbk3.out.lt hnb)).at rfl; (go_simp; with_reducible rfl))
              simp only [Act.put, lyA, lyB, lyC, lyD, lyE, lyF]
              refine J_one 7 rfl (by kernel_rfl) (fun K hK => ?_)
              go_simp
              have sp8 := one_rd dp (rcl ⟨(rth ra k).gone, (rrth M.pr k).A, fs.length, (rrth M.pr k).c⟩) 69 2 rfl
              have hxp8 := Ext.new dp (.cells #[.bool (rth ra k).gone, .slice (rrth M.pr k).A fs.length (rrth M.pr k).c] 69)
              change Rd (dp.alloc (.cells #[.bool (rth ra k).gone, .slice (rrth M.pr k).A fs.length (rrth M.pr k).c] 69)) _ _ _ _ _ at sp8
              generalize dp.alloc (.cells #[.bool (rth ra k).gone, .slice (rrth M.pr k).A fs.length (rrth M.pr k).c] 69) = wp8 at *
              generalize dp.heap.size = bp8 at *
              replace hO := hO.ext hxp8
              refine hK _ _ ⟨fun _ => ((xp).ext hxp8), ?_⟩
              clear hK K
              try simp only [Act.put, lyA, lyB, lyC, lyD, lyE, lyF]
              have xp8 : (fun w' => Mv w3 w' (fun k => (Value.slice u.B u.m u.d).ownBlock = some k)) wp8 := ((xp).ext hxp8)
              refine J_one 8 rfl (by kernel_rfl) (fun K hK => ?_)
              have hr0 := hO.2.1.1
              rw [hO.2.2.1, ← hO.2.2.2.1] at hr0
              obtain ⟨Ap9, cp9, wp9, happp9, ownp9, hgp9, hgbp9⟩ := app23 wp8 lo 23 (.slice u.B u.m u.d) u.m _ hr0 _ 1 1 _ sp8 (rcl_one _) (by have := (xp8).size; have := (hlo9.out b (by rw [tg.out.2.1]; simp)); have := hbk3.out.lt; omega) (by have := hum.out; omega)
              have hyW := hy3.out.keep (w' := wp8) ((xp8).at hy3.out.lt.2 (fun e => hyF (hob.out _ e)))
              have hP := hid (OwTt.push (B' := Ap9) (d' := cp9) hO hyW hyF (by rw [hyC.out]; exact ownp9) hgp9 hgbp9)
              have hPF := hid (fun q hq => OwTt.push_F (t := u) (y := rrth M.pr k) (B' := Ap9) (d' := cp9) (u := wp8) (k := q) hgbp9 hq)
              have hws2 := (xp8).size
              replace happp9 := hid happp9
              clear hO hr0 ownp9 sp8
              refine step_run rfl _ (ex_append _ _ _ _ rfl _ _ (by simp [Act.eval, Act.put]) (by simp [Act.eval, Act.put]) _ happp9.out) ?_
              refine hK _ _ ⟨fun _ => (xp8).grown hgp9 (fun g hg => .inl hg), ?_⟩
              clear hK K
              try simp only [Act.put, lyA, lyB, lyC, lyD, lyE, lyF]
              have xp9 : (fun w' => Mv w3 w' (fun k => (Value.slice u.B u.m u.d).ownBlock = some k)) wp9 := (xp8).grown hgp9 (fun g hg => .inl hg)
              refine J_one 9 rfl (by kernel_rfl) (fun K hK => ?_)
              go_simp
              refine hK _ _ ⟨fun _ => xp9, ?_⟩
              clear hK K
              try simp only [Act.put, lyA, lyB, lyC, lyD, lyE, lyF]
              refine J_one 10 rfl (by kernel_rfl) (fun K hK => ?_)
              go_simp
              refine hK _ _ ⟨fun _ => xp9, ?_⟩
              clear hK K
              try simp only [Act.put, lyA, lyB, lyC, lyD, lyE, lyF]
              refine JW 11 (v := ?vp12) rfl (by kernel_rfl) rfl ?yp12 xp9 ?rp12
              case yp12 => (intro w hw; (go_simp; with_reducible rfl))
              simp only [Act.put, lyA, lyB, lyC, lyD, lyE, lyF]
              refine J_one 12 rfl (by kernel_rfl) (fun K hK => ?_)
              have k6 := hbk3.out.keep ((xp9).at hbk3.out.lt hnb)
              have z4 : wp9.cell? ⟨b, 4, none⟩ = some (.slice u.B u.m u.d) := k6.at rfl
              have fz := k6.free 4
              have hPa : ¬ (⟨u.A, u.n, u.c, Ap9, u.m + 1, cp9, u.rr ++ [rrth M.pr k]⟩ : Tt).F b := fun e => by
                rcases hPF.out b e with e | e | e
                · exact hub e
                · exact hnp.out b _ tg.out.2.1 (by simp) (by simp) k hlt e
                · have := hbk3.out.lt; omega
              go_simp
              refine hK _ _ ⟨fun h => absurd rfl h, ?_⟩
              clear hK K
              try simp only [Act.put, lyA, lyB, lyC, lyD, lyE, lyF]
              have k7 : Hid (Bk (wp9.setCell ⟨b, 4, none⟩ (.slice Ap9 (u.m + 1) cp9)) b (deskC s p mode at_ { M with t := ⟨u.A, u.n, u.c, Ap9, u.m + 1, cp9, u.rr ++ [rrth M.pr k]⟩ }) 93) := hid (k6.set 4 _)
              have h7 := hid (hP.out.keep (fun q hk => (setCell_at wp9 b 4 (.slice Ap9 (u.m + 1) cp9)).2 q (fun e => hPa (e ▸ hk))))
              have m7 := hid ((Mv.mono (F' := fun q => q = b ∨ (Value.slice u.B u.m u.d).ownBlock = some q) (xp9) (fun q e => .inr e)).set (g := b) (.inl (.inl rfl)) 4 (.slice Ap9 (u.m + 1) cp9))
              have hx7 := hid (xp9)
              clear k6 z4 fz hP
              refine J_done (by kernel_rfl) (OnlyOn.normal ?_)
              have hsz : w3.heap.size ≤ wp9.heap.size := hx7.out.size
              have h17s : wr.heap.size ≤ w3.heap.size := by have := hg17.out; have := hk17.out.lt; omega
              have hog := hid (fun q (hq : (Value.slice A k c).ownBlock = some q) => (show q ≠ b from fun e => by have := (hol.out q hq).1; have := hbl9.out; have := hws.out; omega))
              have hout7 := hid (own_same (w' := wp9.setCell ⟨b, 4, none⟩ (.slice Ap9 (u.m + 1) cp9)) (own_same (w' := wp9) hout3.out (fun q hq => hx7.out.at (by have := (hol.out q hq).2; omega) (fun e => hAF.out q hq (hob.out q e)))) (fun q hq => (setCell_at wp9 b 4 (.slice Ap9 (u.m + 1) cp9)).2 q (hog.out q hq)))
              have hM7 := hid (hM3.out.trans m7.out (fun q hq => by
                rcases hq with e | e
                · exact .inl (.inl e)
                · exact (hRB.out q e).imp .inr id))
              have a4 : (wp9.setCell ⟨b, 4, none⟩ (.slice Ap9 (u.m + 1) cp9)).cell? ⟨b, 4, none⟩ = some (.slice Ap9 (u.m + 1) cp9) := k7.out.at rfl
              obtain ⟨i0, hi0, hz0, hz1, hz2⟩ := info_parts info3
              generalize wp9.setCell ⟨b, 4, none⟩ (.slice Ap9 (u.m + 1) cp9) = w8 at *
              have hs78 : wr.heap.size ≤ w8.heap.size := by have := m7.out.size; omega
              have hbase : wB.heap.size ≤ w8.heap.size := hM7.out.size
              have i6 : ((u.m + 1 : Nat) : Int) = (u.m : Int) + 1 := by omega
              go_wp2_with (at_builtin; refine wpList_push _ rfl _ _ 51 rfl wB.heap.size 3 i0 _ 1 8 Tryz.underlying51 hi0 hz0 hz1 hz2 rfl (by decide) _ _ _ rfl hout7.out [.int .i64 ((u.m : Int) + 1)] rfl rfl (by intro z hz; simp at hz; subst hz; rfl) (by unfold maxLen; omega) (by omega) hbase ?_)
              intro g5 cap5 w9 ho9 hg9 hgb9
              have hu8 : ∀ q, (⟨u.A, u.n, u.c, Ap9, u.m + 1, cp9, u.rr ++ [rrth M.pr k]⟩ : Tt).F q → (Value.slice A k c).ownBlock ≠ some q := fun q hq e => by
                have h1 := hol.out q e
                rcases hPF.out q hq with f | f | f
                · exact hAF.out q e f
                · have h2 := hyl.out; rw [f] at h2
                  have h3 := (hlo9.out q (by rw [← f, tg.out.2.2.2.2.1 _ (.inr ⟨k, by have := hpl.out.1; omega, rfl⟩)]; simp)).2
                  have := hws.out; omega
                · omega
              have ht9 : vb ++ ra.take k ++ [rth ra k] = vb ++ ra.take (k + 1) := by rw [List.append_assoc, ← take_snoc hlt]
              have hU9 := h7.out.keep (w' := w9) (fun q hq => hg9.block q (h7.out.lt hq).2 (fun e => hu8 q hq e.symm))
              rw [ht9] at hU9
              have hnew : Hid (∃ (u : Tt) (L : List Int), w9.ownsRow wB.heap.size 3 1 (.slice (some ⟨g5, 0, none⟩) (k + 1) cap5) (k + 1) (L.map Go.encZ) ∧ (∀ z ∈ L, 0 ≤ z) ∧ OwTt w9 lo fs.length fs (vb ++ ra.take (k + 1)) u ∧ Bk w9 b (deskC s p mode at_ { M with t := u }) 93 ∧
                  (∀ q, u.F q → M.t.F q ∨ (∃ i, i < k + 1 ∧ rb (rrth M.pr i) = q) ∨ w.heap.size ≤ q) ∧ (∀ q, (Value.slice (some ⟨g5, 0, none⟩) (k + 1) cap5).ownBlock = some q → ¬ u.F q) ∧ (∀ q, (Value.slice u.B u.m u.d).ownBlock = some q → M.t.F q ∨ wB.heap.size ≤ q) ∧ Mv wB w9 (fun q => q = b ∨ M.t.F q)) := by
                refine hid ⟨_, L ++ [(u.m : Int) + 1], by rw [List.map_append]; exact ho9, fun z hz => ?_, hU9, k7.out.keep (hg9.block b k7.out.lt (fun e => hog.out b e.symm rfl)), fun q hq => ?_, fun q hq hFq => ?_, fun q hq => ?_, hM7.out.grown hg9 (fun q e => .inr (hol.out q e).1)⟩
                · rcases List.mem_append.1 hz with h | h
                  · exact hL.out z h
                  · have : z = (u.m : Int) + 1 := by simpa using h
                    omega
                · rcases hPF.out q hq with f | f | f
                  · rcases hF.out q f with f | ⟨i, hi, f⟩ | f
                    · exact .inl f
                    · exact .inr (.inl ⟨i, by omega, f⟩)
                    · exact .inr (.inr f)
                  · exact .inr (.inl ⟨k, by omega, f⟩)
                  · exact .inr (.inr (by have := hwr.out; omega))
                · have hq2 : g5 = q := Option.some.inj hq
                  subst hq2
                  rcases hgb9 with e | e
                  · exact hu8 g5 hFq e
                  · have := (h7.out.lt hFq).2; omega
                · rcases hgbp9 with e | e
                  · exact hRB.out q (by rw [← e]; exact hq)
                  · exact .inr (by have := e q hq; have h1 := hM3.out.size; omega)
              clear ho9 hg9 hgb9 hU9 h7 k7 m7 hM7 hout7 a4 hu8
              go_wp2
              go_roundw
              case rel => exact ⟨k + 1, by omega, by go_num, some ⟨g5, 0, none⟩, cap5, rfl, by rw [ep] at hnew; exact hnew⟩
              case measure => simp [intOf]; omega
            · obtain rfl : k = ra.length := by omega
              rw [List.take_length] at hU
              have e8 : wr.cell? ⟨b, 6, none⟩ = some (.int .i64 at_) := hbk2.at rfl
              have hlm2 := hid (H6.out.lm.keep (hM.out.at H6.out.lm.lt (hnF.out _ _ tg.out.2.2.2.1 (by simp) (by simp))))
              have hnbl : ¬ (M.bl = b ∨ M.t.F M.bl) := fun e => by
                rcases e with e | e
                · have h1 := tg.out.2.2.2.1; rw [e, tg.out.2.1] at h1; cases h1
                · exact hnF.out _ _ tg.out.2.2.2.1 (by simp) (by simp) (.inl e)
              have hlm3 := hlm2.out.keep (hM2.at hlm2.out.lt hnbl)
              have hne : b ≠ M.bl := fun e => hnbl (.inl e.symm)
              have hMw : Mv w wr (DeskF M) := ((Mv.of hx.out).trans hM.out (fun q hq => by
                rcases hq with e | e
                · exact .inl (by unfold DeskF; rw [tg.out.1 q e]; simp)
                · exact .inr (by have := hrb2.out; omega))).trans hM2 (fun q hq => .inl (by
                unfold DeskF
                rcases hq with e | e
                · rw [e, tg.out.2.1]; simp
                · rw [tg.out.1 q e]; simp))
              have hdb : DeskF M b := by unfold DeskF; rw [tg.out.2.1]; simp
              have hub : ¬ u.F b := fun hFb => by
                rcases hF b hFb with e | ⟨i, hi, e⟩ | e
                · exact hnF.out b _ tg.out.2.1 (by simp) (by simp) (.inl e)
                · exact hnp.out b _ tg.out.2.1 (by simp) (by simp) i (by omega) e
                · have := hbl9.out; omega
              by_cases hneg : at_ < 0
              · obtain ⟨j, hj, hja⟩ : ∃ j : Nat, j < ra.length ∧ at_ = -((j : Int) + 1) := ⟨(-at_ - 1).toNat, by omega, by omega⟩
                have hLl : L.length = ra.length := by have := hout.1; rw [List.length_map] at this; omega
                obtain ⟨gO, eO, hO1, hO2⟩ := own_blk hout (show 0 < ra.length by omega)
                obtain ⟨ad, eO2, hc⟩ := (Rd.of_own hout).2.2.2 (by omega)
                have hcj := hc j (.int .i64 (L[j]'(by omega))) (by rw [List.getElem?_map, List.getElem?_eq_getElem (by omega)]; rfl)
                rw [eO] at eO2
                injection eO2 with eO2
                subst eO2
                rw [lit_add0] at hcj
                have hz := hL (L[j]'(by omega)) (List.getElem_mem _)
                generalize L[j]'(by omega) = z at *
                subst eO
                have z6 := hbk2.free 6
                have hbk4 : Bk (wr.setCell ⟨b, 6, none⟩ (.int .i64 z)) b (deskC s p mode z { M with t := u }) 93 := hbk2.set 6 _
                have hlm4 := hlm3.keep (w' := wr.setCell ⟨b, 6, none⟩ (.int .i64 z)) ((setCell_at wr b 6 _).2 _ (Ne.symm hne))
                have hcl := hid (clean_any b s p mode z { M with t := u } _ hbk4 hlm4 hne)
                have hU := hid (hU.keep (w' := wr.setCell ⟨b, 6, none⟩ (.int .i64 z)) (fun q hq => (setCell_at wr b 6 _).2 q (fun e => hub (e ▸ hq))))
                have hMw := hid (hMw.set (g := b) (.inl hdb) 6 (.int .i64 z))
                have hF := hid hF
                have hz := hid hz
                have hneg2 : (-((j : Int) + 1)) < 0 := by omega
                have i1 := IntWalk.i64_in ((j : Int) + 1) (by omega)
                have i2 := IntWalk.i64_in (j : Int) (by omega)
                have i3 := IntWalk.i64_in ((j : Int) + 1 - 1) (by omega)
                have i4 : 0 ≤ (j : Int) ∧ (j : Int) < ra.length := by omega
                have hja := hid hja
                have hlz := hid hLl
                rw [hja.out] at e8
                clear hI hout hL hbk2 hAF hRB hM2 hlm2 hlm3 hnbl hdb hbk4 hlm4 hneg hc hat hLl
                go_upto_region 22 with fail
                generalize wr.setCell ⟨b, 6, none⟩ (.int .i64 z) = w8 at *
                go_wp2_with fail
                refine hcl.out.mono ?_
                rintro e w9 ⟨rfl, bm', q1, q2, q3, q4, q5, q6⟩
                have hres := hid (store_fin H.out hU.out hF.out hMw.out hz.out q1 q2 q3 q4 q5 q6)
                clear q1 q2 q3 q4 q5 q6 hcl e8
                go_wp2
                exact bodyPost_ret (v := .tuple #[.slice (some ⟨gO, 0, none⟩) ra.length c, .int .i64 0]) (by simp [results, Tryz.results51, go_sem]) rfl ⟨_, rfl, hres.out⟩
              · have hcl := hid (clean_any b s p mode at_ { M with t := u } wr hbk2 hlm3 hne)
                have hU := hid hU
                have hMw := hid hMw
                have hF := hid hF
                clear hI hout hL hbk2 hAF hRB hM2 hlm2 hlm3 hnbl hdb
                go_wp2_with fail
                refine hcl.out.mono ?_
                rintro e w9 ⟨rfl, bm', q1, q2, q3, q4, q5, q6⟩
                have hres := hid (store_fin H.out hU.out hF.out hMw.out (by omega) q1 q2 q3 q4 q5 q6)
                clear q1 q2 q3 q4 q5 q6 hcl e8
                go_wp2
                exact bodyPost_ret (v := .tuple #[.slice A ra.length c, .int .i64 0]) (by simp [results, Tryz.results51, go_sem]) rfl ⟨_, rfl, hres.out⟩
        · obtain ⟨e, he, e0⟩ := List.mem_map.1 hkv
          obtain ⟨rfl, rfl⟩ : e.1 = k ∧ v = chV e.2.1 e.2.2 := ⟨(Prod.mk.inj e0).1, (Prod.mk.inj e0).2.symm⟩
          change Sem.run _ _ _ = .ok (Value.tuple #[.bool true, .int .i64 e.1, _]) _ at hnx
          change Sem.run _ _ _ = .ok (Value.tuple #[.int .i64 e.1, _]) _ at hen
          unfold chV at hnx hen
          obtain ⟨i, hi, hei, hvo, hvn⟩ := H6.out.cv e he
          obtain ⟨u, hU1, hU2⟩ := hU.out
          have hM5 : Mv w6 w5 (fun k => M.t.F k ∨ k = r2) := hM.out.grown hg5 (fun g e => .inl (.inr (by injection e with e; exact e.symm)))
          have hkp : ∀ k g, M.τ k = g → g ≠ .tab → g ≠ .no → k < w6.heap.size → w5.heap[k]? = w6.heap[k]? := fun k g a b c d => hM5.at d (hnF.out k g a b c)
          have hbk5 := H6.out.bk.keep (hkp b _ tg.out.2.1 (by simp) (by simp) H6.out.bk.lt)
          have hvo5 := hvo.keep (hkp _ _ (tg.out.2.2.2.2.2 e he).1 (by simp) (by simp) hvo.lt.2)
          have hvn5 := hvn.keep (hkp _ _ (tg.out.2.2.2.2.2 e he).2 (by simp) (by simp) hvn.lt.2)
          have hU5 := hU1.keep (w' := w5) (fun k q => hg5.block k (hU1.lt q).2 (fun e => by injection e with e; exact hFr.out (e ▸ hU2.2.2.2.2.2.2 k q)))
          obtain ⟨w7, g7, e7, h7, s7, k7, x7⟩ := newB w5 [.bool e.2.1.g, .slice e.2.1.A e.2.1.n e.2.1.c, .bool e.2.2.g, .slice e.2.2.A e.2.2.n e.2.2.c] 156
          have hbk7 := hid (hbk5.ext x7)
          have hvo7 := hid (hvo5.keep (x7.block hvo5.lt.2))
          have hvn7 := hid (hvn5.keep (x7.block hvn5.lt.2))
          have hU7 := hid (hU5.ext x7)
          have hM7 := hid (hM5.ext x7)
          have hR7 := hid (hR5.keep (w' := w7) (x7.block hR5.map.lt) (x7.block hR5.rlt))
          have hl7 : leftW w7 r2 < leftW wr r2 := by rw [hR7.out.left, hlm]; omega
          have hDi := hid (show rth (mixR D rs vb) i = rth rs i from by rw [mixR_at D hi, ← hei, hDk]; rfl)
          have hgs := hid (show w.heap.size ≤ g7 from by have h1 := h7.out; have h2 := hM5.size; have h3 := hx.out.size; omega)
          have hei := hid hei
          have he := hid he
          have hU2 := hid hU2
          have k7 := hid k7
          have hbm7 := hid (show M.bm < w7.heap.size ∧ r2 < w7.heap.size from ⟨hR7.out.map.lt, hR7.out.rlt⟩)
          rw [hei.out] at hnx hen
          clear hR hlm hRm hrl hU hM hM5 hkp hbk5 hvo hvo5 hvn hvn5 hU1 hU5 x7 hR5 hg5 hkv e0 hs5
          go_upto_region 12 with fail
          simp only [e7.out, h7.out]
          clear e7 h7 s7 hnx hen
          obtain ⟨gB, eB, hB1, hB2⟩ := own_blk (by have h := hU7.out.2.1.1; rw [hU7.out.2.2.1, ← hU7.out.2.2.2.1] at h; exact h) (show 0 < u.m by rw [hU7.out.2.2.2.1, mixR_len]; omega)
          have eBt : M.t.B = some ⟨gB, 0, none⟩ := by rw [← hU2.out.2.2.2.1]; exact eB
          have em : M.t.m = rs.length := H.out.ow.2.2.2.1
          have i3 := IntWalk.i64_in ((i : Int) + 1 - 1) (by omega)
          have i4 := IntWalk.i64_in (i : Int) (by omega)
          have i5 : 0 ≤ (i : Int) ∧ (i : Int) < rs.length := by omega
          have hg7 := hid (show ¬ M.t.F g7 from fun hF => by have := hFlt.out g7 hF; have := hgs.out; omega)
          have hbF := hid (show ¬ M.t.F b from fun hF => hnF.out b _ tg.out.2.1 (by simp) (by simp) (.inl hF))
          have hU9p := hU7.out.ext (Ext.refl w7).drew_right
          have xa : (fun w' => Mv w7 w' M.t.F) w7.drew := (Mv.of (Ext.refl w7).drew_right)
          refine region_J (fun w' => Mv w7 w' M.t.F) 10 (by kernel_rfl) ?_
          generalize w7.drew = da at * 
          refine JR 0 (v := ?va1) rfl (by kernel_rfl) rfl ?ya1 xa ?ra1
          case ya1 => (intro w hw; obtain ⟨q0, q1, q2, q3⟩ := (k7.out.keep (hw.at k7.out.lt hg7.out)).c4; have a4 : w.cell? ⟨b, 4, none⟩ = some (.slice M.t.B M.t.m M.t.d) := (hbk7.out.keep (hw.at hbk7.out.lt hbF.out)).at rfl; rw [eBt, em] at a4; (go_simp; with_reducible rfl))
          simp only [Act.put, lyA, lyB, lyC, lyD, lyE, lyF]
          refine JR 1 (v := ?va2) rfl (by kernel_rfl) rfl ?ya2 xa ?ra2
          case ya2 => (intro w hw; (go_simp; with_reducible rfl))
          simp only [Act.put, lyA, lyB, lyC, lyD, lyE, lyF]
          refine JR 2 (v := ?va3) rfl (by kernel_rfl) rfl ?ya3 xa ?ra3
          case ya3 => (intro w hw; (go_simp; with_reducible rfl))
          simp only [Act.put, lyA, lyB, lyC, lyD, lyE, lyF]
          refine JR 3 (v := ?va4) rfl (by kernel_rfl) rfl ?ya4 xa ?ra4
          case ya4 => (intro w hw; (go_simp; with_reducible rfl))
          simp only [Act.put, lyA, lyB, lyC, lyD, lyE, lyF]
          refine JR 4 (v := ?va5) rfl (by kernel_rfl) rfl ?ya5 xa ?ra5
          case ya5 => (intro w hw; (go_simp; with_reducible rfl))
          simp only [Act.put, lyA, lyB, lyC, lyD, lyE, lyF]
          refine JR 5 (v := ?va6) rfl (by kernel_rfl) rfl ?ya6 xa ?ra6
          case ya6 => (intro w hw; obtain ⟨q0, q1, q2, q3⟩ := (k7.out.keep (hw.at k7.out.lt hg7.out)).c4; have a4 : w.cell? ⟨b, 4, none⟩ = some (.slice M.t.B M.t.m M.t.d) := (hbk7.out.keep (hw.at hbk7.out.lt hbF.out)).at rfl; rw [eBt, em] at a4; (go_simp; with_reducible rfl))
          simp only [Act.put, lyA, lyB, lyC, lyD, lyE, lyF]
          refine JR 6 (v := ?va7) rfl (by kernel_rfl) rfl ?ya7 xa ?ra7
          case ya7 => (intro w hw; (go_simp; with_reducible rfl))
          simp only [Act.put, lyA, lyB, lyC, lyD, lyE, lyF]
          refine JR 7 (v := ?va8) rfl (by kernel_rfl) rfl ?ya8 xa ?ra8
          case ya8 => (intro w hw; (go_simp; with_reducible rfl))
          simp only [Act.put, lyA, lyB, lyC, lyD, lyE, lyF]
          refine JR 8 (v := ?va9) rfl (by kernel_rfl) rfl ?ya9 xa ?ra9
          case ya9 => (intro w hw; (go_simp; with_reducible rfl))
          simp only [Act.put, lyA, lyB, lyC, lyD, lyE, lyF]
          refine J_one 9 rfl (by kernel_rfl) (fun K hK => ?_)
          go_simp
          have vo9 := hvo7.out.keep ((xa).at hvo7.out.lt.2 (fun hF => hnF.out _ _ (tg.out.2.2.2.2.2 e he.out).1 (by simp) (by simp) (.inl hF)))
          have vn9 := hvn7.out.keep ((xa).at hvn7.out.lt.2 (fun hF => hnF.out _ _ (tg.out.2.2.2.2.2 e he.out).2 (by simp) (by simp) (.inl hF)))
          have U9 := hU9p
          have nb : ∀ (r : Rr) (z : Rc) (k : Nat), OwV da lo fs.length r z → atB r.A r.n k → k = rb r := fun r z k hv hk => by
            obtain ⟨_, _, _, b9, f1, _⟩ := hv
            obtain ⟨ad, f2, _, f3⟩ := hk
            rw [f1] at f2
            injection f2 with f2
            subst f2
            unfold rb
            rw [f1]
            exact f3.symm
          refine (write_any lo gB i fs.length e.2.1 e.2.2 (rth vb i) fs (mixR D rs vb) u da (by rw [hDi.out]; exact vo9.rd) vn9.rd (fun k hk hF => by have e5 := nb _ _ k vo9 hk; subst e5; exact hnF.out _ _ (tg.out.2.2.2.2.2 e he.out).1 (by simp) (by simp) (.inl (hU2.out.2.2.2.2.2.2 _ hF))) (fun k hk hF => by have e5 := nb _ _ k vn9 hk; subst e5; exact hnF.out _ _ (tg.out.2.2.2.2.2 e he.out).2 (by simp) (by simp) (.inl (hU2.out.2.2.2.2.2.2 _ hF))) U9 eB (by rw [mixR_len]; exact hi) vn9.2.2.1 (by omega)).mono ?_
          rintro e9 w9 ⟨rfl, u9, U10, S10, M10⟩
          rw [mixR_set hi] at U10
          have hM9 := hid ((hM7.out.trans (xa) (fun k hk => .inl (.inl hk))).trans M10 (fun k hk => .inl (.inl (hU2.out.2.2.2.2.2.2 k hk))))
          have hsz := (xa).size
          have hR9 := hid ((hR7.out.keep (w' := da) ((xa).at hbm7.out.1 (fun hF => hnF.out M.bm _ tg.out.2.2.1 (by simp) (by simp) (.inl hF))) ((xa).at hbm7.out.2 hFr.out)).keep (w' := w9) (M10.at (by have := hbm7.out.1; omega) (fun hF => hnF.out M.bm _ tg.out.2.2.1 (by simp) (by simp) (.inl (hU2.out.2.2.2.2.2.2 _ hF)))) (M10.at (by have := hbm7.out.2; omega) (fun hF => hFr.out (hU2.out.2.2.2.2.2.2 _ hF))))
          have hU9 : Hid (∃ u, OwTt w9 lo fs.length fs (mixR (fun x => D x || decide (x = (i : Int) + 1)) rs vb) u ∧ LkT M.t u) := hid ⟨u9, U10, hU2.out.same S10⟩
          have hl9 : leftW w9 r2 < leftW wr r2 := by rw [hR9.out.left, ← hR7.out.left]; exact hl7
          go_simp
          refine hK _ _ ⟨fun _ => (xa).trans M10 (fun k hk => .inl (hU2.out.2.2.2.2.2.2 k hk)), ?_⟩
          clear hK K
          try simp only [Act.put, lyA, lyB, lyC, lyD, lyE, lyF]
          have xa10 : (fun w' => Mv w7 w' M.t.F) w9 := (xa).trans M10 (fun k hk => .inl (hU2.out.2.2.2.2.2.2 k hk))
          refine J_done (by kernel_rfl) (OnlyOn.normal ?_)
          rw [hei.out] at hR9
          clear hR7 hU7 hM7 hvo7 hvn7 hbk7 k7
          go_wp2
          go_roundw
          case rel => exact ⟨_, _, hR9, hU9, hM9⟩
          case measure => exact hl9
    · obtain ⟨e, he, e0⟩ := List.mem_map.1 hkv
      obtain ⟨rfl, rfl⟩ : e.1 = k ∧ v = chV e.2.1 e.2.2 := ⟨(Prod.mk.inj e0).1, (Prod.mk.inj e0).2.symm⟩
      change Sem.run _ _ _ = .ok (Value.tuple #[.bool true, .int .i64 e.1, _]) _ at hnx
      change Sem.run _ _ _ = .ok (Value.tuple #[.int .i64 e.1, _]) _ at hen
      unfold chV at hnx hen
      have hx5 := hid (show Ext w w5 from (Mv.base ((Mv.refl (w := wr) (F := fun k => k = r)).grown hg5 (fun g e => .inl (by injection e with e; exact e.symm))) hx.out (fun k hk => by rw [hk]; exact hrb.out)))
      have H5 := H.out.ext hx5.out
      obtain ⟨a0, a2, a3, a4, a5, a6, a7, a8, a21⟩ := H5.c
      obtain ⟨t, hlk⟩ := look87 H5.lm e.1
      have hR5 := hid hR5
      have hlt : leftW w5 r < leftW wr r := by rw [hR5.out.left, hlm]; omega
      clear hR H3 H5 hg5 hkv e0 he
      cases t
      all_goals go_wp2
      all_goals go_roundw
      all_goals try (exact ⟨_, _, hR5, hx5⟩)
      all_goals exact hlt
end
open Go.RowKit Go.Shelf Go.MuLone
def DeskV (w : World) (lo b : Nat) (s p : Int) (fs : List Fd) (vw : List Rc) (n0 : Nat) (mode at_ : Int) (M : Dm) : Prop :=
  ∃ rs vb ra, DeskI w lo b s p fs rs vb ra mode at_ M ∧ vb ++ ra = vw ∧ n0 ≤ rs.length ∧ -(ra.length : Int) ≤ at_ ∧ (mode = 0 → M.ch = [] ∧ ra = [])
def DeskW (w w' : World) (lo b : Nat) (s p : Int) (fs : List Fd) (vw : List Rc) (n0 : Nat) (mode at_ : Int) (M : Dm) : Prop :=
  ∃ M', DeskV w' lo b s p fs vw n0 mode at_ M' ∧ Mv w w' (DeskF M) ∧ ∀ k, DeskF M' k → DeskF M k ∨ w.heap.size ≤ k
section
variable {w w1 w' : World} {lo b n0 : Nat} {s s' p : Int} {fs : List Fd} {vw : List Rc} {mode at_ at' : Int} {M M1 : Dm}
theorem DeskV.ext (h : DeskV w lo b s p fs vw n0 mode at_ M) (hx : Ext w w') : DeskV w' lo b s p fs vw n0 mode at_ M := by
  obtain ⟨rs, vb, ra, h1, h2⟩ := h
  exact ⟨rs, vb, ra, h1.ext hx, h2⟩
theorem DeskV.lock (h : DeskV w lo b s p fs vw n0 mode at_ M) (s' : Int) : DeskV (w.setCell ⟨b, 0, none⟩ (.int .i32 s')) lo b s' p fs vw n0 mode at_ M := by
  obtain ⟨rs, vb, ra, h1, h2⟩ := h
  exact ⟨rs, vb, ra, h1.lock, h2⟩
theorem DeskV.fb (h : DeskV w lo b s p fs vw n0 mode at_ M) : DeskF M b := by
  obtain ⟨rs, vb, ra, h1, h2⟩ := h
  exact h1.fb
theorem DeskV.c0 (h : DeskV w lo b s p fs vw n0 mode at_ M) : w.cell? ⟨b, 0, none⟩ = some (.int .i32 s) ∧ w.frozen? ⟨b, 0, none⟩ = false := by
  obtain ⟨rs, vb, ra, h1, h2⟩ := h
  exact ⟨h1.bk.at rfl, h1.bk.free 0⟩
theorem DeskV.keep (h : DeskV w lo b s p fs vw n0 mode at_ M) (hk : ∀ k, DeskF M k → w'.heap[k]? = w.heap[k]?) (hs : w.heap.size ≤ w'.heap.size) : DeskV w' lo b s p fs vw n0 mode at_ M := by
  obtain ⟨rs, vb, ra, h1, h2⟩ := h
  exact ⟨rs, vb, ra, h1.keep hk hs, h2⟩
theorem DeskV.lt (h : DeskV w lo b s p fs vw n0 mode at_ M) {k : Nat} (hk : DeskF M k) : lo ≤ k ∧ k < w.heap.size := by
  obtain ⟨rs, vb, ra, h1, h2⟩ := h
  exact h1.bd k hk
theorem DeskW.of (h : DeskV w' lo b s p fs vw n0 mode at_ M) (hm : Mv w w' (DeskF M)) : DeskW w w' lo b s p fs vw n0 mode at_ M := ⟨M, h, hm, fun k hk => .inl hk⟩
theorem DeskW.trans (hm : Mv w w1 (DeskF M)) (hf : ∀ k, DeskF M1 k → DeskF M k ∨ w.heap.size ≤ k) (h : DeskW w1 w' lo b s p fs vw n0 mode at_ M1) : DeskW w w' lo b s p fs vw n0 mode at_ M := by
  obtain ⟨M', a, c, d⟩ := h
  exact ⟨M', a, hm.trans c hf, fun k hk => (d k hk).elim (hf k) (fun e => .inr (Nat.le_trans hm.size e))⟩
theorem DeskW.unlock (h : DeskW w w' lo b s p fs vw n0 mode at_ M) (hd : DeskF M b) : DeskW w (w'.setCell ⟨b, 0, none⟩ (.int .i32 0)) lo b 0 p fs vw n0 mode at_ M := by
  obtain ⟨M', a, c, d⟩ := h
  exact ⟨M', a.lock 0, c.set (.inl hd) 0 _, d⟩
theorem DeskW.c0 (h : DeskW w w' lo b s p fs vw n0 mode at_ M) : w'.cell? ⟨b, 0, none⟩ = some (.int .i32 s) ∧ w'.frozen? ⟨b, 0, none⟩ = false := by
  obtain ⟨M', a, c, d⟩ := h
  exact a.c0
theorem stored_any (w : World) (H : DeskV w lo b s p fs vw n0 mode at_ M) (hl : vw.length ≤ 300) (hf : 0 < fs.length ∧ fs.length ≤ 16) : Calls Tryz.prog 59 #[.pointer (some ⟨b, 0, none⟩), .int .i64 0, .pointer (some ⟨b, 5, none⟩)] w fun e w' =>
    e = .returned (.int .i64 0) ∧ ∃ at', DeskW w w' lo b s p fs vw n0 mode at' M := by
  obtain ⟨rs, vb, ra, h1, h2, h3, h4, h5⟩ := H
  have hlen : rs.length + ra.length ≤ 300 := by rw [← h2, List.length_append, h1.len] at hl; exact hl
  have q1 := hid (isRows_any w h1)
  have q2 := hid (fun w' (hx : Ext w w') => isEmpty_any w' (h1.ext hx))
  have q3 := hid (fun w' (hx : Ext w w') => store_any w' (h1.ext hx) hlen hf h4)
  have hV : Hid (DeskV w lo b s p fs vw n0 mode at_ M) := hid ⟨rs, vb, ra, h1, h2, h3, h4, h5⟩
  have h2 := hid h2
  have h3 := hid h3
  have hl1 := hid h1.len
  clear h1
  go_enter Tryz.func59, Tryz.ntmps59
  go_wp2_with fail
  refine q1.out.mono ?_
  rintro e w2 ⟨rfl, hx2⟩
  have hx2 := hid hx2
  clear q1
  cases hm : ((mode == 1) || (mode == 2)) with
  | false =>
    have hres : Hid (∃ at', DeskW w w2 lo b s p fs vw n0 mode at' M) := hid ⟨at_, DeskW.of (hV.out.ext hx2.out) (Mv.of hx2.out)⟩
    clear q2 q3 hV hm
    go_wp2
    go_ret
    exact ⟨rfl, hres.out⟩
  | true =>
    clear hm
    go_wp2_with fail
    refine (q2.out w2 hx2.out).mono ?_
    rintro e w3 ⟨rfl, hx3⟩
    have hx := hid (hx2.out.trans hx3)
    clear hx3 q2
    cases he : (decide (M.ch.length = 0) && decide (ra.length = 0)) with
    | true =>
      have hres : Hid (∃ at', DeskW w w3 lo b s p fs vw n0 mode at' M) := hid ⟨at_, DeskW.of (hV.out.ext hx.out) (Mv.of hx.out)⟩
      clear q3 hV he
      go_wp2
      go_ret
      exact ⟨rfl, hres.out⟩
    | false =>
      clear he
      go_wp2_with fail
      refine (q3.out w3 hx.out).mono ?_
      rintro e w4 ⟨v, rfl, at', M', a, c, d, e1, e2⟩
      have hres : Hid (∃ at', DeskW w w4 lo b s p fs vw n0 mode at' M) := hid ⟨at', M', ⟨vb ++ ra, vb ++ ra, [], a, by rw [List.append_nil, h2.out], by rw [List.length_append, hl1.out]; have := h3.out; omega, by simpa using c, fun _ => ⟨d, rfl⟩⟩, (Mv.of hx.out).trans e1 (fun k hk => .inl hk), fun k hk => (e2 k hk).imp id (fun h => Nat.le_trans hx.out.size h)⟩
      clear q3 hV a d e1 e2
      go_wp2
      go_ret
      exact ⟨rfl, hres.out⟩
end
open Go.RowKit Go.Shelf Go.MuLone
section
variable {w w1 w' : World} {lo b n0 : Nat} {s s' p : Int} {fs : List Fd} {vw : List Rc} {mode at_ at' : Int} {M M1 : Dm}
theorem DeskV.setAt (h : DeskV w lo b s p fs vw n0 mode at_ M) {a : Int} (ha : 0 ≤ a) : DeskV (w.setCell ⟨b, 6, none⟩ (.int .i64 a)) lo b s p fs vw n0 mode a M := by
  obtain ⟨rs, vb, ra, h1, h2, h3, h4, h5⟩ := h
  exact ⟨rs, vb, ra, h1.turn rfl, h2, h3, by omega, h5⟩
theorem DeskV.c6 (h : DeskV w lo b s p fs vw n0 mode at_ M) : w.cell? ⟨b, 6, none⟩ = some (.int .i64 at_) ∧ w.frozen? ⟨b, 6, none⟩ = false := by
  obtain ⟨rs, vb, ra, h1, h2⟩ := h
  exact ⟨h1.bk.at rfl, h1.bk.free 6⟩
theorem Go_any (i : Nat) (w : World) (H : DeskV w lo b 0 p fs vw n0 mode at_ M) (hl : vw.length ≤ 300) (hf : 0 < fs.length ∧ fs.length ≤ 16) (hi : i < n0) : Calls Tryz.prog 26 #[.pointer (some ⟨b, 0, none⟩), .int .i64 0, .int .i64 ((i : Int) + 1)] w fun e w' =>
    e = .returned (.int .i64 0) ∧ DeskW w w' lo b 0 p fs vw n0 mode ((i : Int) + 1) M := by
  have hq := hid (enter_any b w H.c0.1 H.c0.2)
  have H1 := hid (H.lock 1)
  have m1 := hid ((Mv.refl (w := w) (F := DeskF M)).set (.inl H.fb) 0 (.int .i32 1))
  have hfb := hid H.fb
  clear H
  go_enter_defers Tryz.func26, Tryz.ntmps26
  go_wp2_with fail
  refine hq.out.mono ?_
  rintro e w2 ⟨rfl, hx2⟩
  have H2 := hid (H1.out.ext hx2)
  have m2 := hid (m1.out.ext hx2)
  clear hq hx2 H1 m1
  obtain ⟨rs, vb, ra, h1, h2, h3, h4, -⟩ := H2.out
  have hlen : vb.length + ra.length ≤ 300 := by rw [← h2, List.length_append] at hl; exact hl
  have hq := hid (seen_any i w2 h1 (by omega) (by have := h1.len; omega))
  clear h1 h2 h3 h4 hlen
  go_wp2_with fail
  refine hq.out.mono ?_
  rintro e w3 ⟨⟨r, rfl⟩, hx3⟩
  have x4 := Ext.new w3 (.cells #[.bool r.g, .slice r.A r.n r.c] 69)
  have H4 := hid ((H2.out.ext hx3).ext x4)
  have m4 := hid ((m2.out.ext hx3).ext x4)
  clear hq H2 m2 hx3 x4
  go_upto_region 8 with fail
  generalize w3.alloc (.cells #[.bool r.g, .slice r.A r.n r.c] 69) = w4 at *
  obtain ⟨c6, z6⟩ := H4.out.c6
  by_cases he : (i : Int) + 1 = at_
  · have hb : (((i : Int) + 1) != at_) = false := by simp [he]
    have hres : Hid (DeskW w (w4.setCell ⟨b, 6, none⟩ (.int .i64 ((i : Int) + 1))) lo b 1 p fs vw n0 mode ((i : Int) + 1) M) := hid (DeskW.of (H4.out.setAt (by omega)) (m4.out.set (.inl hfb.out) 6 _))
    have c0 := hid hres.out.c0.1
    have g0 := hid hres.out.c0.2
    replace hres := hid (hres.out.unlock hfb.out)
    clear H4 m4 he
    go_wp2
    refine leaves_cons (f := 57) (args := #[.pointer (some ⟨b, 0, none⟩)]) (by simp) (by simp [go_sem]) ?_
    refine (unlock_deferred muLib ⟨b, 0, none⟩ .returning _ c0.out g0.out).mono ?_
    rintro e u' w'' ⟨rfl, rfl, rfl⟩
    exact ⟨_, results_tmp rfl _ _ _, rfl, hres.out⟩
  · have hb : (((i : Int) + 1) != at_) = true := by simpa using he
    have hq := hid (stored_any w4 H4.out hl hf)
    clear H4 he z6
    go_wp2_with fail
    refine hq.out.mono ?_
    rintro e w5 ⟨rfl, at', hW⟩
    obtain ⟨M5, H5, m5, f5⟩ := hW
    obtain ⟨c6', z6⟩ := H5.c6
    have hres : Hid (DeskW w (w5.setCell ⟨b, 6, none⟩ (.int .i64 ((i : Int) + 1))) lo b 1 p fs vw n0 mode ((i : Int) + 1) M) := hid ⟨M5, H5.setAt (by omega), (m4.out.trans m5 (fun k hk => .inl hk)).set (.inl hfb.out) 6 _, fun k hk => (f5 k hk).imp id (fun h => Nat.le_trans m4.out.size h)⟩
    have c0 := hid hres.out.c0.1
    have g0 := hid hres.out.c0.2
    replace hres := hid (hres.out.unlock hfb.out)
    clear m4 H5 m5 f5 c6 hq
    go_wp2
    refine leaves_cons (f := 57) (args := #[.pointer (some ⟨b, 0, none⟩)]) (by simp) (by simp [go_sem]) ?_
    refine (unlock_deferred muLib ⟨b, 0, none⟩ .returning _ c0.out g0.out).mono ?_
    rintro e u' w'' ⟨rfl, rfl, rfl⟩
    exact ⟨_, results_tmp rfl _ _ _, rfl, hres.out⟩
def DeskE (w : World) (lo b : Nat) (s p : Int) (fs : List Fd) (rs : List Rc) (mode : Int) (M : Dm) : Prop := ∃ at_, 0 ≤ at_ ∧ DeskI w lo b s p fs rs rs [] mode at_ M ∧ M.ch = []
theorem Store_any (w : World) (H : DeskV w lo b 0 p fs vw n0 mode at_ M) (hl : vw.length ≤ 300) (hf : 0 < fs.length ∧ fs.length ≤ 16) : Calls Tryz.prog 15 #[.pointer (some ⟨b, 0, none⟩), .int .i64 0, .bool false] w fun e w' =>
    ∃ v, e = .returned (.tuple #[v, .int .i64 0]) ∧ ∃ M', DeskE w' lo b 0 p fs vw mode M' ∧ Mv w w' (DeskF M) ∧ ∀ k, DeskF M' k → DeskF M k ∨ w.heap.size ≤ k := by
  have hq := hid (enter_any b w H.c0.1 H.c0.2)
  have H1 := hid (H.lock 1)
  have m1 := hid ((Mv.refl (w := w) (F := DeskF M)).set (.inl H.fb) 0 (.int .i32 1))
  have hfb := hid H.fb
  clear H
  go_enter_defers Tryz.func15, Tryz.ntmps15
  go_wp2_with fail
  refine hq.out.mono ?_
  rintro e w2 ⟨rfl, hx2⟩
  have H2 := hid (H1.out.ext hx2)
  have m2 := hid (m1.out.ext hx2)
  clear hq hx2 H1 m1
  obtain ⟨rs, vb, ra, h1, h2, h3, h4, -⟩ := H2.out
  have hlen : rs.length + ra.length ≤ 300 := by rw [← h2, List.length_append, h1.len] at hl; exact hl
  have hq := hid (store_any w2 h1 hlen hf h4)
  rw [h2] at hq
  clear h1 h2 h3 h4 hlen H2
  go_wp2_with fail
  refine hq.out.mono ?_
  rintro e w3 ⟨v, rfl, at', M', a, c, d, e1, e2⟩
  have c0 := hid (a.bk.at (i := 0) rfl)
  have g0 := hid (a.bk.free 0)
  have hE := hid (show DeskE (w3.setCell ⟨b, 0, none⟩ (.int .i32 0)) lo b 0 p fs vw mode M' from ⟨at', c, a.lock, d⟩)
  have hm := hid ((m2.out.trans e1 (fun k hk => .inl hk)).set (g := b) (.inl hfb.out) 0 (.int .i32 0))
  have hf2 := hid (fun k hk => (e2 k hk).imp id (fun h => Nat.le_trans m2.out.size h))
  clear hq m2 a c d e1 e2
  go_wp2
  refine leaves_cons (f := 57) (args := #[.pointer (some ⟨b, 0, none⟩)]) (by simp) (by simp [go_sem]) ?_
  refine (unlock_deferred muLib ⟨b, 0, none⟩ .returning _ c0.out g0.out).mono ?_
  rintro e u' w'' ⟨rfl, rfl, rfl⟩
  exact ⟨_, (by simp [results, Tryz.results15, go_sem]), v, rfl, M', hE.out, hm.out, hf2.out⟩
end
open Go.RowKit Go.Shelf Go.MuLone
structure Trio (w : World) (lo b d s : Nat) (p : Int) (fs : List Fd) (r0 rb rd rl : List Rc) (n0 : Nat) (mode at_ : Int) (t : Tt) (M : Dm) (L : Lm) : Prop where
  bag : BagI w lo b 0 p fs rb t
  desk : DeskV w lo d 0 p fs rd n0 mode at_ M
  log : LogI w lo s 0 p fs r0 rl L
  one : L.ln = 1
  bd : ∀ k, bF b t k → ¬ DeskF M k
  bl : ∀ k, bF b t k → ¬ LogF s L k
  dl : ∀ k, DeskF M k → ¬ LogF s L k
section
variable {w w' : World} {lo b d s : Nat} {p : Int} {fs : List Fd} {r0 rb rd rl rs' : List Rc} {n0 : Nat} {mode at_ at' : Int} {t : Tt} {M : Dm} {L : Lm}
theorem Trio.ext (h : Trio w lo b d s p fs r0 rb rd rl n0 mode at_ t M L) (hx : Ext w w') : Trio w' lo b d s p fs r0 rb rd rl n0 mode at_ t M L :=
  ⟨h.bag.ext hx, h.desk.ext hx, h.log.ext hx, h.one, h.bd, h.bl, h.dl⟩
theorem Trio.turnB (h : Trio w lo b d s p fs r0 rb rd rl n0 mode at_ t M L) (hb : BagTo w w' lo b p fs rs' t) : ∃ t', Trio w' lo b d s p fs r0 rs' rd rl n0 mode at_ t' M L ∧ Mv w w' (fun k => lo ≤ k) := by
  obtain ⟨t', a, m, f⟩ := hb
  have hF : ∀ k, bF b t' k → bF b t k ∨ w.heap.size ≤ k := fun k hk => by
    rcases hk with e | e
    · exact .inl (.inl e)
    · exact (f k e).imp .inr id
  refine ⟨t', ⟨a, h.desk.keep (fun k hk => m.at (h.desk.lt hk).2 (fun e => h.bd k (.inl e) hk)) m.size, h.log.keep (fun k hk => m.at (h.log.lt hk).2 (fun e => h.bl k (.inl e) hk)) m.size, h.one, fun k hk hd => ?_, fun k hk hl => ?_, h.dl⟩, m.mono (fun k e => by rw [e]; exact h.bag.lo)⟩
  · rcases hF k hk with e | e
    · exact h.bd k e hd
    · have := (h.desk.lt hd).2; omega
  · rcases hF k hk with e | e
    · exact h.bl k e hl
    · have := (h.log.lt hl).2; omega
theorem Trio.turnD (h : Trio w lo b d s p fs r0 rb rd rl n0 mode at_ t M L) (hd : DeskW w w' lo d 0 p fs rs' n0 mode at' M) : ∃ M', Trio w' lo b d s p fs r0 rb rs' rl n0 mode at' t M' L ∧ Mv w w' (fun k => lo ≤ k) := by
  obtain ⟨M', a, m, f⟩ := hd
  refine ⟨M', ⟨h.bag.keep (fun k hk => m.at (h.bag.lt hk).2 (fun e => h.bd k hk e)), a, h.log.keep (fun k hk => m.at (h.log.lt hk).2 (fun e => h.dl k e hk)) m.size, h.one, fun k hk hd => ?_, h.bl, fun k hk hl => ?_⟩, m.mono (fun k e => (h.desk.lt e).1)⟩
  · rcases f k hd with e | e
    · exact h.bd k hk e
    · have := (h.bag.lt hk).2; omega
  · rcases f k hk with e | e
    · exact h.dl k e hl
    · have := (h.log.lt hl).2; omega
theorem Trio.turnL (h : Trio w lo b d s p fs r0 rb rd rl n0 mode at_ t M L) (hl : LogTo w w' lo s 0 p fs r0 rs' L) : ∃ L', Trio w' lo b d s p fs r0 rb rd rs' n0 mode at_ t M L' ∧ Mv w w' (fun k => lo ≤ k) := by
  obtain ⟨L', a, o, m, f⟩ := hl
  refine ⟨L', ⟨h.bag.keep (fun k hk => m.at (h.bag.lt hk).2 (fun e => h.bl k hk e)), h.desk.keep (fun k hk => m.at (h.desk.lt hk).2 (fun e => h.dl k hk e)) m.size, a, o.trans h.one, h.bd, fun k hk hl => ?_, fun k hk hl => ?_⟩, m.mono (fun k e => (h.log.lt e).1)⟩
  · rcases f k hl with e | e
    · exact h.bl k hk e
    · have := (h.bag.lt hk).2; omega
  · rcases f k hl with e | e
    · exact h.dl k hk e
    · have := (h.desk.lt hk).2; omega
end
open Go.RowKit Go.Shelf
theorem with_any (S : Option Addr) (q cs : Nat) (l : List Int) (F : Option Addr) (fc : Nat) (bA : Option Addr) (bn bc : Nat) (w : World) (hs : Rd w 1 S q cs (bz l)) (hq0 : 0 < q) (hq : q ≤ 3000000) (hF : Rd w 1 F 2 fc [.slice bA bn bc, .slice none 0 0]) :
    Calls Tryz.prog 128 #[.slice F 2 fc, .agg #[.int .i64 1, .int .i64 0, .slice S q cs]] w fun e w' => ∃ G d, e = .returned (.slice G 2 d) ∧ Ext w w' := by
  obtain ⟨w1, g, e1, h1, s1, kg, x1⟩ := newB w [.int .i64 1, .int .i64 0, .slice S q cs] 163
  have hs1 := hid (hs.ext x1)
  have hF1 := hid (hF.ext x1)
  have hwh := hid (fun w' => Whole_any 1 0 S q cs w' hq)
  have hdn := hid (fun w' (hx : Ext w1 w') => Done_any S q cs l F fc bA bn bc w' (hs1.out.ext hx) hq0 hq (hF1.out.ext hx))
  replace kg := hid kg
  replace x1 := hid x1
  clear hs hF
  go_enter Tryz.func128, Tryz.ntmps128
  go_upto_region 1 with fail
  try simp only [e1.out, h1.out]
  clear e1 h1 s1
  have xa := (Ext.refl w1).drew_right
  refine region_J (fun w' => Ext w1 w') 6 (by kernel_rfl) ?_
  generalize w1.drew = da at xa ⊢
  refine JR 0 (v := ?va1) rfl (by kernel_rfl) rfl ?ya1 xa ?ra1
  case ya1 => (intro w hw; obtain ⟨q0, q1, q2⟩ := (kg.out.ext hw).c3; (go_simp; with_reducible rfl))
  simp only [Act.put, lyA, lyB, lyC, lyD, lyE, lyF]
  refine JR 1 (v := ?va2) rfl (by kernel_rfl) rfl ?ya2 xa ?ra2
  case ya2 => (intro w hw; (go_simp; with_reducible rfl))
  simp only [Act.put, lyA, lyB, lyC, lyD, lyE, lyF]
  refine JR 2 (v := ?va3) rfl (by kernel_rfl) rfl ?ya3 xa ?ra3
  case ya3 => (intro w hw; obtain ⟨q0, q1, q2⟩ := (kg.out.ext hw).c3; (go_simp; with_reducible rfl))
  simp only [Act.put, lyA, lyB, lyC, lyD, lyE, lyF]
  refine J_one 3 rfl (by kernel_rfl) (fun K hK => ?_)
  go_simp
  refine (hwh.out _).mono ?_
  rintro e9 wa4 ⟨rfl, hxa4⟩
  refine hK _ _ ⟨fun _ => ((xa).trans hxa4), ?_⟩
  clear hK K
  try simp only [Act.put, lyA, lyB, lyC, lyD, lyE, lyF]
  have xa4 := ((xa).trans hxa4)
  refine J_one 4 rfl (by kernel_rfl) (fun K hK => ?_)
  go_simp
  refine (hdn.out _ xa4).mono ?_
  rintro e9 wa5 ⟨G, d, rfl, hxa5⟩
  refine hK _ _ ⟨fun _ => ((xa4).trans hxa5), ?_⟩
  clear hK K
  try simp only [Act.put, lyA, lyB, lyC, lyD, lyE, lyF]
  have xa5 := ((xa4).trans hxa5)
  refine JR 5 (v := ?va6) rfl (by kernel_rfl) rfl ?ya6 xa5 ?ra6
  case ya6 => (intro w hw; (go_simp; with_reducible rfl))
  simp only [Act.put, lyA, lyB, lyC, lyD, lyE, lyF]
  refine J_done (by kernel_rfl) (OnlyOn.normal ?_)
  have hres := hid (x1.out.trans xa5)
  clear hwh hdn kg x1 hs1 hF1
  go_wp2
  go_ret
  exact ⟨G, d, rfl, hres.out⟩
theorem info163 : (Tryz.prog.info? 163).map (fun i => (i.zero, i.size, i.bytes)) = some (some (.agg #[.int .i64 0, .int .i64 0, .slice none 0 0]), 3, 40) := by kernel_rfl
theorem app106 (w : World) (lo : Nat) (ty : TypeId) (v : Value) (n : Nat) (xs : List Value) (hown : w.ownsRow lo 163 3 v n xs) (A : Option Addr) (m c : Nat) (es : List Value) (hr : Rd w 3 A m c es) (h1 : ∀ u ∈ es, u.oneCell' = true) (hlo : lo ≤ w.heap.size) (hn : n + m ≤ 1000000000000) :
    ∃ A' c' w', (Builtin.append_ #[106, 106] ty #[v, .slice A m c]).run Tryz.prog w = .ok (.slice A' (n + m) c') w' ∧ w'.ownsRow lo 163 3 (.slice A' (n + m) c') (n + m) (xs ++ es) ∧ w.grownBy w' v.ownBlock ∧ ((Value.slice A' (n + m) c').ownBlock = v.ownBlock ∨ ∀ k, (Value.slice A' (n + m) c').ownBlock = some k → w.heap.size ≤ k) := by
  obtain ⟨i0, hi0, hz0, hz1, hz2⟩ := info_parts info163
  exact app_at w lo 106 ty 163 i0 _ 3 40 Tryz.underlying106 hi0 hz0 hz1 hz2 rfl (by decide) v n xs hown A m c es hr h1 hlo (by unfold maxLen; omega) (by omega)
theorem logWrite_any (b : Nat) (c0 c1 c2 c3 c4 c5 c6 c7 c10 : Value) (S : Option Addr) (q cs : Nat) (l : List Int) (F : Option Addr) (fc : Nat) (bA : Option Addr) (bn bc : Nat) (w : World) (hb : Bk w b [c0, c1, c2, c3, c4, c5, c6, c7, .slice F 2 fc, .slice none 0 0, c10] 108) (hs : Rd w 1 S q cs (bz l)) (hq0 : 0 < q) (hq : q ≤ 3000000) (hF : Rd w 1 F 2 fc [.slice bA bn bc, .slice none 0 0])
    (hsb : ∀ g, atB S q g → g ≠ b) (hFb : ∀ g, atB F 2 g → g ≠ b) :
    Calls Tryz.prog 94 #[.pointer (some ⟨b, 0, none⟩), .agg #[.int .i64 1, .int .i64 0, .slice S q cs]] w fun e w' => e = .returned (.tuple #[]) ∧ ∃ G d V v, Bk w' b [c0, c1, c2, c3, c4, c5, c6, c7, .slice G 2 d, .slice V 1 v, c10] 108 ∧ Mv w w' (fun k => k = b) := by
  obtain ⟨w1, g, e1, h1, s1, kg, x1⟩ := newB w [.int .i64 1, .int .i64 0, .slice S q cs] 163
  have hs1 := hid (hs.ext x1)
  have hF1 := hid (hF.ext x1)
  have hbl := hid hb.lt
  have hgw := hid (show w.heap.size = g from h1.out)
  have hb1 := hid (hb.ext x1)
  have hsb := hid hsb
  have hFb := hid hFb
  replace kg := hid kg
  replace x1 := hid x1
  clear hs hF hb
  go_enter Tryz.func94, Tryz.ntmps94
  go_upto_region 1 with fail
  try simp only [e1.out, h1.out]
  clear e1 h1 s1
  have xb := (Ext.refl w1).drew_right
  refine region_J (fun w' => Ext w1 w') 10 (by kernel_rfl) ?_
  generalize w1.drew = db at xb ⊢
  refine JW 0 (v := ?vb1) rfl (by kernel_rfl) rfl ?yb1 xb ?rb1
  case yb1 => (intro w hw; (go_simp; with_reducible rfl))
  simp only [Act.put, lyA, lyB, lyC, lyD, lyE, lyF]
  refine JW 1 (v := ?vb2) rfl (by kernel_rfl) rfl ?yb2 xb ?rb2
  case yb2 => (intro w hw; (go_simp; with_reducible rfl))
  simp only [Act.put, lyA, lyB, lyC, lyD, lyE, lyF]
  refine JW 2 (v := ?vb3) rfl (by kernel_rfl) rfl ?yb3 xb ?rb3
  case yb3 => (intro w hw; (go_simp; with_reducible rfl))
  simp only [Act.put, lyA, lyB, lyC, lyD, lyE, lyF]
  refine JW 3 (v := ?vb4) rfl (by kernel_rfl) rfl ?yb4 xb ?rb4
  case yb4 => (intro w hw; (go_simp; with_reducible rfl))
  simp only [Act.put, lyA, lyB, lyC, lyD, lyE, lyF]
  refine JW 4 (v := ?vb5) rfl (by kernel_rfl) rfl ?yb5 xb ?rb5
  case yb5 => (intro w hw; have k9 := (hb1.out.ext hw).at (i := 9) rfl; obtain ⟨q0, q1, q2⟩ := (kg.out.ext hw).c3; (go_simp; with_reducible rfl))
  simp only [Act.put, lyA, lyB, lyC, lyD, lyE, lyF]
  refine JW 5 (v := ?vb6) rfl (by kernel_rfl) rfl ?yb6 xb ?rb6
  case yb6 => (intro w hw; have k9 := (hb1.out.ext hw).at (i := 9) rfl; obtain ⟨q0, q1, q2⟩ := (kg.out.ext hw).c3; (go_simp; with_reducible rfl))
  simp only [Act.put, lyA, lyB, lyC, lyD, lyE, lyF]
  refine J_one 6 rfl (by kernel_rfl) (fun K hK => ?_)
  go_simp
  have sb7 := one_rd db [.int .i64 1, .int .i64 0, .slice S q cs] 163 3 rfl
  have hxb7 := Ext.new db (.cells #[.int .i64 1, .int .i64 0, .slice S q cs] 163)
  change Rd (db.alloc (.cells #[.int .i64 1, .int .i64 0, .slice S q cs] 163)) _ _ _ _ _ at sb7
  generalize db.alloc (.cells #[.int .i64 1, .int .i64 0, .slice S q cs] 163) = wb7 at *
  generalize db.heap.size = bb7 at *
  refine hK _ _ ⟨fun _ => ((xb).trans hxb7), ?_⟩
  clear hK K
  try simp only [Act.put, lyA, lyB, lyC, lyD, lyE, lyF]
  have xb7 := ((xb).trans hxb7)
  refine J_one 7 rfl (by kernel_rfl) (fun K hK => ?_)
  obtain ⟨Ab8, cb8, wb8, happb8, ownb8, hgb8, hgbb8⟩ := app106 wb7 w1.heap.size 106 (.slice none 0 0) 0 _ (World.ownsRow_nil _ _ _ _) _ 1 1 _ sb7 (by intro u hu; simp at hu; rcases hu with rfl | rfl | rfl <;> rfl) ((xb7).size) (by omega)
  have hxb8 : Ext wb7 wb8 := ⟨hgb8.os, hgb8.tape, hgb8.output, hgb8.size, fun q hq => hgb8.block q hq (fun e => by cases e)⟩
  simp only [Nat.zero_add, List.nil_append] at happb8
  replace happb8 := hid happb8
  clear sb7 hgb8 hgbb8 ownb8
  refine step_run rfl _ (ex_append _ _ _ _ rfl _ _ (by simp [Act.eval, Act.put]) (by simp [Act.eval, Act.put]) _ happb8.out) ?_
  refine hK _ _ ⟨fun _ => ((xb7).trans hxb8), ?_⟩
  clear hK K
  try simp only [Act.put, lyA, lyB, lyC, lyD, lyE, lyF]
  have xb8 := ((xb7).trans hxb8)
  refine J_one 8 rfl (by kernel_rfl) (fun K hK => ?_)
  go_simp
  refine hK _ _ ⟨fun _ => xb8, ?_⟩
  clear hK K
  try simp only [Act.put, lyA, lyB, lyC, lyD, lyE, lyF]
  refine JW 9 (v := ?vb10) rfl (by kernel_rfl) rfl ?yb10 xb8 ?rb10
  case yb10 => (intro w hw; (go_simp; with_reducible rfl))
  simp only [Act.put, lyA, lyB, lyC, lyD, lyE, lyF]
  refine J_one 10 rfl (by kernel_rfl) (fun K hK => ?_)
  have x9 := hid (xb8)
  have k6 := hb1.out.ext x9.out
  have z5 : wb8.cell? ⟨b, 9, none⟩ = some (.slice none 0 0) := k6.at rfl
  have fz := k6.free 9
  go_simp
  refine hK _ _ ⟨fun h => absurd rfl h, ?_⟩
  clear hK K
  try simp only [Act.put, lyA, lyB, lyC, lyD, lyE, lyF]
  have k7 := hid (show Bk (wb8.setCell ⟨b, 9, none⟩ (.slice Ab8 1 cb8)) b [c0, c1, c2, c3, c4, c5, c6, c7, .slice F 2 fc, .slice Ab8 1 cb8, c10] 108 from k6.set 9 _)
  have m7 := hid (((Mv.of (F := fun k => k = b) (x1.out.trans x9.out))).set (g := b) (.inl rfl) 9 (.slice Ab8 1 cb8))
  have kb := (setCell_at wb8 b 9 (.slice Ab8 1 cb8)).2
  have hs7 := hid (Rd.keepB (hs1.out.ext x9.out) (w' := wb8.setCell ⟨b, 9, none⟩ (.slice Ab8 1 cb8)) (fun g' hg' => kb g' (hsb.out g' hg')))
  have hF7 := hid (Rd.keepB (hF1.out.ext x9.out) (w' := wb8.setCell ⟨b, 9, none⟩ (.slice Ab8 1 cb8)) (fun g' hg' => kb g' (hFb.out g' hg')))
  have kg7 := hid (Bk.keep (kg.out.ext x9.out) (kb g (by have := hgw.out; have := hbl.out; omega)))
  clear kb k6 z5 fz hb1 hs1 hF1 x9 kg x1
  generalize wb8.setCell ⟨b, 9, none⟩ (.slice Ab8 1 cb8) = w5 at *
  refine J_done (by kernel_rfl) (OnlyOn.normal ?_)
  clear happb8
  have hwt := hid (fun w' (hx : Ext w5 w') => with_any S q cs l F fc bA bn bc w' (hs7.out.ext hx) hq0 hq (hF7.out.ext hx))
  go_upto_region 2 with fail
  have xc := (Ext.refl w5).drew_right
  refine region_J (fun w' => Ext w5 w') 9 (by kernel_rfl) ?_
  generalize w5.drew = dc at xc ⊢
  refine JW 0 (v := ?vc1) rfl (by kernel_rfl) rfl ?yc1 xc ?rc1
  case yc1 => (intro w hw; (go_simp; with_reducible rfl))
  simp only [Act.put, lyA, lyB, lyC, lyD, lyE, lyF]
  refine JW 1 (v := ?vc2) rfl (by kernel_rfl) rfl ?yc2 xc ?rc2
  case yc2 => (intro w hw; (go_simp; with_reducible rfl))
  simp only [Act.put, lyA, lyB, lyC, lyD, lyE, lyF]
  refine JW 2 (v := ?vc3) rfl (by kernel_rfl) rfl ?yc3 xc ?rc3
  case yc3 => (intro w hw; (go_simp; with_reducible rfl))
  simp only [Act.put, lyA, lyB, lyC, lyD, lyE, lyF]
  refine JW 3 (v := ?vc4) rfl (by kernel_rfl) rfl ?yc4 xc ?rc4
  case yc4 => (intro w hw; (go_simp; with_reducible rfl))
  simp only [Act.put, lyA, lyB, lyC, lyD, lyE, lyF]
  refine JW 4 (v := ?vc5) rfl (by kernel_rfl) rfl ?yc5 xc ?rc5
  case yc5 => (intro w hw; have k9 := (k7.out.ext hw).at (i := 8) rfl; obtain ⟨q0, q1, q2⟩ := (kg7.out.ext hw).c3; (go_simp; with_reducible rfl))
  simp only [Act.put, lyA, lyB, lyC, lyD, lyE, lyF]
  refine JW 5 (v := ?vc6) rfl (by kernel_rfl) rfl ?yc6 xc ?rc6
  case yc6 => (intro w hw; have k9 := (k7.out.ext hw).at (i := 8) rfl; obtain ⟨q0, q1, q2⟩ := (kg7.out.ext hw).c3; (go_simp; with_reducible rfl))
  simp only [Act.put, lyA, lyB, lyC, lyD, lyE, lyF]
  refine J_one 6 rfl (by kernel_rfl) (fun K hK => ?_)
  go_simp
  refine (hwt.out _ xc).mono ?_
  rintro e9 wc7 ⟨G, d, rfl, hxc7⟩
  refine hK _ _ ⟨fun _ => ((xc).trans hxc7), ?_⟩
  clear hK K
  try simp only [Act.put, lyA, lyB, lyC, lyD, lyE, lyF]
  have xc7 := ((xc).trans hxc7)
  refine J_one 7 rfl (by kernel_rfl) (fun K hK => ?_)
  go_simp
  refine hK _ _ ⟨fun _ => xc7, ?_⟩
  clear hK K
  try simp only [Act.put, lyA, lyB, lyC, lyD, lyE, lyF]
  refine JW 8 (v := ?vc9) rfl (by kernel_rfl) rfl ?yc9 xc7 ?rc9
  case yc9 => (intro w hw; (go_simp; with_reducible rfl))
  simp only [Act.put, lyA, lyB, lyC, lyD, lyE, lyF]
  refine J_one 9 rfl (by kernel_rfl) (fun K hK => ?_)
  have x9 := hid (xc7)
  have k8 := k7.out.ext x9.out
  have z5 : wc7.cell? ⟨b, 8, none⟩ = some (.slice F 2 fc) := k8.at rfl
  have fz := k8.free 8
  go_simp
  refine hK _ _ ⟨fun h => absurd rfl h, ?_⟩
  clear hK K
  try simp only [Act.put, lyA, lyB, lyC, lyD, lyE, lyF]
  have k9 := hid (k8.set 8 (.slice G 2 d))
  have m9 := hid ((m7.out.ext x9.out).set (g := b) (.inl rfl) 8 (.slice G 2 d))
  clear k8 z5 fz k7 m7 x9 hs7 hF7 kg7 hwt
  refine J_done (by kernel_rfl) (OnlyOn.normal ?_)
  go_wp2
  refine bodyPost_end (v := .tuple #[]) (by simp [results, Tryz.results94]) rfl ?_
  exact ⟨rfl, G, d, _, _, k9.out, m9.out⟩
open Go.RowKit Go.Shelf Go.MuLone
theorem up_lk (l : List Int) (k : Int) : ∃ l', up (lkK l) k (.int .i64 0) = lkK l' := by
  unfold up
  split
  · refine ⟨l, ?_⟩
    unfold lkK
    rw [List.map_map]
    refine List.map_congr_left (fun x _ => ?_)
    by_cases h : x = k
    · subst h; simp
    · simp [h]
  · exact ⟨l ++ [k], by simp [lkK]⟩
section
variable {w w1 w' : World} {lo b n0 : Nat} {s s' p : Int} {fs : List Fd} {rs vb ra : List Rc} {mode at_ at' : Int} {M M1 : Dm}
theorem DeskI.locks {l' : List Int} (h : DeskI w lo b s p fs rs vb ra mode at_ M) (hm : IsMap keyI w' M.bl (lkK l')) (hg : w.grownBy w' (some M.bl)) (hs : w'.heap.size = w.heap.size) : DeskI w' lo b s p fs rs vb ra mode at_ { M with lk := l' } := by
  have hk : ∀ k, k < w.heap.size → M.τ k ≠ .lck → w'.heap[k]? = w.heap[k]? := fun k hk hn => hg.block k hk (fun e => by injection e with e; exact hn (by rw [e, h.tl]))
  have nt : ∀ {k : Nat} {g : Tg}, M.τ k = g → g ≠ .lck → g ≠ .no → w'.heap[k]? = w.heap[k]? := fun e h1 h2 => hk _ (h.bd _ (by rw [e]; exact h2)).2 (by rw [e]; exact h1)
  refine ⟨h.bk.keep (nt h.td (by simp) (by simp)), h.ow.keep (fun k q => nt (h.tt k q) (by simp) (by simp)), h.cm.keep (nt h.tc (by simp) (by simp)), hm,
    h.ap.keep (fun g hg => nt (h.ta g (.inl hg)) (by simp) (by simp)) (fun i hi => nt (h.ta _ (.inr ⟨i, by have := h.pl.1; omega, rfl⟩)) (by simp) (by simp)), h.pl, fun e he => ?_, h.un, h.len, h.td, h.tt, h.tc, h.tl, h.ta, h.tv,
    fun k q => ⟨(h.bd k q).1, by rw [hs]; exact (h.bd k q).2⟩⟩
  obtain ⟨i, h1, h2, h3, h4⟩ := h.cv e he
  exact ⟨i, h1, h2, h3.keep (nt (h.tv e he).1 (by simp) (by simp)), h4.keep (nt (h.tv e he).2 (by simp) (by simp))⟩
def LockTo (w w' : World) (lo b : Nat) (s p : Int) (fs : List Fd) (rs vb ra : List Rc) (mode at_ : Int) (M : Dm) : Prop := ∃ l', DeskI w' lo b s p fs rs vb ra mode at_ { M with lk := l' } ∧ Mv w w' (fun q => q = M.bl)
theorem lock_any (k : Int) (w : World) (H : DeskI w lo b s p fs rs vb ra mode at_ M) (hk : 0 ≤ k) : Calls Tryz.prog 100 #[.pointer (some ⟨b, 0, none⟩), .int .i64 0, .pointer (some ⟨b, 5, none⟩), .int .i64 k] w fun e w' =>
    e = .returned (.int .i64 0) ∧ LockTo w w' lo b s p fs rs vb ra mode at_ M := by
  obtain ⟨a0, a2, a3, a4, a5, a6, a7, a8, a21⟩ := H.c
  have hneg : ¬ k < 0 := by omega
  have hno : Hid (LockTo w w lo b s p fs rs vb ra mode at_ M) := hid ⟨M.lk, H, Mv.refl⟩
  obtain ⟨t, hlk⟩ := look87 H.lm k
  obtain ⟨w1, hup, hm, hg, hs⟩ := H.lm.store (t := 87) Tryz.underlying87 k (.int .i64 0)
  obtain ⟨l', hl'⟩ := up_lk M.lk k
  rw [hl'] at hm
  change Sem.run _ (Instr.mapUpdate _ _ (.int .i64 k) _) _ = _ at hup
  have hyes : Hid (LockTo w w1 lo b s p fs rs vb ra mode at_ M) := hid ⟨l', H.locks hm hg hs, Mv.refl.grown hg (fun g e => .inl (by injection e with e; exact e.symm))⟩
  clear H hm hg hs hl'
  rcases Bool.eq_false_or_eq_true (mode == 2) with m2 | m2 <;> rcases Bool.eq_false_or_eq_true (mode == 4) with m4 | m4 <;> rcases Bool.eq_false_or_eq_true (mode == 0) with m0 | m0 <;> cases t
  all_goals have m0' : (mode != 0) = !(mode == 0) := rfl
  all_goals rw [m0] at m0'
  all_goals go_enter Tryz.func100, Tryz.ntmps100
  all_goals go_wp2
  all_goals go_ret
  all_goals first | exact ⟨rfl, hno.out⟩ | exact ⟨rfl, hyes.out⟩
end
open Go.RowKit Go.Shelf Go.MuLone
section
variable {w w1 w' : World} {lo b n0 i : Nat} {s s' p : Int} {fs : List Fd} {rs vb ra : List Rc} {mode at_ at' : Int} {M M1 : Dm}
theorem DeskI.vbrs (h : DeskI w lo b s p fs rs vb ra mode at_ M) (hc : M.ch = []) : vb = rs := rth_ext h.len (fun i hi => h.un i (by rw [← h.len]; exact hi) (fun e he => by rw [hc] at he; cases he))
theorem DeskI.direct {rs' : List Rc} {u : Tt} (h : DeskI w lo b s p fs rs vb ra mode at_ M) (hc : M.ch = []) (hU : OwTt w' lo fs.length fs rs' u) (hL : LkT M.t u) (hm : Mv w w' M.t.F) (hl : rs'.length = rs.length) : DeskI w' lo b s p fs rs' rs' ra mode at_ { M with t := u } := by
  have nt : ∀ {k : Nat} {g : Tg}, M.τ k = g → g ≠ .tab → g ≠ .no → w'.heap[k]? = w.heap[k]? := fun e h1 h2 => hm.at (h.bd _ (by rw [e]; exact h2)).2 (fun hF => h1 (by rw [← e, h.tt _ hF]))
  refine ⟨?_, hU, h.cm.keep (nt h.tc (by simp) (by simp)), h.lm.keep (nt h.tl (by simp) (by simp)),
    h.ap.keep (fun g hg => nt (h.ta g (.inl hg)) (by simp) (by simp)) (fun i hi => nt (h.ta _ (.inr ⟨i, by have := h.pl.1; omega, rfl⟩)) (by simp) (by simp)), h.pl, fun e he => ?_, fun _ _ _ => rfl, rfl, h.td, fun k q => h.tt k (hL.2.2.2.2.2.2 k q), h.tc, h.tl, h.ta, fun e he => ?_,
    fun k q => ⟨(h.bd k q).1, Nat.lt_of_lt_of_le (h.bd k q).2 hm.size⟩⟩
  · have hb := h.bk.keep (nt h.td (by simp) (by simp))
    obtain ⟨q1, q2, q3, q4, q5, q6, -⟩ := hL
    unfold deskC at hb ⊢
    simp only
    rw [q1, q2, q3, q4, q5, q6]
    exact hb
  · rw [hc] at he; cases he
  · rw [hc] at he; cases he
theorem up_ch (l : List (Int × Rr × Rr)) (k : Int) (o n : Rr) : ∃ l', up (chK l) k (chV o n) = chK l' ∧ (∀ e ∈ l', e = (k, o, n) ∨ (e ∈ l ∧ e.1 ≠ k)) ∧ (k, o, n) ∈ l' ∧ ∀ e ∈ l, e.1 ≠ k → e ∈ l' := by
  unfold up
  split
  · rename_i hs
    refine ⟨l.map (fun e => if e.1 = k then (k, o, n) else e), ?_, fun e he => ?_, ?_, fun e he hk => List.mem_map.2 ⟨e, he, if_neg hk⟩⟩
    · unfold chK
      rw [List.map_map, List.map_map]
      refine List.map_congr_left (fun x _ => ?_)
      by_cases h : x.1 = k
      · simp [h]
      · simp [h]
    · obtain ⟨x, hx, e2⟩ := List.mem_map.1 he
      by_cases h : x.1 = k
      · rw [if_pos h] at e2; exact .inl e2.symm
      · rw [if_neg h] at e2; subst e2; exact .inr ⟨hx, h⟩
    · rcases lk_ch (l := l) (k := k) with ⟨e, he, e1, _⟩ | ⟨_, e2⟩
      · exact List.mem_map.2 ⟨e, he, if_pos e1⟩
      · rw [e2] at hs; cases hs
  · rename_i hs
    have hno : ∀ e ∈ l, e.1 ≠ k := by
      rcases lk_ch (l := l) (k := k) with ⟨e, he, e1, e2⟩ | ⟨e1, _⟩
      · rw [e2] at hs; simp at hs
      · exact e1
    refine ⟨l ++ [(k, o, n)], by simp [chK], fun e he => ?_, by simp, fun e he _ => by simp [he]⟩
    rcases List.mem_append.1 he with h | h
    · exact .inr ⟨h, hno e h⟩
    · exact .inl (by simpa using h)
theorem DeskI.change {o n : Rr} {x : Rc} {τ' : Nat → Tg} (h : DeskI w lo b s p fs rs vb ra mode at_ M) (hi : i < rs.length) (hmap : IsMap keyI w' M.bm (up (chK M.ch) ((i : Int) + 1) (chV o n))) (ho : OwV w' lo fs.length o (rth rs i)) (hn : OwV w' lo fs.length n x)
    (hτ : ∀ q, M.τ q ≠ .no → τ' q = M.τ q) (hτo : τ' (rb o) = .old ((i : Int) + 1)) (hτn : τ' (rb n) = .now ((i : Int) + 1)) (hbd : ∀ q, τ' q ≠ .no → lo ≤ q ∧ q < w'.heap.size)
    (hk : ∀ q, M.τ q ≠ .no → M.τ q ≠ .chm → M.τ q ≠ .old ((i : Int) + 1) → M.τ q ≠ .now ((i : Int) + 1) → w'.heap[q]? = w.heap[q]?) : ∃ ch', DeskI w' lo b s p fs rs (vb.set i x) ra mode at_ { M with ch := ch', τ := τ' } := by
  obtain ⟨ch', e1, e2, e3, e4⟩ := up_ch M.ch ((i : Int) + 1) o n
  rw [e1] at hmap
  have nt : ∀ {k : Nat} {g : Tg}, M.τ k = g → g ≠ .no → g ≠ .chm → g ≠ .old ((i : Int) + 1) → g ≠ .now ((i : Int) + 1) → w'.heap[k]? = w.heap[k]? := fun e a b c d => hk _ (by rw [e]; exact a) (by rw [e]; exact b) (by rw [e]; exact c) (by rw [e]; exact d)
  have tg : ∀ {k : Nat} {g : Tg}, M.τ k = g → g ≠ .no → τ' k = g := fun e a => by rw [hτ _ (by rw [e]; exact a), e]
  refine ⟨ch', h.bk.keep (nt h.td (by simp) (by simp) (by simp) (by simp)), h.ow.keep (fun k q => nt (h.tt k q) (by simp) (by simp) (by simp) (by simp)), hmap, h.lm.keep (nt h.tl (by simp) (by simp) (by simp) (by simp)),
    h.ap.keep (fun g hg => nt (h.ta g (.inl hg)) (by simp) (by simp) (by simp) (by simp)) (fun i hi => nt (h.ta _ (.inr ⟨i, by have := h.pl.1; omega, rfl⟩)) (by simp) (by simp) (by simp) (by simp)), h.pl, fun e he => ?_, fun j hj hno => ?_, by rw [List.length_set]; exact h.len,
    tg h.td (by simp), fun k q => tg (h.tt k q) (by simp), tg h.tc (by simp), tg h.tl (by simp), fun k q => tg (h.ta k q) (by simp), fun e he => ?_, hbd⟩
  · rcases e2 e he with e5 | ⟨e5, e6⟩
    · subst e5; exact ⟨i, hi, rfl, ho, by rw [rth_set_same (by rw [h.len]; exact hi)]; exact hn⟩
    · obtain ⟨j, h1, h2, h3, h4⟩ := h.cv e e5
      have hne : j ≠ i := fun q => e6 (by rw [h2, q])
      refine ⟨j, h1, h2, h3.keep (nt (h.tv e e5).1 (by simp) (by simp) ?_ (by simp)), ?_⟩
      · intro q; injection q with q; exact e6 q
      · rw [rth_set_ne hne]
        refine h4.keep (nt (h.tv e e5).2 (by simp) (by simp) (by simp) ?_)
        intro q; injection q with q; exact e6 q
  · have hne : j ≠ i := fun q => hno _ e3 (by rw [q])
    rw [rth_set_ne hne]
    refine h.un j hj (fun e he hej => hno e (e4 e he (fun q => hne (by omega))) hej)
  · rcases e2 e he with e5 | ⟨e5, e6⟩
    · subst e5; exact ⟨hτo, hτn⟩
    · exact ⟨tg (h.tv e e5).1 (by simp), tg (h.tv e e5).2 (by simp)⟩
end
open Go.RowKit Go.Shelf Go.MuLone
theorem cl61_any (g o gV k c g7 g12 m lo : Nat) (y : Vl) (l : List Vl) (w : World) (h1 : w.cell? ⟨g, o + 1, none⟩ = some (.slice (some ⟨gV, 0, none⟩) m c)) (k7 : Bk w g7 [.int .i64 y.k, .int .i64 y.n, .string y.s] 66) (k12 : Bk w g12 [.int .i64 (k : Int)] 3) (hv : w.ownsRow lo 66 3 (.slice (some ⟨gV, 0, none⟩) m c) m (vs l)) (hk : k < m) (hm : m ≤ 1000) :
    Calls Tryz.prog 61 #[.pointer (some ⟨g, o, none⟩), .pointer (some ⟨g7, 0, none⟩), .pointer (some ⟨g12, 0, none⟩)] w fun e w' => e = .returned (.tuple #[]) ∧ ∃ W, Ext w W ∧ w' = W.setCells gV (k * 3) (vcl y) := by
  have h1 := hid h1
  have k7 := hid k7
  have k12 := hid k12
  have hv := hid hv
  have i5 : 0 ≤ (k : Int) ∧ (k : Int) < m := by omega
  have i4 := IntWalk.i64_in (k : Int) (by omega)
  go_enter Tryz.func61, Tryz.ntmps61
  go_upto_region 0 with fail
  have xa := (Ext.refl w).drew_right
  refine region_J (fun w' => Ext w w') 7 (by kernel_rfl) ?_
  generalize w.drew = da at xa ⊢
  refine JW 0 (v := ?va1) rfl (by kernel_rfl) rfl ?ya1 xa ?ra1
  case ya1 => (intro w hw; (go_simp; with_reducible rfl))
  simp only [Act.put, lyA, lyB, lyC, lyD, lyE, lyF]
  refine JW 1 (v := ?va2) rfl (by kernel_rfl) rfl ?ya2 xa ?ra2
  case ya2 => (intro w hw; (go_simp; with_reducible rfl))
  simp only [Act.put, lyA, lyB, lyC, lyD, lyE, lyF]
  refine JW 2 (v := ?va3) rfl (by kernel_rfl) rfl ?ya3 xa ?ra3
  case ya3 => (intro w hw; (go_simp; with_reducible rfl))
  simp only [Act.put, lyA, lyB, lyC, lyD, lyE, lyF]
  refine JW 3 (v := ?va4) rfl (by kernel_rfl) rfl ?ya4 xa ?ra4
  case ya4 => (intro w hw; have c1 := hw.cell h1.out; obtain ⟨q0, q1, q2⟩ := (k7.out.ext hw).c3; have q3 := (k12.out.ext hw).c1; (go_simp; with_reducible rfl))
  simp only [Act.put, lyA, lyB, lyC, lyD, lyE, lyF]
  refine JW 4 (v := ?va5) rfl (by kernel_rfl) rfl ?ya5 xa ?ra5
  case ya5 => (intro w hw; have c1 := hw.cell h1.out; obtain ⟨q0, q1, q2⟩ := (k7.out.ext hw).c3; have q3 := (k12.out.ext hw).c1; (go_simp; with_reducible rfl))
  simp only [Act.put, lyA, lyB, lyC, lyD, lyE, lyF]
  refine JW 5 (v := ?va6) rfl (by kernel_rfl) rfl ?ya6 xa ?ra6
  case ya6 => (intro w hw; have c1 := hw.cell h1.out; obtain ⟨q0, q1, q2⟩ := (k7.out.ext hw).c3; have q3 := (k12.out.ext hw).c1; (go_simp; with_reducible rfl))
  simp only [Act.put, lyA, lyB, lyC, lyD, lyE, lyF]
  refine JW 6 (v := ?va7) rfl (by kernel_rfl) rfl ?ya7 xa ?ra7
  case ya7 => (intro w hw; (go_simp; with_reducible rfl))
  simp only [Act.put, lyA, lyB, lyC, lyD, lyE, lyF]
  refine J_one 7 rfl (by kernel_rfl) (fun K hK => ?_)
  have hth : da.there gV (k * 3) 3 := row_there ((xa).own hv.out) (by omega)
  have hX := hid (xa)
  refine step_store_mid rfl 66 _ _ rfl gV (k * 3) #[.int .i64 y.k, .int .i64 y.n, .string y.s] rfl rfl hth (by kernel_rfl) (by first | rfl | simp [Value.oneCell']) ?_
  refine hK _ _ ⟨fun h => absurd rfl h, ?_⟩
  clear hK K
  try simp only [Act.put, lyA, lyB, lyC, lyD, lyE, lyF]
  refine J_done (by kernel_rfl) (OnlyOn.normal ?_)
  go_wp2
  exact bodyPost_end (v := .tuple #[]) (by simp [results, Tryz.results61]) rfl ⟨rfl, da, hX.out, rfl⟩
theorem cl87_any (g o g5 : Nat) (q q0 : Bool) (w : World) (h0 : w.cell? ⟨g, o, none⟩ = some (.bool q0)) (hz : w.frozen? ⟨g, o, none⟩ = false) (k5 : Bk w g5 [.bool q] 4) :
    Calls Tryz.prog 87 #[.pointer (some ⟨g, o, none⟩), .pointer (some ⟨g5, 0, none⟩)] w fun e w' => e = .returned (.tuple #[]) ∧ w' = w.setCell ⟨g, o, none⟩ (.bool q) := by
  have c0 := k5.c1
  go_enter Tryz.func87, Tryz.ntmps87
  go_wp2
  exact bodyPost_end (v := .tuple #[]) (by simp [results, Tryz.results87]) rfl ⟨rfl, rfl⟩
end Go.Proofs.YtngoebbmgpdeiaaGreatDoor
