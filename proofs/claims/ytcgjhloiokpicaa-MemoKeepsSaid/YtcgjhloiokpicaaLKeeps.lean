/-
  MemoKeeps: the walk of the law.
-/
import Derived.Test.YtcgjhloiokpicaaPk
namespace Go.Proofs.Ytcgjhloiokpicaa
open Go.RowKit Go.MuLone Go.Shelf
set_option linter.unusedVariables false
set_option linter.unusedSimpArgs false
/-- A file in memory that is new since w0. -/
structure Solo (w0 w : World) (g : Nat) (size : Int) (l : List En) (v : Value) : Prop where
  ma : MA 0 w g size v l
  ex : Ext w0 w
  fg : w0.heap.size ≤ g
  fv : ∀ k, v.ownBlock = some k → w0.heap.size ≤ k
section
variable {w0 w w' : World} {g : Nat} {size : Int} {l l' : List En} {v v' : Value}
theorem Solo.step (h : Solo w0 w g size l v) (hm : MA 0 w' g size v' l') (ht : MT g v v' w w') : Solo w0 w' g size l' v' :=
  ⟨hm, ht.extF h.ex h.fg h.fv, h.fg, fun k e => by
    rcases ht.2.2.2.2.2 with h2 | h2
    · exact h.fv k (h2 ▸ e)
    · exact Nat.le_trans h.ex.size (h2 k e)⟩
theorem Solo.ext (h : Solo w0 w g size l v) (hx : Ext w w') : Solo w0 w' g size l v := ⟨h.ma.ext hx, h.ex.trans hx, h.fg, h.fv⟩
end
theorem good_nil (size : Int) : Good size [] := ⟨1, ⟨rfl, rfl⟩, by decide⟩
set_option maxRecDepth 100000 in
set_option maxHeartbeats 4000000 in
theorem keeps_law (size : Int) (s : ByteArray) (A : Option Addr) (n c : Nat) (l : List Ac) (w : World) (_ : (Lit.int IntKind.i64 size).wf = true) (_ : s.size ≤ maxLen) (h : RdA w A n c l) : Calls Try.prog 6 #[.int .i64 size, .string s, .slice A n c] w (Give (.bool true) w) := by
  have hO := hid (over_any A n c l w h)
  have hmx := Rd.max h.1
  replace h := hid h
  have hnew := hid (fun w => New_any size w)
  go_enter Try.func6, Try.ntmps6
  go_wp2_with fail
  refine hO.out.mono ?_
  rintro e w1 ⟨b, rfl, hb, hx1⟩
  replace hb := hid hb
  replace hx1 := hid hx1
  clear hO
  cases b with
  | true =>
    go_wp2_with fail
    refine (known_any _).mono ?_
    rintro e w2 ⟨rfl, hx⟩
    go_wp2
    go_ret
    exact ⟨rfl, hx1.out.trans hx⟩
  | false =>
    have hn4 := hb.out rfl
    by_cases hz : 2048 < s.size
    · have dz : (2048 : Int) < (s.size : Int) := by omega
      clear hz
      go_wp2_with fail
      refine (known_any _).mono ?_
      rintro e w2 ⟨rfl, hx⟩
      go_wp2
      go_ret
      exact ⟨rfl, hx1.out.trans hx⟩
    · have dz : ¬ (2048 : Int) < (s.size : Int) := by omega
      have hzz : Hid (s.size ≤ 2048) := by unfold Hid; omega
      clear hz
      go_wp2_with fail
      refine (hnew.out _).mono ?_
      rintro e w2 (⟨hb1, rfl, rfl⟩ | ⟨hb1, rfl, hm, hx⟩)
      · clear hb1
        go_wp2_with fail
        refine (known_any _).mono ?_
        rintro e w2 ⟨rfl, hx⟩
        go_wp2
        go_ret
        exact ⟨rfl, hx1.out.trans hx⟩
      · have hs := sz_bd hb1
        have hb2 := hid hb1
        obtain ⟨hp1, hp2, hp3⟩ := put_first hs hzz.out
        have hd0 : Hid (Solo w w2 w1.heap.size size [] (.slice none 0 0)) := ⟨hm, hx1.out.trans hx, hx1.out.size, fun k e => (by cases e)⟩
        have hP := hid (Put_any size w1.heap.size _ [] s w2 hm (good_nil size) hs.1 hs.2)
        have hg1 := hid (good_PutL (good_nil size) hs s)
        rw [hp1, hp2, hp3] at hP
        rw [hp3] at hg1
        have hh1 : Hid (Hd ⟨1, needS size s.size, 1, s⟩ [⟨1, needS size s.size, 1, s⟩]) := ⟨[], rfl⟩
        obtain ⟨x0, hx0⟩ : ∃ x0 : En, x0 = ⟨1, needS size s.size, 1, s⟩ := ⟨_, rfl⟩
        rw [← hx0] at hP hg1 hh1
        have q1 : x0.block = 1 := by rw [hx0]
        have q2 : x0.kind = 1 := by rw [hx0]
        have q3 : x0.s = s := by rw [hx0]
        clear hx0 hp1 hp2 hp3 hm hx hb1 hnew hx1
        generalize w1.heap.size = g at *
        go_wp2_with fail
        refine hP.out.mono ?_
        rintro e w3 ⟨rfl, v1, hm1, ht1⟩
        have hd1 := hid (hd0.out.step hm1 ht1)
        clear hP hm1 ht1 hd0
        go_wp2_with fail
        go_loopw [10] (fun i wr => ∃ (k : Nat) (l' : List En) (v : Value), k ≤ n ∧ i = .int .i64 k ∧ Hid (Good size l') ∧ Hid (Hd x0 l') ∧ Hid (Solo w wr g size l' v)) (fun i _ => n - (intOf i).toNat)
        case atStart => exact ⟨0, _, v1, by omega, rfl, hg1, hh1, hd1⟩
        case round =>
          clear hg1 hh1 hd1
          obtain ⟨k, l', v, hk, rfl, hG, hH, hd⟩ := hrel
          by_cases hlt : k < n
          · obtain ⟨ad, x, rfl, -, -, c0, c1, c2, c3, c4, c5⟩ := (h.out.ext hd.out.ex).at_ hlt
            obtain ⟨xo, xa, xb, xc, xs, xt⟩ := x
            dsimp only at c0 c1 c2 c3 c4 c5
            have hkk : (k : Int) < (n : Int) := by omega
            go_upto_region 14 with fail
            have hb := heap_alloc_new wr (.cells #[.int .i64 xo, .int .i64 xa, .int .i64 xb, .int .i64 xc, .string xs, .string xt] 45)
            replace hd := hid (hd.out.ext ((Ext.refl wr).alloc_right (.cells #[.int .i64 xo, .int .i64 xa, .int .i64 xb, .int .i64 xc, .string xs, .string xt] 45)))
            generalize wr.alloc (.cells #[.int .i64 xo, .int .i64 xa, .int .i64 xb, .int .i64 xc, .string xs, .string xt] 45) = w4 at *
            generalize wr.heap.size = p at *
            have e0 : w4.cell? ⟨p, 0, none⟩ = some (.int .i64 xo) := by rw [Lib.cell_of_heap hb]; rfl
            have e1 : w4.cell? ⟨p, 1, none⟩ = some (.int .i64 xa) := by rw [Lib.cell_of_heap hb]; rfl
            have e4 : w4.cell? ⟨p, 4, none⟩ = some (.string xs) := by rw [Lib.cell_of_heap hb]; rfl
            clear hb c0 c1 c2 c3 c4 c5
            by_cases ha : xa = 1
            · subst ha
              go_wp2_with fail
              go_roundw
              case rel => exact ⟨k + 1, l', v, by omega, by go_num, hG, hH, hd⟩
              case measure => simp [intOf]; omega
            · have da : (xa == 1) = false := by simpa using ha
              have hab : xa ≠ x0.block := by rw [q1]; exact ha
              replace hab := hid hab
              clear ha
              by_cases h4 : xo = 4
              · subst h4
                go_wp2_with fail
                go_roundw
                case rel => exact ⟨k + 1, l', v, by omega, by go_num, hG, hH, hd⟩
                case measure => simp [intOf]; omega
              · have d4 : (xo == 4) = false := by simpa using h4
                by_cases h2 : xo = 2
                · subst h2
                  clear h4 d4
                  go_wp2_with fail
                  refine (Replace_any size g v l' xa xs w4 hd.out.ma hG.out hs.1 hs.2).mono ?_
                  rintro e w5 ⟨rfl, v', hm5, ht5⟩
                  have hd5 := hid (hd.out.step hm5 ht5)
                  have hG5 := hid (good_rep hG.out hs xa xs)
                  have hH5 := hid (hH.out.RepL q2 hG.out hab.out xs)
                  clear hm5 ht5 hd e0 e1 e4 hG hH
                  go_wp2_with fail
                  go_roundw
                  case rel => exact ⟨k + 1, _, v', by omega, by go_num, hG5, hH5, hd5⟩
                  case measure => simp [intOf]; omega
                · have d2 : (xo == 2) = false := by simpa using h2
                  by_cases h3 : xo = 3
                  · subst h3
                    clear h4 d4 h2 d2
                    go_wp2_with fail
                    refine (Free_any size g v l' xa w4 hd.out.ma hG.out).mono ?_
                    rintro e w5 ⟨rfl, v', hm5, ht5⟩
                    have hd5 := hid (hd.out.step hm5 ht5)
                    have hG5 := hid (good_free hG.out xa)
                    have hH5 := hid (hH.out.FreeL q2 hG.out hab.out)
                    clear hm5 ht5 hd e0 e1 e4 hG hH
                    go_wp2_with fail
                    go_roundw
                    case rel => exact ⟨k + 1, _, v', by omega, by go_num, hG5, hH5, hd5⟩
                    case measure => simp [intOf]; omega
                  · have d3 : (xo == 3) = false := by simpa using h3
                    clear h4 h2 h3
                    go_wp2_with fail
                    refine (Put_any size g v l' xs w4 hd.out.ma hG.out hs.1 hs.2).mono ?_
                    rintro e w5 ⟨rfl, v', hm5, ht5⟩
                    have hd5 := hid (hd.out.step hm5 ht5)
                    have hG5 := hid (good_PutL hG.out hs xs)
                    have hH5 := hid (Hd.PutL (size := size) hH.out q2 xs)
                    clear hm5 ht5 hd e0 e1 e4 hG hH
                    go_wp2_with fail
                    go_roundw
                    case rel => exact ⟨k + 1, _, v', by omega, by go_num, hG5, hH5, hd5⟩
                    case measure => simp [intOf]; omega
          · obtain rfl : k = n := by omega
            have hkn : ¬ (k : Int) < (k : Int) := by omega
            have hget := hH.out.get q2
            rw [q1, q3] at hget
            have hGt := hid (Get_any size g v l' 1 wr hd.out.ma)
            rw [hget.1, hget.2] at hGt
            clear hget
            go_wp2_with fail
            refine hGt.out.mono ?_
            rintro e w4 ⟨rfl, v4, hm4, ht4⟩
            have hd4 := hid (hd.out.step hm4 ht4)
            clear hm4 ht4 hd hGt
            go_wp2_with fail
            refine (Bytes_any size g v4 l' w4 hd4.out.ma hG.out hs.1 hs.2).mono ?_
            rintro e w5 ⟨v5, rfl, o5, hm5, ht5⟩
            have hd5 := hid (hd4.out.step hm5 ht5)
            have hgl := hd5.out.ma.lt
            have hvl := hid hd5.out.ma.ownlt
            clear hd4 hm5 ht5
            obtain ⟨A5, c5, rfl, -⟩ := own_form o5
            have hB5 : Hid (RdB w5 A5 (fileB size l').length c5 (fileB size l')) := ⟨Rd.of_own o5, isB_file size l'⟩
            have hOp : Hid (Opens (fileB size l') size l') := ⟨hb2.out, hG.out, rfl⟩
            have hE : Hid (eqB (fileB size l') (fileB size l') = true) := (eqB_iff (isB_file size l') (isB_file size l')).2 rfl
            clear o5
            generalize fileB size l' = F at *
            have hO := hid (fun RP => Open_rp A5 F.length c5 F w5 hB5.out RP)
            go_wp2_with fail
            refine hO.out _ (fun w' _ hnf => absurd hOp.out (hnf _ _)) ?_
            intro w6 size' l2 g2 v2 hx6 hO2 hu hm6 hg2 hv2
            obtain ⟨rfl, rfl⟩ := hu _ _ hOp.out
            have hd6 := hid (hd5.out.ext hx6)
            have hap : Apart g2 v2 g v4 := ⟨by omega, fun e => by have := hv2 g e; omega, fun e => by have := hvl.out g2 e; omega, fun j e e2 => by have := hv2 j e; have := hvl.out j e2; omega⟩
            have hw5 := hd5.out.ex.size
            have hSm := hid (Same_any _ _ g2 g v2 v4 _ _ w6 hm6 hd6.out.ma hG.out hG.out hs hs hap)
            rw [(eqB_iff (isB_file _ _) (isB_file _ _)).2 rfl] at hSm
            have hgg : Hid (w.heap.size ≤ g2) := by unfold Hid; omega
            have hvv : Hid (∀ k, v2.ownBlock = some k → w.heap.size ≤ k) := fun k e => Nat.le_trans hw5 (hv2 k e)
            clear hO hO2 hu hm6 hap hx6 hd5 hOp hB5
            go_wp2_with fail
            refine hSm.out.mono ?_
            rintro e w7 ⟨rfl, wx, t1, t2⟩
            have hx7 : Hid (Ext w w7) := t2.extF (t1.extF hd6.out.ex hgg.out hvv.out) hd6.out.fg hd6.out.fv
            clear t1 t2 hSm
            go_wp2_with fail
            refine (known_any _).mono ?_
            rintro e w8 ⟨rfl, hx⟩
            go_wp2
            go_ret
            exact ⟨rfl, hx7.out.trans hx⟩
end Go.Proofs.Ytcgjhloiokpicaa
