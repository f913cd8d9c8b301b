/-
  Whether a text stands at each block: the searching functions of Pack.
-/
import Derived.Test.YtcgjhloiokpicaaPu
namespace Go.Proofs.Ytcgjhloiokpicaa
open Go.RowKit Go.Shelf
set_option linter.unusedVariables false
set_option linter.unusedSimpArgs false
set_option maxRecDepth 100000 in
set_option maxHeartbeats 4000000 in
theorem packC_any (lk size : Int) (g : Nat) (v : Value) (l : List En) (b : Int) (p : Nat) (w : World) (h : MA lk w g size v l) (hc : w.cell? ⟨p, 0, none⟩ = some (.pointer (some ⟨g, 0, none⟩))) : Calls Try.prog 61 #[.int .i64 b, .pointer (some ⟨p, 0, none⟩)] w (Give (.bool (decide (findI l b < 0))) w) := by
  have lp := World.block_lt_of_cell? w _ hc
  dsimp only at lp
  have hF := hid (find_any lk size g v l b w h)
  clear h
  generalize findI l b = R at *
  go_enter Try.func61, Try.ntmps61
  go_wp2_with fail
  refine hF.out.mono ?_
  rintro e w3 ⟨rfl, hx3⟩
  go_wp2
  go_ret
  exact ⟨rfl, hx3⟩
set_option maxRecDepth 100000 in
set_option maxHeartbeats 4000000 in
theorem packIx_rp (A : Option Addr) (n c : Nat) (u : List Int) (lk size : Int) (g : Nat) (v : Value) (l : List En) (p : Nat) (w : World) (hu : RdI w A n c u) (h : MA lk w g size v l) (hc : w.cell? ⟨p, 0, none⟩ = some (.pointer (some ⟨g, 0, none⟩))) (RP : Ending → World → Prop)
    (hY : AllF l u → ∀ w', Ext w w' → RP (.returned (.int .i64 (-1))) w') (hN : ¬ AllF l u → ∀ (k : Nat) w', Ext w w' → RP (.returned (.int .i64 k)) w') :
    Calls Try.prog 71 #[.slice A n c, .func (.func 61) #[] #[.pointer (some ⟨p, 0, none⟩)]] w RP := by
  have hmx := hu.max
  have hlen := hid hu.len
  have hC := hid (fun b w' (hx : Ext w w') => packC_any lk size g v l b p w' (h.ext hx) (hx.cell hc))
  have en : ∀ (a : Value) (w : World), (callFunc 61 #[a, .pointer (some ⟨p, 0, none⟩)]).run Try.prog w = .ok (.enter 61 #[a, .pointer (some ⟨p, 0, none⟩)]) w := fun a w => by kernel_rfl
  replace hu := hid hu
  replace hY := hid hY
  replace hN := hid hN
  clear hc h
  go_enter Try.func71, Try.ntmps71
  go_wp2_with fail
  go_loopw [8] (fun i wr => ∃ k : Nat, k ≤ n ∧ i = .int .i64 k ∧ Hid (Ext w wr) ∧ Hid (∀ j, j < k → findN l (nth u j) < l.length)) (fun i _ => n - (intOf i).toNat)
  case atStart => exact ⟨0, by omega, rfl, Ext.refl _, fun j hj => absurd hj (by omega)⟩
  case round =>
    obtain ⟨k, hk, rfl, hx, hno⟩ := hrel
    by_cases hlt : k < n
    · obtain ⟨ad, rfl, x0⟩ := (hu.out.ext hx.out).at_ hlt
      have hcl := hid (hC.out (nth u k) wr hx.out)
      by_cases hf : findN l (nth u k) < l.length
      · have hd : decide (findI l (nth u k) < 0) = false := by rw [findI_ge hf]; simp
        rw [hd] at hcl
        have hn2 : Hid (∀ j, j < k + 1 → findN l (nth u j) < l.length) := by
          intro j hj
          by_cases e : j = k
          · rw [e]; exact hf
          · exact hno.out j (by omega)
        clear hno hf hd
        generalize nth u k = z0 at *
        go_wp2_with fail
        refine hcl.out.mono ?_
        rintro e w3 ⟨rfl, hx3⟩
        replace hx := hid (hx.out.trans hx3)
        clear hx3
        go_wp2_with fail
        go_roundw
        case rel => exact ⟨k + 1, by omega, by go_num, hx, hn2⟩
        case measure => simp [intOf]; omega
      · have hd : decide (findI l (nth u k) < 0) = true := by rw [show findI l (nth u k) = -1 from if_neg hf]; rfl
        rw [hd] at hcl
        have hR := hid (hN.out (fun h => hf (h k (by rw [hlen.out]; exact hlt))) k)
        clear hno hf hd hY hN
        generalize nth u k = z0 at *
        go_wp2_with fail
        refine hcl.out.mono ?_
        rintro e w3 ⟨rfl, hx3⟩
        replace hx := hid (hx.out.trans hx3)
        clear hx3
        go_wp2
        exact hR.out _ hx.out
    · obtain rfl : k = n := by omega
      have hR := hid (hY.out (fun i hi => hno.out i (by rw [← hlen.out]; exact hi)) wr hx.out)
      clear hno hY hN
      go_wp2
      exact hR.out
set_option maxRecDepth 100000 in
set_option maxHeartbeats 4000000 in
theorem packHas_rp (A : Option Addr) (n c : Nat) (u : List Int) (lk size : Int) (g : Nat) (v : Value) (l : List En) (p : Nat) (w : World) (hu : RdI w A n c u) (h : MA lk w g size v l) (hc : w.cell? ⟨p, 0, none⟩ = some (.pointer (some ⟨g, 0, none⟩))) (RP : Ending → World → Prop)
    (hY : AllF l u → ∀ w', Ext w w' → RP (.returned (.bool false)) w') (hN : ¬ AllF l u → ∀ w', Ext w w' → RP (.returned (.bool true)) w') :
    Calls Try.prog 60 #[.slice A n c, .func (.func 61) #[] #[.pointer (some ⟨p, 0, none⟩)]] w RP := by
  have hI := hid (fun RP => packIx_rp A n c u lk size g v l p w hu h hc RP)
  replace hY := hid hY
  replace hN := hid hN
  clear hc h hu
  go_enter Try.func60, Try.ntmps60
  go_wp2_with fail
  refine hI.out _ ?_ ?_
  · intro hA w' hx
    have hR := hid (hY.out hA w' hx)
    clear hY hN hA hx
    go_wp2
    exact hR.out
  · intro hA k w' hx
    have hR := hid (hN.out hA w' hx)
    have hk : (0 : Int) ≤ (k : Int) := by omega
    clear hY hN hA hx
    go_wp2
    exact hR.out
end Go.Proofs.Ytcgjhloiokpicaa
