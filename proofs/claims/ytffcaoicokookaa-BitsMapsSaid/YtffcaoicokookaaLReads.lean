import Derived.Test.YtffcaoicokookaaT25
namespace Go.Proofs.Ytffcaoicokookaa
open Go.RowKit
set_option linter.unusedVariables false
set_option linter.unusedSimpArgs false

theorem count_in {N : Int} (h : countB N = true) : 0 ≤ N ∧ N ≤ 300 := by simpa [countB] using h
theorem Unmap_any (A : Option Addr) (n c : Nat) (l : List UInt8) (N : Int) (w : World) (hs : RdB w A n c l) : Calls Try.prog 39 #[.slice A n c, .int .i64 N] w (GiveIN (unA l N) (unE l N) w) := by
  by_cases h1 : countB N = true
  · by_cases h2 : fitB n N = true
    · have h0 := count_in h1
      exact Unmap_yes A n c l N w hs h0 h1 h2 (by have : (n : Int) = (N + 7) / 8 := by simpa [fitB] using h2
                                                  omega)
    · have := Unmap_nf A n c l N w (count_in h1) h1 (by simpa using h2)
      have e : unA l N = [] ∧ unE l N = 11 := by unfold unA unE; rw [hs.len, h1, show fitB n N = false by simpa using h2]; simp
      rw [e.1, e.2]
      exact this
  · have h1' : countB N = false := by simpa using h1
    have := Unmap_nc A n c l N w h1'
    have e : unA l N = [] ∧ unE l N = 1 := by unfold unA unE; rw [h1']; simp
    rw [e.1, e.2]
    exact this
theorem rUnmap_any (A : Option Addr) (n c : Nat) (l : List UInt8) (N : Int) (w : World) (hs : RdB w A n c l) : Calls Try.prog 40 #[.slice A n c, .int .i64 N] w (GiveIN (unA l N) (unE l N) w) := by
  by_cases h1 : countB N = true
  · by_cases h2 : fitB n N = true
    · have h0 := count_in h1
      exact rUnmap_yes A n c l N w hs h0 h1 h2 (by have : (n : Int) = (N + 7) / 8 := by simpa [fitB] using h2
                                                   omega)
    · have := rUnmap_nf A n c l N w (count_in h1) h1 (by simpa using h2)
      have e : unA l N = [] ∧ unE l N = 11 := by unfold unA unE; rw [hs.len, h1, show fitB n N = false by simpa using h2]; simp
      rw [e.1, e.2]
      exact this
  · have h1' : countB N = false := by simpa using h1
    have := rUnmap_nc A n c l N w h1'
    have e : unA l N = [] ∧ unE l N = 1 := by unfold unA unE; rw [h1']; simp
    rw [e.1, e.2]
    exact this

set_option maxRecDepth 100000 in
set_option maxHeartbeats 2000000 in
theorem reads_law (A : Option Addr) (n c : Nat) (l : List UInt8) (N : Int) (w : World) (hs : RdB w A n c l) (_hN : (Lit.int .i64 N).wf = true) : Calls Try.prog 10 #[.slice A n c, .int .i64 N] w (Give (.bool true) w) := by
  have hm1 := hs.max
  by_cases hn : 3000 < n
  · have e1 : decide ((3000 : Int) < (n : Int)) = true := by simp; omega
    go_enter Try.func10, Try.ntmps10
    go_wp2_with fail
    refine (known_any _).mono ?_
    rintro e w1 ⟨rfl, hx⟩
    go_wp2
    go_ret
    exact ⟨rfl, hx⟩
  · have e1 : decide ((3000 : Int) < (n : Int)) = false := by simp; omega
    have k1 : sameS (unA l N) (unA l N) = true := by simp [sameS]
    have k2 : sameS (unpA l) (unpA l) = true := by simp [sameS]
    go_enter Try.func10, Try.ntmps10
    go_wp2_with fail
    refine (Unmap_any _ _ _ l _ _ hs).mono ?_
    rintro e w1 ⟨B1, m1, d1, rfl, h1, hx1, -⟩
    have H1 := hid h1
    have hE1 := hid hx1
    clear h1 hx1
    go_wp2_with fail
    refine (rUnmap_any _ _ _ l _ _ (hs.ext hE1.out)).mono ?_
    rintro e w2 ⟨B2, m2, d2, rfl, h2, hx2, -⟩
    replace H1 := hid (H1.out.ext hx2)
    have H2 := hid h2
    have hE2 := hid (hE1.out.trans hx2)
    clear h2 hx2
    go_wp2_with fail
    refine (Unpack_any _ _ _ l _ (hs.ext hE2.out)).mono ?_
    rintro e w3 ⟨B3, m3, d3, rfl, h3, hx3, -⟩
    replace H1 := hid (H1.out.ext hx3)
    replace H2 := hid (H2.out.ext hx3)
    have H3 := hid h3
    have hE3 := hid (hE2.out.trans hx3)
    clear h3 hx3
    go_wp2_with fail
    refine (rUnpack_any _ _ _ l _ (hs.ext hE3.out) (by omega)).mono ?_
    rintro e w4 ⟨B4, m4, d4, rfl, h4, hx4, -⟩
    replace H1 := hid (H1.out.ext hx4)
    replace H2 := hid (H2.out.ext hx4)
    replace H3 := hid (H3.out.ext hx4)
    have H4 := hid h4
    have hE4 := hid (hE3.out.trans hx4)
    clear h4 hx4
    go_wp2_with fail
    refine (same_any _ _ _ _ _ _ _ _ _ H1.out H2.out).mono ?_
    rintro e w5 ⟨rfl, hx5⟩
    replace H3 := hid (H3.out.ext hx5.ext)
    replace H4 := hid (H4.out.ext hx5.ext)
    have hE5 := hid (hE4.out.trans hx5.ext)
    clear hx5
    go_wp2_with fail
    refine (same_any _ _ _ _ _ _ _ _ _ H3.out H4.out).mono ?_
    rintro e w6 ⟨rfl, hx6⟩
    have hE6 := hid (hE5.out.trans hx6.ext)
    clear hx6
    go_wp2_with fail
    refine (known_any _).mono ?_
    rintro e w7 ⟨rfl, hx7⟩
    have hE := hid (hE6.out.trans hx7)
    clear hx7
    go_wp2
    go_ret
    exact ⟨rfl, hE.out⟩
end Go.Proofs.Ytffcaoicokookaa
