import Derived.Test.YtffcaoicokookaaP4
import Derived.Test.YtffcaoicokookaaLReads
namespace Go.Proofs.Ytffcaoicokookaa
open Go.RowKit
set_option linter.unusedVariables false
set_option linter.unusedSimpArgs false

def okM (l : List Int) (N : Int) : Bool := countB N && isSetS N l
def mapA (l : List Int) (N : Int) : List UInt8 := if okM l N then mapL l ((N + 7) / 8).toNat else []
def mapE (l : List Int) (N : Int) : Int := if okM l N then 0 else 1
theorem Map_any (A : Option Addr) (n c : Nat) (l : List Int) (N : Int) (w : World) (hs : RdI w A n c l) : Calls Try.prog 43 #[.slice A n c, .int .i64 N] w (GiveBy (mapA l N) (mapE l N) w) := by
  unfold mapA mapE okM
  by_cases h1 : countB N = true
  · by_cases h2 : isSetS N l = true
    · rw [h1, h2]
      have h0 := count_in h1
      exact Map_yes A n c l N _ w hs h0 (by omega) h1 h2
    · rw [h1, show isSetS N l = false by simpa using h2]
      exact Map_ns A n c l N w hs h1 (by simpa using h2)
  · rw [show countB N = false by simpa using h1]
    exact Map_nc A n c l N w hs (by simpa using h1)
theorem rMap_any (A : Option Addr) (n c : Nat) (l : List Int) (N : Int) (w : World) (hs : RdI w A n c l) : Calls Try.prog 44 #[.slice A n c, .int .i64 N] w (GiveBy (mapA l N) (mapE l N) w) := by
  have hb := @below_set N l
  by_cases h1 : isSetS 300 l = true
  · by_cases h2 : belowB l N = true
    · rw [h1, h2] at hb
      have hb' : countB N = true ∧ isSetS N l = true := by simpa using hb.symm
      unfold mapA mapE okM
      rw [hb'.1, hb'.2]
      have h0 := count_in hb'.1
      exact rMap_yes A n c l N _ w hs h0 (by omega) h2 hb'.2 h1
    · rw [h1, show belowB l N = false by simpa using h2] at hb
      unfold mapA mapE okM
      rw [← hb]
      exact rMap_nb A n c l N w hs h1 (by simpa using h2)
  · rw [show isSetS 300 l = false by simpa using h1] at hb
    unfold mapA mapE okM
    rw [← hb]
    exact rMap_ns A n c l N w hs (by simpa using h1)
def pkA (l : List Int) : List UInt8 := if isSetS 300 l then packS l else []
def pkE (l : List Int) : Int := if isSetS 300 l then 0 else 1
theorem Pack_any (A : Option Addr) (n c : Nat) (l : List Int) (w : World) (hs : RdI w A n c l) (hn : n ≤ 10000) : Calls Try.prog 45 #[.slice A n c] w (GiveBy (pkA l) (pkE l) w) := by
  unfold pkA pkE
  by_cases h : isSetS 300 l = true
  · rw [h]; exact Pack_yes A n c l w hs hn h
  · rw [show isSetS 300 l = false by simpa using h]; exact Pack_no A n c l w hs (by simpa using h)
theorem rPack_any (A : Option Addr) (n c : Nat) (l : List Int) (w : World) (hs : RdI w A n c l) (hn : n ≤ 10000) : Calls Try.prog 46 #[.slice A n c] w (GiveBy (pkA l) (pkE l) w) := by
  unfold pkA pkE
  by_cases h : isSetS 300 l = true
  · rw [h]; exact rPack_yes A n c l w hs hn h
  · rw [show isSetS 300 l = false by simpa using h]; exact rPack_no A n c l w hs (by simpa using h)
/-- After the first part: what a map and a pack are read as. -/
theorem map_back (l : List Int) (N : Int) : (mapE l N = 0 ∧ unA (mapA l N) N = l ∧ unE (mapA l N) N = 0) ∨ mapE l N = 1 := by
  unfold mapA mapE okM
  by_cases h1 : countB N = true
  · by_cases h2 : isSetS N l = true
    · rw [h1, h2]
      have h0 := count_in h1
      exact Or.inl ⟨rfl, un_map (by omega) h1 h2⟩
    · rw [h1, show isSetS N l = false by simpa using h2]; exact Or.inr rfl
  · rw [show countB N = false by simpa using h1]; exact Or.inr rfl
theorem pack_back (l : List Int) : (pkE l = 0 ∧ unpA (pkA l) = l ∧ unpE (pkA l) = 0) ∨ pkE l = 1 := by
  unfold pkA pkE
  by_cases h : isSetS 300 l = true
  · rw [h]; exact Or.inl ⟨rfl, upk_pack h⟩
  · rw [show isSetS 300 l = false by simpa using h]; exact Or.inr rfl

set_option maxRecDepth 100000 in
set_option maxHeartbeats 4000000 in
theorem maps_main (A : Option Addr) (n c : Nat) (l : List Int) (N : Int) (w : World) (hs : RdI w A n c l) (hn : n ≤ 3000) (ma pa : List UInt8) (me pe : Int) (hma : mapA l N = ma) (hme : mapE l N = me) (hpa : pkA l = pa) (hpe : pkE l = pe)
    (hq1 : (me = 0 ∧ unA ma N = l ∧ unE ma N = 0) ∨ me = 1) (hq2 : (pe = 0 ∧ unpA pa = l ∧ unpE pa = 0) ∨ pe = 1) : Calls Try.prog 11 #[.slice A n c, .int .i64 N] w (Give (.bool true) w) := by
  have hm1 := hs.max
  have e1 : decide ((3000 : Int) < (n : Int)) = false := by simp; omega
  have k1 : sameS l l = true := by simp [sameS]
  have Q1 := hid hq1
  have Q2 := hid hq2
  clear hq1 hq2
  go_enter Try.func11, Try.ntmps11
  go_wp2_with fail
  refine (Map_any _ _ _ l _ _ hs).mono ?_
  rw [hma, hme]
  rintro e w1 ⟨B1, m1, d1, rfl, h1, hx1, -⟩
  have H1 := hid h1
  have hE1 := hid hx1
  clear h1 hx1
  go_wp2_with fail
  refine (rMap_any _ _ _ l _ _ (hs.ext hE1.out)).mono ?_
  rw [hma, hme]
  rintro e w2 ⟨B2, m2, d2, rfl, h2, hx2, -⟩
  replace H1 := hid (H1.out.ext hx2)
  have H2 := hid h2
  have hE2 := hid (hE1.out.trans hx2)
  clear h2 hx2
  go_wp2_with fail
  refine (Pack_any _ _ _ l _ (hs.ext hE2.out) (by omega)).mono ?_
  rw [hpa, hpe]
  rintro e w3 ⟨B3, m3, d3, rfl, h3, hx3, -⟩
  replace H1 := hid (H1.out.ext hx3)
  replace H2 := hid (H2.out.ext hx3)
  have H3 := hid h3
  have hE3 := hid (hE2.out.trans hx3)
  clear h3 hx3
  go_wp2_with fail
  refine (rPack_any _ _ _ l _ (hs.ext hE3.out) (by omega)).mono ?_
  rw [hpa, hpe]
  rintro e w4 ⟨B4, m4, d4, rfl, h4, hx4, -⟩
  replace H1 := hid (H1.out.ext hx4)
  replace H2 := hid (H2.out.ext hx4)
  replace H3 := hid (H3.out.ext hx4)
  have H4 := hid h4
  have hE4 := hid (hE3.out.trans hx4)
  clear h4 hx4
  have v1 := conv_RdB H1.out
  have v2 := conv_RdB H2.out
  have v3 := conv_RdB H3.out
  have v4 := conv_RdB H4.out
  rcases Q1.out with ⟨rfl, q1, q2⟩ | rfl
  · have u1 := hid q1
    have u2 := hid q2
    clear q1 q2
    go_wp2_with fail
    refine (Unmap_any _ _ _ ma _ _ H1.out).mono ?_
    rw [u1.out, u2.out]
    rintro e w5 ⟨B5, m5, d5, rfl, h5, hx5, -⟩
    replace H3 := hid (H3.out.ext hx5)
    have H5 := hid h5
    have hE5 := hid (hE4.out.trans hx5)
    clear h5 hx5
    go_wp2_with fail
    refine (same_any _ _ _ _ _ _ _ _ _ H5.out (hs.ext hE5.out)).mono ?_
    rintro e w6 ⟨rfl, hx6⟩
    replace H3 := hid (H3.out.ext hx6.ext)
    have hE6 := hid (hE5.out.trans hx6.ext)
    clear hx6
    rcases Q2.out with ⟨rfl, q1, q2⟩ | rfl
    · have u3 := hid q1
      have u4 := hid q2
      clear q1 q2
      go_wp2_with fail
      refine (Unpack_any _ _ _ pa _ H3.out).mono ?_
      rw [u3.out, u4.out]
      rintro e w7 ⟨B7, m7, d7, rfl, h7, hx7, -⟩
      have H7 := hid h7
      have hE7 := hid (hE6.out.trans hx7)
      clear h7 hx7
      go_wp2_with fail
      refine (same_any _ _ _ _ _ _ _ _ _ H7.out (hs.ext hE7.out)).mono ?_
      rintro e w8 ⟨rfl, hx8⟩
      have hE8 := hid (hE7.out.trans hx8.ext)
      clear hx8
      go_wp2_with fail
      refine (known_any _).mono ?_
      rintro e w9 ⟨rfl, hx9⟩
      have hE := hid (hE8.out.trans hx9)
      clear hx9
      go_wp2
      go_ret
      exact ⟨rfl, hE.out⟩
    · go_wp2_with fail
      refine (known_any _).mono ?_
      rintro e w9 ⟨rfl, hx9⟩
      have hE := hid (hE6.out.trans hx9)
      clear hx9
      go_wp2
      go_ret
      exact ⟨rfl, hE.out⟩
  · rcases Q2.out with ⟨rfl, q1, q2⟩ | rfl
    · have u3 := hid q1
      have u4 := hid q2
      clear q1 q2
      go_wp2_with fail
      refine (Unpack_any _ _ _ pa _ H3.out).mono ?_
      rw [u3.out, u4.out]
      rintro e w7 ⟨B7, m7, d7, rfl, h7, hx7, -⟩
      have H7 := hid h7
      have hE7 := hid (hE4.out.trans hx7)
      clear h7 hx7
      go_wp2_with fail
      refine (same_any _ _ _ _ _ _ _ _ _ H7.out (hs.ext hE7.out)).mono ?_
      rintro e w8 ⟨rfl, hx8⟩
      have hE8 := hid (hE7.out.trans hx8.ext)
      clear hx8
      go_wp2_with fail
      refine (known_any _).mono ?_
      rintro e w9 ⟨rfl, hx9⟩
      have hE := hid (hE8.out.trans hx9)
      clear hx9
      go_wp2
      go_ret
      exact ⟨rfl, hE.out⟩
    · go_wp2_with fail
      refine (known_any _).mono ?_
      rintro e w9 ⟨rfl, hx9⟩
      have hE := hid (hE4.out.trans hx9)
      clear hx9
      go_wp2
      go_ret
      exact ⟨rfl, hE.out⟩

set_option maxRecDepth 100000 in
set_option maxHeartbeats 2000000 in
theorem maps_law (A : Option Addr) (n c : Nat) (l : List Int) (N : Int) (w : World) (hs : RdI w A n c l) (_hN : (Lit.int .i64 N).wf = true) : Calls Try.prog 11 #[.slice A n c, .int .i64 N] w (Give (.bool true) w) := by
  have hm1 := hs.max
  by_cases hn : 3000 < n
  · have e1 : decide ((3000 : Int) < (n : Int)) = true := by simp; omega
    go_enter Try.func11, Try.ntmps11
    go_wp2_with fail
    refine (known_any _).mono ?_
    rintro e w1 ⟨rfl, hx⟩
    go_wp2
    go_ret
    exact ⟨rfl, hx⟩
  · exact maps_main A n c l N w hs (by omega) _ _ _ _ rfl rfl rfl rfl (map_back l N) (pack_back l)
end Go.Proofs.Ytffcaoicokookaa
