import Derived.Test.YtffcaoicokookaaT10
namespace Go.Proofs.Ytffcaoicokookaa
open Go.RowKit
attribute [local go_sem ↓] Go.wp_at_zero Go.wp_at_succ
set_option linter.unusedVariables false
theorem There.lt {w : World} {b n : Nat} (h : There w b n) (hn : 0 < n) : b < w.heap.size := World.block_lt_of_cell? w _ (h.cell (o := 0) hn)
/-- Two slices are stored into a block of two cells that was made by the call. -/
theorem pairEnd {w W : World} {b n1 c1 n2 c2 : Nat} {C1 C2 : Option Addr} {l1 l2 : List Int} (hE : Ext w W) (hT : There W b 2) (hb : w.heap.size ≤ b)
    (h1 : RdI W C1 n1 c1 l1) (h2 : RdI W C2 n2 c2 l2) (f1 : Fr (b + 1) C1) (f2 : Fr (b + 1) C2) :
    ((W.setCell ⟨b, 0, none⟩ (.slice C1 n1 c1)).setCell ⟨b, 1, none⟩ (.slice C2 n2 c2)).cell? ⟨b, 0, none⟩ = some (.slice C1 n1 c1) ∧
    ((W.setCell ⟨b, 0, none⟩ (.slice C1 n1 c1)).setCell ⟨b, 1, none⟩ (.slice C2 n2 c2)).cell? ⟨b, 1, none⟩ = some (.slice C2 n2 c2) ∧
    Hid (RdI ((W.setCell ⟨b, 0, none⟩ (.slice C1 n1 c1)).setCell ⟨b, 1, none⟩ (.slice C2 n2 c2)) C1 n1 c1 l1 ∧ RdI ((W.setCell ⟨b, 0, none⟩ (.slice C1 n1 c1)).setCell ⟨b, 1, none⟩ (.slice C2 n2 c2)) C2 n2 c2 l2 ∧
      Ext w ((W.setCell ⟨b, 0, none⟩ (.slice C1 n1 c1)).setCell ⟨b, 1, none⟩ (.slice C2 n2 c2)) ∧ Fr w.heap.size C1 ∧ Fr w.heap.size C2) := by
  refine ⟨?_, World.cell?_setCell_same _ _ _ ((hT.set _ _).cell (o := 1) (by omega)), (h1.far f1 (by simp) _).far f1 (by simp) _, (h2.far f2 (by simp) _).far f2 (by simp) _,
    Ext.set (Ext.set hE hb _) hb _, f1.mono (by omega), f2.mono (by omega)⟩
  rw [World.cell?_setCell_other _ _ _ _ (by simp)]
  exact World.cell?_setCell_same _ _ _ (hT.cell (o := 0) (by omega))
theorem RdI.none_any (W : World) : RdI W none 0 0 [] := RdI.nil W

set_option maxRecDepth 100000 in
set_option maxHeartbeats 1000000 in
theorem rAnd_no (A : Option Addr) (n c : Nat) (l : List Int) (B : Option Addr) (m d : Nat) (r : List Int)
    (A' : Option Addr) (n' c' : Nat) (l' : List Int) (B' : Option Addr) (m' d' : Nat) (r' : List Int) (w : World)
    (hs : RdI w A n c l) (ht : RdI w B m d r) (hs' : RdI w A' n' c' l') (ht' : RdI w B' m' d' r') (h1 : rboth l r l' r' = 1) :
    Calls Try.prog 18 #[.agg #[.slice A n c, .slice B m d], .agg #[.slice A' n' c', .slice B' m' d']] w (GiveBN [] [] 1 w) := by
  go_enter Try.func18, Try.ntmps18
  go_wp2_with fail
  refine (rboth_any _ _ _ _ _ _ _ _ _ _ _ _ _ _ _ _ _ (((hs.alloc _).alloc _).alloc _) (((ht.alloc _).alloc _).alloc _) (((hs'.alloc _).alloc _).alloc _) (((ht'.alloc _).alloc _).alloc _)).mono ?_
  rintro e w1 ⟨rfl, hx1⟩
  have hw2 := hid (Ext.trans ((((Ext.refl w).alloc_right _).alloc_right _).alloc_right _) hx1)
  have T2 := (There.new ((w.alloc (.cells #[.slice A n c, .slice B m d] 29)).alloc (.cells #[.slice A' n' c', .slice B' m' d'] 29)) #[.slice none 0 0, .slice none 0 0] 29 (n := 2) (by simp)).ext hx1
  simp at T2
  have t0 := T2.cell (o := 0) (by omega)
  have t1 := T2.cell (o := 1) (by omega)
  have u0 := T2.free (o := 0) (by omega)
  have u1 := T2.free (o := 1) (by omega)
  obtain ⟨k0, k1, Fin⟩ := pairEnd hw2.out T2 (by omega) (RdI.nil w1) (RdI.nil w1) (Fr.none_ _) (Fr.none_ _)
  clear T2
  go_wp2
  exact bodyPost_ret (v := .tuple #[.agg #[.slice none 0 0, .slice none 0 0], .int .i64 1]) (by simp [results, Try.results18, go_sem, k0, k1]) rfl ⟨_, _, _, _, _, _, rfl, Fin.out⟩

set_option maxRecDepth 100000 in
set_option maxHeartbeats 1000000 in
theorem rOr_no (A : Option Addr) (n c : Nat) (l : List Int) (B : Option Addr) (m d : Nat) (r : List Int)
    (A' : Option Addr) (n' c' : Nat) (l' : List Int) (B' : Option Addr) (m' d' : Nat) (r' : List Int) (w : World)
    (hs : RdI w A n c l) (ht : RdI w B m d r) (hs' : RdI w A' n' c' l') (ht' : RdI w B' m' d' r') (h1 : rboth l r l' r' = 1) :
    Calls Try.prog 20 #[.agg #[.slice A n c, .slice B m d], .agg #[.slice A' n' c', .slice B' m' d']] w (GiveBN [] [] 1 w) := by
  go_enter Try.func20, Try.ntmps20
  go_wp2_with fail
  refine (rboth_any _ _ _ _ _ _ _ _ _ _ _ _ _ _ _ _ _ (((hs.alloc _).alloc _).alloc _) (((ht.alloc _).alloc _).alloc _) (((hs'.alloc _).alloc _).alloc _) (((ht'.alloc _).alloc _).alloc _)).mono ?_
  rintro e w1 ⟨rfl, hx1⟩
  have hw2 := hid (Ext.trans ((((Ext.refl w).alloc_right _).alloc_right _).alloc_right _) hx1)
  have T2 := (There.new ((w.alloc (.cells #[.slice A n c, .slice B m d] 29)).alloc (.cells #[.slice A' n' c', .slice B' m' d'] 29)) #[.slice none 0 0, .slice none 0 0] 29 (n := 2) (by simp)).ext hx1
  simp at T2
  have t0 := T2.cell (o := 0) (by omega)
  have t1 := T2.cell (o := 1) (by omega)
  have u0 := T2.free (o := 0) (by omega)
  have u1 := T2.free (o := 1) (by omega)
  obtain ⟨k0, k1, Fin⟩ := pairEnd hw2.out T2 (by omega) (RdI.nil w1) (RdI.nil w1) (Fr.none_ _) (Fr.none_ _)
  clear T2
  go_wp2
  exact bodyPost_ret (v := .tuple #[.agg #[.slice none 0 0, .slice none 0 0], .int .i64 1]) (by simp [results, Try.results20, go_sem, k0, k1]) rfl ⟨_, _, _, _, _, _, rfl, Fin.out⟩

set_option maxRecDepth 100000 in
set_option maxHeartbeats 1000000 in
theorem both_no (f : Nat) (A : Option Addr) (n c : Nat) (l : List Int) (B : Option Addr) (m d : Nat) (r : List Int)
    (A' : Option Addr) (n' c' : Nat) (l' : List Int) (B' : Option Addr) (m' d' : Nat) (r' : List Int) (w : World)
    (hs : RdI w A n c l) (ht : RdI w B m d r) (hs' : RdI w A' n' c' l') (ht' : RdI w B' m' d' r') (hn : n ≤ 3000) (hm : m ≤ 3000) (hn' : n' ≤ 3000) (hm' : m' ≤ 3000) (h : valB l r = false ∨ valB l' r' = false) :
    Calls Try.prog 52 #[.agg #[.slice A n c, .slice B m d], .agg #[.slice A' n' c', .slice B' m' d'], .func (.func f) #[] #[]] w (GiveBN [] [] 1 w) := by
  by_cases h1 : valB l r = true
  · have h2 : valB l' r' = false := by rcases h with h | h; simp [h] at h1; exact h
    have e1 : errOf (valB l r) = 0 := by rw [h1]; rfl
    have e2 : errOf (valB l' r') = 1 := by rw [h2]; rfl
    clear h h1 h2
    go_enter Try.func52, Try.ntmps52
    go_wp2_with fail
    refine (Validate_any _ _ _ _ _ _ _ _ _ (((hs.alloc _).alloc _).alloc _) (((ht.alloc _).alloc _).alloc _) hn hm).mono ?_
    rintro e w1 ⟨rfl, hx1⟩
    have b0 : w1.cell? ⟨w.heap.size + 1, 0, none⟩ = some (.slice A' n' c') := hx1.cell (by go_simp)
    have b1 : w1.cell? ⟨w.heap.size + 1, 1, none⟩ = some (.slice B' m' d') := hx1.cell (by go_simp)
    have hw1 := hid (Ext.trans ((((Ext.refl w).alloc_right _).alloc_right _).alloc_right _) hx1)
    have T1 := (There.new ((w.alloc (.cells #[.slice A n c, .slice B m d] 29)).alloc (.cells #[.slice A' n' c', .slice B' m' d'] 29)) #[.slice none 0 0, .slice none 0 0] 29 (n := 2) (by simp)).ext hx1
    simp at T1
    replace T1 := hid T1
    clear hx1
    go_wp2_with fail
    refine (Validate_any _ _ _ _ _ _ _ _ _ (hs'.ext hw1.out) (ht'.ext hw1.out) hn' hm').mono ?_
    rintro e w2 ⟨rfl, hx2⟩
    have hw2 := hid (hw1.out.trans hx2)
    have T2 := T1.out.ext hx2
    clear hx2 b0 b1 T1 hw1
    have t0 := T2.cell (o := 0) (by omega)
    have t1 := T2.cell (o := 1) (by omega)
    have u0 := T2.free (o := 0) (by omega)
    have u1 := T2.free (o := 1) (by omega)
    obtain ⟨k0, k1, Fin⟩ := pairEnd hw2.out T2 (by omega) (RdI.nil w2) (RdI.nil w2) (Fr.none_ _) (Fr.none_ _)
    clear T2
    go_wp2
    exact bodyPost_ret (v := .tuple #[.agg #[.slice none 0 0, .slice none 0 0], .int .i64 1]) (by simp [results, Try.results52, go_sem, k0, k1]) rfl ⟨_, _, _, _, _, _, rfl, Fin.out⟩
  · have e1 : errOf (valB l r) = 1 := by simp [errOf, h1]
    clear h h1
    go_enter Try.func52, Try.ntmps52
    go_wp2_with fail
    refine (Validate_any _ _ _ _ _ _ _ _ _ (((hs.alloc _).alloc _).alloc _) (((ht.alloc _).alloc _).alloc _) hn hm).mono ?_
    rintro e w1 ⟨rfl, hx1⟩
    have hw2 := hid (Ext.trans ((((Ext.refl w).alloc_right _).alloc_right _).alloc_right _) hx1)
    have T2 := (There.new ((w.alloc (.cells #[.slice A n c, .slice B m d] 29)).alloc (.cells #[.slice A' n' c', .slice B' m' d'] 29)) #[.slice none 0 0, .slice none 0 0] 29 (n := 2) (by simp)).ext hx1
    simp at T2
    clear hx1
    have t0 := T2.cell (o := 0) (by omega)
    have t1 := T2.cell (o := 1) (by omega)
    have u0 := T2.free (o := 0) (by omega)
    have u1 := T2.free (o := 1) (by omega)
    obtain ⟨k0, k1, Fin⟩ := pairEnd hw2.out T2 (by omega) (RdI.nil w1) (RdI.nil w1) (Fr.none_ _) (Fr.none_ _)
    clear T2
    go_wp2
    exact bodyPost_ret (v := .tuple #[.agg #[.slice none 0 0, .slice none 0 0], .int .i64 1]) (by simp [results, Try.results52, go_sem, k0, k1]) rfl ⟨_, _, _, _, _, _, rfl, Fin.out⟩

set_option maxRecDepth 100000 in
set_option maxHeartbeats 1000000 in
theorem And_yes (A : Option Addr) (n c : Nat) (l : List Int) (B : Option Addr) (m d : Nat) (r : List Int)
    (A' : Option Addr) (n' c' : Nat) (l' : List Int) (B' : Option Addr) (m' d' : Nat) (r' : List Int) (w : World)
    (hs : RdI w A n c l) (ht : RdI w B m d r) (hs' : RdI w A' n' c' l') (ht' : RdI w B' m' d' r') (hn : n ≤ 3000) (hm : m ≤ 3000) (hn' : n' ≤ 3000) (hm' : m' ≤ 3000) (h1 : valB l r = true) (h2 : valB l' r' = true) :
    Calls Try.prog 17 #[.agg #[.slice A n c, .slice B m d], .agg #[.slice A' n' c', .slice B' m' d']] w (GiveBN (joinS and l l') (joinS and r r') 0 w) := by
  go_enter Try.func17, Try.ntmps17
  go_wp2_with fail
  refine (both_any 53 and enter53 inBoth53 _ _ _ _ _ _ _ _ _ _ _ _ _ _ _ _ _ (((hs.alloc _).alloc _).alloc _) (((ht.alloc _).alloc _).alloc _) (((hs'.alloc _).alloc _).alloc _) (((ht'.alloc _).alloc _).alloc _) hn hm hn' hm' h1 h2).mono ?_
  rintro e w1 ⟨C1, n1, c1, C2, n2, c2, rfl, r1, r2, hx1, f1, f2⟩
  have hw2 := hid (Ext.trans ((((Ext.refl w).alloc_right _).alloc_right _).alloc_right _) hx1)
  have T2 := (There.new ((w.alloc (.cells #[.slice A n c, .slice B m d] 29)).alloc (.cells #[.slice A' n' c', .slice B' m' d'] 29)) #[.slice none 0 0, .slice none 0 0] 29 (n := 2) (by simp)).ext hx1
  simp at T2 f1 f2
  have t0 := T2.cell (o := 0) (by omega)
  have t1 := T2.cell (o := 1) (by omega)
  have u0 := T2.free (o := 0) (by omega)
  have u1 := T2.free (o := 1) (by omega)
  obtain ⟨k0, k1, Fin⟩ := pairEnd hw2.out T2 (by omega) r1 r2 f1 f2
  clear hx1 r1 r2 f1 f2 hw2
  clear T2
  go_wp2
  exact bodyPost_ret (v := .tuple #[.agg #[.slice C1 n1 c1, .slice C2 n2 c2], .int .i64 0]) (by simp [results, Try.results17, go_sem, k0, k1]) rfl ⟨_, _, _, _, _, _, rfl, Fin.out⟩

set_option maxRecDepth 100000 in
set_option maxHeartbeats 1000000 in
theorem And_no (A : Option Addr) (n c : Nat) (l : List Int) (B : Option Addr) (m d : Nat) (r : List Int)
    (A' : Option Addr) (n' c' : Nat) (l' : List Int) (B' : Option Addr) (m' d' : Nat) (r' : List Int) (w : World)
    (hs : RdI w A n c l) (ht : RdI w B m d r) (hs' : RdI w A' n' c' l') (ht' : RdI w B' m' d' r') (hn : n ≤ 3000) (hm : m ≤ 3000) (hn' : n' ≤ 3000) (hm' : m' ≤ 3000) (h : valB l r = false ∨ valB l' r' = false) :
    Calls Try.prog 17 #[.agg #[.slice A n c, .slice B m d], .agg #[.slice A' n' c', .slice B' m' d']] w (GiveBN [] [] 1 w) := by
  go_enter Try.func17, Try.ntmps17
  go_wp2_with fail
  refine (both_no 53 _ _ _ _ _ _ _ _ _ _ _ _ _ _ _ _ _ (((hs.alloc _).alloc _).alloc _) (((ht.alloc _).alloc _).alloc _) (((hs'.alloc _).alloc _).alloc _) (((ht'.alloc _).alloc _).alloc _) hn hm hn' hm' h).mono ?_
  rintro e w1 ⟨C1, n1, c1, C2, n2, c2, rfl, r1, r2, hx1, f1, f2⟩
  have hw2 := hid (Ext.trans ((((Ext.refl w).alloc_right _).alloc_right _).alloc_right _) hx1)
  have T2 := (There.new ((w.alloc (.cells #[.slice A n c, .slice B m d] 29)).alloc (.cells #[.slice A' n' c', .slice B' m' d'] 29)) #[.slice none 0 0, .slice none 0 0] 29 (n := 2) (by simp)).ext hx1
  simp at T2 f1 f2
  have t0 := T2.cell (o := 0) (by omega)
  have t1 := T2.cell (o := 1) (by omega)
  have u0 := T2.free (o := 0) (by omega)
  have u1 := T2.free (o := 1) (by omega)
  obtain ⟨k0, k1, Fin⟩ := pairEnd hw2.out T2 (by omega) r1 r2 f1 f2
  clear hx1 r1 r2 f1 f2 hw2
  clear T2
  go_wp2
  exact bodyPost_ret (v := .tuple #[.agg #[.slice C1 n1 c1, .slice C2 n2 c2], .int .i64 1]) (by simp [results, Try.results17, go_sem, k0, k1]) rfl ⟨_, _, _, _, _, _, rfl, Fin.out⟩

set_option maxRecDepth 100000 in
set_option maxHeartbeats 1000000 in
theorem Or_yes (A : Option Addr) (n c : Nat) (l : List Int) (B : Option Addr) (m d : Nat) (r : List Int)
    (A' : Option Addr) (n' c' : Nat) (l' : List Int) (B' : Option Addr) (m' d' : Nat) (r' : List Int) (w : World)
    (hs : RdI w A n c l) (ht : RdI w B m d r) (hs' : RdI w A' n' c' l') (ht' : RdI w B' m' d' r') (hn : n ≤ 3000) (hm : m ≤ 3000) (hn' : n' ≤ 3000) (hm' : m' ≤ 3000) (h1 : valB l r = true) (h2 : valB l' r' = true) :
    Calls Try.prog 19 #[.agg #[.slice A n c, .slice B m d], .agg #[.slice A' n' c', .slice B' m' d']] w (GiveBN (joinS or l l') (joinS or r r') 0 w) := by
  go_enter Try.func19, Try.ntmps19
  go_wp2_with fail
  refine (both_any 56 or enter56 inAny56 _ _ _ _ _ _ _ _ _ _ _ _ _ _ _ _ _ (((hs.alloc _).alloc _).alloc _) (((ht.alloc _).alloc _).alloc _) (((hs'.alloc _).alloc _).alloc _) (((ht'.alloc _).alloc _).alloc _) hn hm hn' hm' h1 h2).mono ?_
  rintro e w1 ⟨C1, n1, c1, C2, n2, c2, rfl, r1, r2, hx1, f1, f2⟩
  have hw2 := hid (Ext.trans ((((Ext.refl w).alloc_right _).alloc_right _).alloc_right _) hx1)
  have T2 := (There.new ((w.alloc (.cells #[.slice A n c, .slice B m d] 29)).alloc (.cells #[.slice A' n' c', .slice B' m' d'] 29)) #[.slice none 0 0, .slice none 0 0] 29 (n := 2) (by simp)).ext hx1
  simp at T2 f1 f2
  have t0 := T2.cell (o := 0) (by omega)
  have t1 := T2.cell (o := 1) (by omega)
  have u0 := T2.free (o := 0) (by omega)
  have u1 := T2.free (o := 1) (by omega)
  obtain ⟨k0, k1, Fin⟩ := pairEnd hw2.out T2 (by omega) r1 r2 f1 f2
  clear hx1 r1 r2 f1 f2 hw2
  clear T2
  go_wp2
  exact bodyPost_ret (v := .tuple #[.agg #[.slice C1 n1 c1, .slice C2 n2 c2], .int .i64 0]) (by simp [results, Try.results19, go_sem, k0, k1]) rfl ⟨_, _, _, _, _, _, rfl, Fin.out⟩

set_option maxRecDepth 100000 in
set_option maxHeartbeats 1000000 in
theorem Or_no (A : Option Addr) (n c : Nat) (l : List Int) (B : Option Addr) (m d : Nat) (r : List Int)
    (A' : Option Addr) (n' c' : Nat) (l' : List Int) (B' : Option Addr) (m' d' : Nat) (r' : List Int) (w : World)
    (hs : RdI w A n c l) (ht : RdI w B m d r) (hs' : RdI w A' n' c' l') (ht' : RdI w B' m' d' r') (hn : n ≤ 3000) (hm : m ≤ 3000) (hn' : n' ≤ 3000) (hm' : m' ≤ 3000) (h : valB l r = false ∨ valB l' r' = false) :
    Calls Try.prog 19 #[.agg #[.slice A n c, .slice B m d], .agg #[.slice A' n' c', .slice B' m' d']] w (GiveBN [] [] 1 w) := by
  go_enter Try.func19, Try.ntmps19
  go_wp2_with fail
  refine (both_no 56 _ _ _ _ _ _ _ _ _ _ _ _ _ _ _ _ _ (((hs.alloc _).alloc _).alloc _) (((ht.alloc _).alloc _).alloc _) (((hs'.alloc _).alloc _).alloc _) (((ht'.alloc _).alloc _).alloc _) hn hm hn' hm' h).mono ?_
  rintro e w1 ⟨C1, n1, c1, C2, n2, c2, rfl, r1, r2, hx1, f1, f2⟩
  have hw2 := hid (Ext.trans ((((Ext.refl w).alloc_right _).alloc_right _).alloc_right _) hx1)
  have T2 := (There.new ((w.alloc (.cells #[.slice A n c, .slice B m d] 29)).alloc (.cells #[.slice A' n' c', .slice B' m' d'] 29)) #[.slice none 0 0, .slice none 0 0] 29 (n := 2) (by simp)).ext hx1
  simp at T2 f1 f2
  have t0 := T2.cell (o := 0) (by omega)
  have t1 := T2.cell (o := 1) (by omega)
  have u0 := T2.free (o := 0) (by omega)
  have u1 := T2.free (o := 1) (by omega)
  obtain ⟨k0, k1, Fin⟩ := pairEnd hw2.out T2 (by omega) r1 r2 f1 f2
  clear hx1 r1 r2 f1 f2 hw2
  clear T2
  go_wp2
  exact bodyPost_ret (v := .tuple #[.agg #[.slice C1 n1 c1, .slice C2 n2 c2], .int .i64 1]) (by simp [results, Try.results19, go_sem, k0, k1]) rfl ⟨_, _, _, _, _, _, rfl, Fin.out⟩

set_option maxRecDepth 100000 in
set_option maxHeartbeats 1000000 in
theorem samePair_any (A : Option Addr) (n c : Nat) (l : List Int) (B : Option Addr) (m d : Nat) (r : List Int)
    (A' : Option Addr) (n' c' : Nat) (l' : List Int) (B' : Option Addr) (m' d' : Nat) (r' : List Int) (w : World)
    (hs : RdI w A n c l) (ht : RdI w B m d r) (hs' : RdI w A' n' c' l') (ht' : RdI w B' m' d' r') :
    Calls Try.prog 21 #[.agg #[.slice A n c, .slice B m d], .agg #[.slice A' n' c', .slice B' m' d']] w (Give (.bool (sameS l l' && sameS r r')) w) := by
  go_enter Try.func21, Try.ntmps21
  by_cases h1 : sameS l l' = true
  · go_wp2_with fail
    refine (same_any _ _ _ _ _ _ _ _ _ ((hs.alloc _).alloc _) ((hs'.alloc _).alloc _)).mono ?_
    rintro e w1 ⟨rfl, q1, rfl⟩
    go_wp2_with fail
    refine (same_any _ _ _ _ _ _ _ _ _ (RdI.drewN ((ht.alloc _).alloc _) _) (RdI.drewN ((ht'.alloc _).alloc _) _)).mono ?_
    rintro e w1 ⟨rfl, hq⟩
    have hx := hid (Ext.trans (Ext.drewN_right (((Ext.refl w).alloc_right _).alloc_right _) _) hq.ext)
    clear hq
    go_wp2
    go_ret
    exact ⟨ret_bool (by simp [h1]), hx.out⟩
  · replace h1 : sameS l l' = false := by simpa using h1
    go_wp2_with fail
    refine (same_any _ _ _ _ _ _ _ _ _ ((hs.alloc _).alloc _) ((hs'.alloc _).alloc _)).mono ?_
    rintro e w1 ⟨rfl, q1, rfl⟩
    go_wp2
    go_ret
    exact ⟨ret_bool (by simp [h1]), Ext.drewN_right (((Ext.refl w).alloc_right _).alloc_right _) _⟩
def overB (n m : Nat) : Bool := decide (3000 < n) || decide (3000 < m)
theorem over_any (A : Option Addr) (n c : Nat) (l : List Int) (B : Option Addr) (m d : Nat) (r : List Int) (w : World) (hs : RdI w A n c l) (ht : RdI w B m d r) :
    Calls Try.prog 16 #[.agg #[.slice A n c, .slice B m d]] w (Give (.bool (overB n m)) w) := by
  have hn := hs.max
  have hm := ht.max
  by_cases h1 : 3000 < n
  · have e1 : decide ((3000 : Int) < (n : Int)) = true := by simp; omega
    go_enter Try.func16, Try.ntmps16
    go_wp2
    go_ret
    exact ⟨ret_bool (by simp [overB, h1]), (Ext.refl w).alloc_right _⟩
  · have e1 : decide ((3000 : Int) < (n : Int)) = false := by simp; omega
    by_cases h2 : 3000 < m
    · have e2 : decide ((3000 : Int) < (m : Int)) = true := by simp; omega
      go_enter Try.func16, Try.ntmps16
      go_wp2
      go_ret
      exact ⟨ret_bool (by simp [overB, h2]), (Ext.refl w).alloc_right _⟩
    · have e2 : decide ((3000 : Int) < (m : Int)) = false := by simp; omega
      go_enter Try.func16, Try.ntmps16
      go_wp2
      go_ret
      exact ⟨ret_bool (by simp [overB, h1, h2]), (Ext.refl w).alloc_right _⟩
end Go.Proofs.Ytffcaoicokookaa
