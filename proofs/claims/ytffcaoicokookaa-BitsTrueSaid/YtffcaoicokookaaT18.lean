import Derived.Test.YtffcaoicokookaaT17
namespace Go.Proofs.Ytffcaoicokookaa
open Go.RowKit
attribute [local go_sem ↓] Go.wp_at_zero Go.wp_at_succ
set_option linter.unusedVariables false
theorem isSetS_of {N : Int} {l : List Int} (hp : l.Pairwise (· < ·)) (hm : ∀ y ∈ l, 1 ≤ y ∧ y ≤ N) : isSetS N l = true := by
  unfold isSetS okTo
  rw [List.all_eq_true]
  intro k hk
  have hk : k < l.length := by simpa using hk
  have h1 := hm (nth l k) (by rw [nth_lt hk]; exact List.getElem_mem _)
  have h2 : k = 0 ∨ nth l (k - 1) < nth l k := by
    rcases Nat.eq_zero_or_pos k with h | h
    · exact Or.inl h
    · refine Or.inr ?_
      rw [nth_lt hk, nth_lt (show k - 1 < l.length by omega)]
      exact List.pairwise_iff_getElem.1 hp (k - 1) k (by omega) hk (by omega)
  simp [okAt]
  exact ⟨h1, h2⟩
theorem set_of_valB {l r : List Int} (h : valB l r = true) : isSetS 300 l = true ∧ isSetS 300 r = true := by
  simp only [valB, Bool.and_eq_true] at h
  exact ⟨h.1.1, h.1.2⟩
/-- The numbers of a set of records up to 300 are at most 300. -/
theorem set_len {l : List Int} (h : isSetS 300 l = true) : l.length ≤ 300 := by
  have key : ∀ k, k < l.length → (k : Int) + 1 ≤ nth l k := by
    intro k
    induction k with
    | zero => intro hk; have := isSetS_at h hk; omega
    | succ k ih => intro hk; have := ih (by omega); have := (isSetS_at h hk).2.2 (by omega); simp at this; omega
  rcases Nat.eq_zero_or_pos l.length with h0 | h0
  · omega
  · have h1 := key (l.length - 1) (by omega)
    have h2 := (isSetS_at h (k := l.length - 1) (by omega)).2.1
    omega

set_option maxRecDepth 100000 in
set_option maxHeartbeats 1000000 in
theorem Not_yes (A : Option Addr) (n c : Nat) (l : List Int) (B : Option Addr) (m d : Nat) (r : List Int) (k : Nat) (w : World) (hs : RdI w A n c l) (ht : RdI w B m d r) (hn : n ≤ 3000) (hm : m ≤ 3000) (h1 : valB l r = true) (h2 : countB (k : Int) = true) (h3 : isSetS (k : Int) r = true) (hk : k ≤ 300) :
    Calls Try.prog 26 #[.agg #[.slice A n c, .slice B m d], .int .i64 k] w (GiveBN (joinS andNot (upS k) r) (joinS andNot (upS k) l) 0 w) := by
  have e1 : errOf (valB l r) = 0 := by rw [h1]; rfl
  have hent := enter50
  clear h1
  go_enter Try.func26, Try.ntmps26
  go_wp2_with fail
  refine (Validate_any _ _ _ _ _ _ _ _ _ ((hs.alloc _).alloc _) ((ht.alloc _).alloc _) hn hm).mono ?_
  rintro e w1 ⟨rfl, hx1⟩
  have q0 : w1.cell? ⟨w.heap.size, 0, none⟩ = some (.slice A n c) := hx1.cell (by go_simp)
  have q1 : w1.cell? ⟨w.heap.size, 1, none⟩ = some (.slice B m d) := hx1.cell (by go_simp)
  have hw1 := hid (Ext.trans (((Ext.refl w).alloc_right _).alloc_right _) hx1)
  have T1 := (There.new (w.alloc (.cells #[.slice A n c, .slice B m d] 29)) #[.slice none 0 0, .slice none 0 0] 29 (n := 2) (by simp)).ext hx1
  simp at T1
  replace T1 := hid T1
  clear hx1
  go_wp2_with fail
  refine (isCount_any _ _).mono ?_
  rintro e w' ⟨rfl, rfl⟩
  go_wp2_with fail
  refine (isSet_any _ _ _ _ _ _ (ht.ext hw1.out)).mono ?_
  rintro e w2 ⟨rfl, hq⟩
  have hw2 := hid (hw1.out.trans hq.ext)
  have T2 := hid (T1.out.ext hq.ext)
  replace q0 := hq.ext.cell q0
  replace q1 := hq.ext.cell q1
  clear hq hw1 T1
  go_wp2_with fail
  clear h2 h3 e1
  have HS : Hid (∀ w', w'.cell? ⟨w.heap.size, 0, none⟩ = some (.slice A n c) → w'.cell? ⟨w.heap.size, 1, none⟩ = some (.slice B m d) → Ext w w' → There w' (w.heap.size + 1) 2 → (w'.cell? ⟨w.heap.size, 0, none⟩ = some (.slice A n c) ∧ w'.cell? ⟨w.heap.size, 1, none⟩ = some (.slice B m d) ∧ Ext w w' ∧ There w' (w.heap.size + 1) 2 ∧ w'.cell? ⟨w.heap.size + 1, 0, none⟩ = some (cellv w' ⟨w.heap.size + 1, 0, none⟩) ∧ w'.cell? ⟨w.heap.size + 1, 1, none⟩ = some (cellv w' ⟨w.heap.size + 1, 1, none⟩) ∧ w'.frozen? ⟨w.heap.size + 1, 0, none⟩ = false ∧ w'.frozen? ⟨w.heap.size + 1, 1, none⟩ = false)) :=
    fun w' y0 y1 y2 y3 => ⟨y0, y1, y2, y3, y3.cell (by omega), y3.cell (by omega), y3.free (by omega), y3.free (by omega)⟩
  have I := hid (HS.out w2.drew q0 q1 hw2.out.drew_right T2.out.drew)
  clear q0 q1
  have tok1 : True := trivial
  have tok2 : True := trivial
  have tok3 : True := trivial
  have tok4 : True := trivial
  go_region_held3 (fun w' => w'.cell? ⟨w.heap.size, 0, none⟩ = some (.slice A n c) ∧ w'.cell? ⟨w.heap.size, 1, none⟩ = some (.slice B m d) ∧ Ext w w' ∧ There w' (w.heap.size + 1) 2 ∧ w'.cell? ⟨w.heap.size + 1, 0, none⟩ = some (cellv w' ⟨w.heap.size + 1, 0, none⟩) ∧ w'.cell? ⟨w.heap.size + 1, 1, none⟩ = some (cellv w' ⟨w.heap.size + 1, 1, none⟩) ∧ w'.frozen? ⟨w.heap.size + 1, 0, none⟩ = false ∧ w'.frozen? ⟨w.heap.size + 1, 1, none⟩ = false)
    ((first | exact I.out | (go_split_ands; exact HS.out _ (hx1.cell (by assumption)) (hx1.cell (by assumption)) (Ext.trans (by assumption) hx1) (There.ext (by assumption) hx1)) | (go_split_ands; exact HS.out _ (hx2.cell (by assumption)) (hx2.cell (by assumption)) (Ext.trans (by assumption) hx2) (There.ext (by assumption) hx2)) | (go_split_ands; exact HS.out _ (hx3.cell (by assumption)) (hx3.cell (by assumption)) (Ext.trans (by assumption) hx3) (There.ext (by assumption) hx3)) | (go_split_ands; exact HS.out _ (hx4.cell (by assumption)) (hx4.cell (by assumption)) (Ext.trans (by assumption) hx4) (There.ext (by assumption) hx4)) | (go_split_ands; exact HS.out _ (cell_far (cell_far (by assumption) (by simp <;> omega)) (by simp <;> omega)) (cell_far (cell_far (by assumption) (by simp <;> omega)) (by simp <;> omega)) (Ext.set (Ext.set (by assumption) (by simp <;> omega) _) (by simp <;> omega) _) (There.set (There.set (by assumption) _ _) _ _))))
    ((first | (go_at_call 60; have _t := tok1; go_split_ands; refine (all_any k _ hk).mono ?_; rintro e W1 ⟨C1, j1, cj1, rfl, hr1, hx1, hfr1⟩; have hj1 : j1 ≤ 300 := (by have := hr1.len; rw [upS_len] at this; omega); clear _t tok1) | (go_at_call 49; have _t := tok2; go_split_ands; refine (joined_any 50 andNot hent inFirst50 _ _ _ _ B m d r _ hr1 (ht.ext (by assumption)) (by omega)).mono ?_; rintro e W2 ⟨C2, j2, cj2, rfl, hr2, hx2, hfr2⟩; clear _t tok2) | (go_at_call 60; have _t := tok3; go_split_ands; refine (all_any k _ hk).mono ?_; rintro e W3 ⟨C3, j3, cj3, rfl, hr3, hx3, hfr3⟩; have hj3 : j3 ≤ 300 := (by have := hr3.len; rw [upS_len] at this; omega); clear _t tok3) | (go_at_call 49; have _t := tok4; go_split_ands; refine (joined_any 50 andNot hent inFirst50 _ _ _ _ A n c l _ hr3 (hs.ext (by assumption)) (by omega)).mono ?_; rintro e W4 ⟨C4, j4, cj4, rfl, hr4, hx4, hfr4⟩; clear _t tok4)))
  have xE : Ext w W4 := ((((hw2.out.drew_right).trans hx1).trans hx2).trans hx3).trans hx4
  have t2 : There W4 (w.heap.size + 1) 2 := ((((T2.out.drew).ext hx1).ext hx2).ext hx3).ext hx4
  have xX : Ext w ((W4.setCell ⟨w.heap.size + 1, 0, none⟩ (.slice C2 j2 cj2)).setCell ⟨w.heap.size + 1, 1, none⟩ (.slice C4 j4 cj4)) := Ext.set (Ext.set xE (by simp <;> omega) _) (by simp <;> omega) _
  have k0 : ((W4.setCell ⟨w.heap.size + 1, 0, none⟩ (.slice C2 j2 cj2)).setCell ⟨w.heap.size + 1, 1, none⟩ (.slice C4 j4 cj4)).cell? ⟨w.heap.size + 1, 0, none⟩ = some (.slice C2 j2 cj2) := by
    rw [World.cell?_setCell_other _ _ _ _ (by simp)]
    exact World.cell?_setCell_same _ _ _ (t2.cell (o := 0) (by omega))
  have k1 : ((W4.setCell ⟨w.heap.size + 1, 0, none⟩ (.slice C2 j2 cj2)).setCell ⟨w.heap.size + 1, 1, none⟩ (.slice C4 j4 cj4)).cell? ⟨w.heap.size + 1, 1, none⟩ = some (.slice C4 j4 cj4) := World.cell?_setCell_same _ _ _ ((t2.set _ _).cell (o := 1) (by omega))
  have z0 : w.heap.size + 1 < w2.heap.size := World.block_lt_of_cell? w2 _ (T2.out.cell (o := 0) (by omega))
  have z1 := hx1.size
  have z2 := hx2.size
  have z3 := hx3.size
  have z4 := hx4.size
  simp at z1
  have f1 : RdI ((W4.setCell ⟨w.heap.size + 1, 0, none⟩ (.slice C2 j2 cj2)).setCell ⟨w.heap.size + 1, 1, none⟩ (.slice C4 j4 cj4)) C2 j2 cj2 (joinS andNot (upS k) r) := ((((hr2).ext hx3).ext hx4).far hfr2 (by simp <;> omega) _).far hfr2 (by simp <;> omega) _
  have f2 : RdI ((W4.setCell ⟨w.heap.size + 1, 0, none⟩ (.slice C2 j2 cj2)).setCell ⟨w.heap.size + 1, 1, none⟩ (.slice C4 j4 cj4)) C4 j4 cj4 (joinS andNot (upS k) l) := ((hr4).far hfr4 (by simp <;> omega) _).far hfr4 (by simp <;> omega) _
  have Fin := hid (And.intro f1 (And.intro f2 (And.intro xX (And.intro (Fr.mono hfr2 (show w.heap.size ≤ W1.heap.size by first | omega | (simp; omega))) (Fr.mono hfr4 (show w.heap.size ≤ W3.heap.size by first | omega | (simp; omega)))))))
  clear f1 f2 xX xE t2 hfr1 hr1 hx1 hfr2 hr2 hx2 hfr3 hr3 hx3 hfr4 hr4 hx4
  go_wp2
  exact bodyPost_ret (v := .tuple #[.agg #[.slice C2 j2 cj2, .slice C4 j4 cj4], .int .i64 0]) (by simp [results, Try.results26, go_sem, k0, k1]) rfl ⟨_, _, _, _, _, _, rfl, Fin.out⟩

set_option maxRecDepth 100000 in
set_option maxHeartbeats 1000000 in
theorem Not_no1 (A : Option Addr) (n c : Nat) (l : List Int) (B : Option Addr) (m d : Nat) (r : List Int) (N : Int) (w : World) (hs : RdI w A n c l) (ht : RdI w B m d r) (hn : n ≤ 3000) (hm : m ≤ 3000) (h1 : valB l r = false) :
    Calls Try.prog 26 #[.agg #[.slice A n c, .slice B m d], .int .i64 N] w (GiveBN [] [] 1 w) := by
  have e1 : errOf (valB l r) = 1 := by rw [h1]; rfl
  clear h1
  go_enter Try.func26, Try.ntmps26
  go_wp2_with fail
  refine (Validate_any _ _ _ _ _ _ _ _ _ ((hs.alloc _).alloc _) ((ht.alloc _).alloc _) hn hm).mono ?_
  rintro e w1 ⟨rfl, hx1⟩
  have q0 : w1.cell? ⟨w.heap.size, 0, none⟩ = some (.slice A n c) := hx1.cell (by go_simp)
  have q1 : w1.cell? ⟨w.heap.size, 1, none⟩ = some (.slice B m d) := hx1.cell (by go_simp)
  have hw1 := hid (Ext.trans (((Ext.refl w).alloc_right _).alloc_right _) hx1)
  have T1 := (There.new (w.alloc (.cells #[.slice A n c, .slice B m d] 29)) #[.slice none 0 0, .slice none 0 0] 29 (n := 2) (by simp)).ext hx1
  simp at T1
  replace T1 := hid T1
  clear hx1
  have hw2 := hw1
  have T2 := T1.out
  have t0 := T2.cell (o := 0) (by omega)
  have t1 := T2.cell (o := 1) (by omega)
  have u0 := T2.free (o := 0) (by omega)
  have u1 := T2.free (o := 1) (by omega)
  obtain ⟨k0, k1, Fin⟩ := pairEnd hw2.out T2 (by omega) (RdI.nil _) (RdI.nil _) (Fr.none_ _) (Fr.none_ _)
  clear T2
  go_wp2
  exact bodyPost_ret (v := .tuple #[.agg #[.slice none 0 0, .slice none 0 0], .int .i64 1]) (by simp [results, Try.results26, go_sem, k0, k1]) rfl ⟨_, _, _, _, _, _, rfl, Fin.out⟩

set_option maxRecDepth 100000 in
set_option maxHeartbeats 1000000 in
theorem Not_no2 (A : Option Addr) (n c : Nat) (l : List Int) (B : Option Addr) (m d : Nat) (r : List Int) (N : Int) (w : World) (hs : RdI w A n c l) (ht : RdI w B m d r) (hn : n ≤ 3000) (hm : m ≤ 3000) (h1 : valB l r = true) (h2 : countB N = false ∨ isSetS N r = false) :
    Calls Try.prog 26 #[.agg #[.slice A n c, .slice B m d], .int .i64 N] w (GiveBN [] [] 1 w) := by
  have e1 : errOf (valB l r) = 0 := by rw [h1]; rfl
  clear h1
  by_cases hc : countB N = true
  · have h3 : isSetS N r = false := by rcases h2 with h | h; simp [h] at hc; exact h
    clear h2
    go_enter Try.func26, Try.ntmps26
    go_wp2_with fail
    refine (Validate_any _ _ _ _ _ _ _ _ _ ((hs.alloc _).alloc _) ((ht.alloc _).alloc _) hn hm).mono ?_
    rintro e w1 ⟨rfl, hx1⟩
    have q0 : w1.cell? ⟨w.heap.size, 0, none⟩ = some (.slice A n c) := hx1.cell (by go_simp)
    have q1 : w1.cell? ⟨w.heap.size, 1, none⟩ = some (.slice B m d) := hx1.cell (by go_simp)
    have hw1 := hid (Ext.trans (((Ext.refl w).alloc_right _).alloc_right _) hx1)
    have T1 := (There.new (w.alloc (.cells #[.slice A n c, .slice B m d] 29)) #[.slice none 0 0, .slice none 0 0] 29 (n := 2) (by simp)).ext hx1
    simp at T1
    replace T1 := hid T1
    clear hx1
    go_wp2_with fail
    refine (isCount_any _ _).mono ?_
    rintro e w' ⟨rfl, rfl⟩
    go_wp2_with fail
    refine (isSet_any _ _ _ _ _ _ (ht.ext hw1.out)).mono ?_
    rintro e w2 ⟨rfl, hq⟩
    have hw2 := hid (hw1.out.trans hq.ext)
    have T2 := T1.out.ext hq.ext
    clear hq hw1 T1 q0 q1
    have t0 := T2.cell (o := 0) (by omega)
    have t1 := T2.cell (o := 1) (by omega)
    have u0 := T2.free (o := 0) (by omega)
    have u1 := T2.free (o := 1) (by omega)
    obtain ⟨k0, k1, Fin⟩ := pairEnd hw2.out T2 (by omega) (RdI.nil _) (RdI.nil _) (Fr.none_ _) (Fr.none_ _)
    clear T2
    go_wp2
    exact bodyPost_ret (v := .tuple #[.agg #[.slice none 0 0, .slice none 0 0], .int .i64 1]) (by simp [results, Try.results26, go_sem, k0, k1]) rfl ⟨_, _, _, _, _, _, rfl, Fin.out⟩
  · replace hc : countB N = false := by simpa using hc
    clear h2
    go_enter Try.func26, Try.ntmps26
    go_wp2_with fail
    refine (Validate_any _ _ _ _ _ _ _ _ _ ((hs.alloc _).alloc _) ((ht.alloc _).alloc _) hn hm).mono ?_
    rintro e w1 ⟨rfl, hx1⟩
    have q0 : w1.cell? ⟨w.heap.size, 0, none⟩ = some (.slice A n c) := hx1.cell (by go_simp)
    have q1 : w1.cell? ⟨w.heap.size, 1, none⟩ = some (.slice B m d) := hx1.cell (by go_simp)
    have hw1 := hid (Ext.trans (((Ext.refl w).alloc_right _).alloc_right _) hx1)
    have T1 := (There.new (w.alloc (.cells #[.slice A n c, .slice B m d] 29)) #[.slice none 0 0, .slice none 0 0] 29 (n := 2) (by simp)).ext hx1
    simp at T1
    replace T1 := hid T1
    clear hx1
    go_wp2_with fail
    refine (isCount_any _ _).mono ?_
    rintro e w' ⟨rfl, rfl⟩
    have hw2 := hw1
    have T2 := T1.out
    have t0 := T2.cell (o := 0) (by omega)
    have t1 := T2.cell (o := 1) (by omega)
    have u0 := T2.free (o := 0) (by omega)
    have u1 := T2.free (o := 1) (by omega)
    obtain ⟨k0, k1, Fin⟩ := pairEnd hw2.out T2 (by omega) (RdI.nil _) (RdI.nil _) (Fr.none_ _) (Fr.none_ _)
    clear T2
    go_wp2
    exact bodyPost_ret (v := .tuple #[.agg #[.slice none 0 0, .slice none 0 0], .int .i64 1]) (by simp [results, Try.results26, go_sem, k0, k1]) rfl ⟨_, _, _, _, _, _, rfl, Fin.out⟩

set_option maxRecDepth 100000 in
set_option maxHeartbeats 1000000 in
theorem rNot_yes (A : Option Addr) (n c : Nat) (l : List Int) (B : Option Addr) (m d : Nat) (r : List Int) (k : Nat) (w : World) (hs : RdI w A n c l) (ht : RdI w B m d r) (hn : n ≤ 3000) (hm : m ≤ 3000) (h1 : rvalB l r = true) (h2 : belowB r (k : Int) = true) (hk : k ≤ 300) :
    Calls Try.prog 27 #[.agg #[.slice A n c, .slice B m d], .int .i64 k] w (GiveBN (lessS (upS k) r) (lessS (upS k) l) 0 w) := by
  have e1 : errOf (rvalB l r) = 0 := by rw [h1]; rfl
  have hent := enter50
  clear h1
  go_enter Try.func27, Try.ntmps27
  go_wp2_with fail
  refine (rValidate_any _ _ _ _ _ _ _ _ _ ((hs.alloc _).alloc _) ((ht.alloc _).alloc _)).mono ?_
  rintro e w1 ⟨rfl, hx1⟩
  have q0 : w1.cell? ⟨w.heap.size, 0, none⟩ = some (.slice A n c) := hx1.cell (by go_simp)
  have q1 : w1.cell? ⟨w.heap.size, 1, none⟩ = some (.slice B m d) := hx1.cell (by go_simp)
  have hw1 := hid (Ext.trans (((Ext.refl w).alloc_right _).alloc_right _) hx1)
  have T1 := (There.new (w.alloc (.cells #[.slice A n c, .slice B m d] 29)) #[.slice none 0 0, .slice none 0 0] 29 (n := 2) (by simp)).ext hx1
  simp at T1
  replace T1 := hid T1
  clear hx1
  go_wp2_with fail
  refine (isBelow_any _ _ _ _ _ _ (ht.ext hw1.out)).mono ?_
  rintro e w2 ⟨rfl, rfl⟩
  have hw2 := hw1
  have T2 := T1
  clear hw1 T1
  go_wp2_with fail
  clear h2 e1
  have HS : Hid (∀ w', w'.cell? ⟨w.heap.size, 0, none⟩ = some (.slice A n c) → w'.cell? ⟨w.heap.size, 1, none⟩ = some (.slice B m d) → Ext w w' → There w' (w.heap.size + 1) 2 → (w'.cell? ⟨w.heap.size, 0, none⟩ = some (.slice A n c) ∧ w'.cell? ⟨w.heap.size, 1, none⟩ = some (.slice B m d) ∧ Ext w w' ∧ There w' (w.heap.size + 1) 2 ∧ w'.cell? ⟨w.heap.size + 1, 0, none⟩ = some (cellv w' ⟨w.heap.size + 1, 0, none⟩) ∧ w'.cell? ⟨w.heap.size + 1, 1, none⟩ = some (cellv w' ⟨w.heap.size + 1, 1, none⟩) ∧ w'.frozen? ⟨w.heap.size + 1, 0, none⟩ = false ∧ w'.frozen? ⟨w.heap.size + 1, 1, none⟩ = false)) :=
    fun w' y0 y1 y2 y3 => ⟨y0, y1, y2, y3, y3.cell (by omega), y3.cell (by omega), y3.free (by omega), y3.free (by omega)⟩
  have I := hid (HS.out w1.drew q0 q1 hw2.out.drew_right T2.out.drew)
  clear q0 q1
  have tok1 : True := trivial
  have tok2 : True := trivial
  have tok3 : True := trivial
  have tok4 : True := trivial
  go_region_held3 (fun w' => w'.cell? ⟨w.heap.size, 0, none⟩ = some (.slice A n c) ∧ w'.cell? ⟨w.heap.size, 1, none⟩ = some (.slice B m d) ∧ Ext w w' ∧ There w' (w.heap.size + 1) 2 ∧ w'.cell? ⟨w.heap.size + 1, 0, none⟩ = some (cellv w' ⟨w.heap.size + 1, 0, none⟩) ∧ w'.cell? ⟨w.heap.size + 1, 1, none⟩ = some (cellv w' ⟨w.heap.size + 1, 1, none⟩) ∧ w'.frozen? ⟨w.heap.size + 1, 0, none⟩ = false ∧ w'.frozen? ⟨w.heap.size + 1, 1, none⟩ = false)
    ((first | exact I.out | (go_split_ands; exact HS.out _ (hx1.cell (by assumption)) (hx1.cell (by assumption)) (Ext.trans (by assumption) hx1) (There.ext (by assumption) hx1)) | (go_split_ands; exact HS.out _ (hx2.cell (by assumption)) (hx2.cell (by assumption)) (Ext.trans (by assumption) hx2) (There.ext (by assumption) hx2)) | (go_split_ands; exact HS.out _ (hx3.cell (by assumption)) (hx3.cell (by assumption)) (Ext.trans (by assumption) hx3) (There.ext (by assumption) hx3)) | (go_split_ands; exact HS.out _ (hx4.cell (by assumption)) (hx4.cell (by assumption)) (Ext.trans (by assumption) hx4) (There.ext (by assumption) hx4)) | (go_split_ands; exact HS.out _ (cell_far (cell_far (by assumption) (by simp <;> omega)) (by simp <;> omega)) (cell_far (cell_far (by assumption) (by simp <;> omega)) (by simp <;> omega)) (Ext.set (Ext.set (by assumption) (by simp <;> omega) _) (by simp <;> omega) _) (There.set (There.set (by assumption) _ _) _ _))))
    ((first | (go_at_call 63; have _t := tok1; go_split_ands; refine (upTo_any k _ hk).mono ?_; rintro e W1 ⟨C1, j1, cj1, rfl, hr1, hx1, hfr1⟩; have hj1 : j1 ≤ 300 := (by have := hr1.len; rw [upS_len] at this; omega); clear _t tok1) | (go_at_call 62; have _t := tok2; go_split_ands; refine (less_any _ _ _ _ B m d r _ hr1 (ht.ext (by assumption)) (by omega)).mono ?_; rintro e W2 ⟨C2, j2, cj2, rfl, hr2, hx2, hfr2⟩; clear _t tok2) | (go_at_call 63; have _t := tok3; go_split_ands; refine (upTo_any k _ hk).mono ?_; rintro e W3 ⟨C3, j3, cj3, rfl, hr3, hx3, hfr3⟩; have hj3 : j3 ≤ 300 := (by have := hr3.len; rw [upS_len] at this; omega); clear _t tok3) | (go_at_call 62; have _t := tok4; go_split_ands; refine (less_any _ _ _ _ A n c l _ hr3 (hs.ext (by assumption)) (by omega)).mono ?_; rintro e W4 ⟨C4, j4, cj4, rfl, hr4, hx4, hfr4⟩; clear _t tok4)))
  have xE : Ext w W4 := ((((hw2.out.drew_right).trans hx1).trans hx2).trans hx3).trans hx4
  have t2 : There W4 (w.heap.size + 1) 2 := ((((T2.out.drew).ext hx1).ext hx2).ext hx3).ext hx4
  have xX : Ext w ((W4.setCell ⟨w.heap.size + 1, 0, none⟩ (.slice C2 j2 cj2)).setCell ⟨w.heap.size + 1, 1, none⟩ (.slice C4 j4 cj4)) := Ext.set (Ext.set xE (by simp <;> omega) _) (by simp <;> omega) _
  have k0 : ((W4.setCell ⟨w.heap.size + 1, 0, none⟩ (.slice C2 j2 cj2)).setCell ⟨w.heap.size + 1, 1, none⟩ (.slice C4 j4 cj4)).cell? ⟨w.heap.size + 1, 0, none⟩ = some (.slice C2 j2 cj2) := by
    rw [World.cell?_setCell_other _ _ _ _ (by simp)]
    exact World.cell?_setCell_same _ _ _ (t2.cell (o := 0) (by omega))
  have k1 : ((W4.setCell ⟨w.heap.size + 1, 0, none⟩ (.slice C2 j2 cj2)).setCell ⟨w.heap.size + 1, 1, none⟩ (.slice C4 j4 cj4)).cell? ⟨w.heap.size + 1, 1, none⟩ = some (.slice C4 j4 cj4) := World.cell?_setCell_same _ _ _ ((t2.set _ _).cell (o := 1) (by omega))
  have z0 : w.heap.size + 1 < w1.heap.size := World.block_lt_of_cell? w1 _ (T2.out.cell (o := 0) (by omega))
  have z1 := hx1.size
  have z2 := hx2.size
  have z3 := hx3.size
  have z4 := hx4.size
  simp at z1
  have f1 : RdI ((W4.setCell ⟨w.heap.size + 1, 0, none⟩ (.slice C2 j2 cj2)).setCell ⟨w.heap.size + 1, 1, none⟩ (.slice C4 j4 cj4)) C2 j2 cj2 (lessS (upS k) r) := ((((hr2).ext hx3).ext hx4).far hfr2 (by simp <;> omega) _).far hfr2 (by simp <;> omega) _
  have f2 : RdI ((W4.setCell ⟨w.heap.size + 1, 0, none⟩ (.slice C2 j2 cj2)).setCell ⟨w.heap.size + 1, 1, none⟩ (.slice C4 j4 cj4)) C4 j4 cj4 (lessS (upS k) l) := ((hr4).far hfr4 (by simp <;> omega) _).far hfr4 (by simp <;> omega) _
  have Fin := hid (And.intro f1 (And.intro f2 (And.intro xX (And.intro (Fr.mono hfr2 (show w.heap.size ≤ W1.heap.size by first | omega | (simp; omega))) (Fr.mono hfr4 (show w.heap.size ≤ W3.heap.size by first | omega | (simp; omega)))))))
  clear f1 f2 xX xE t2 hfr1 hr1 hx1 hfr2 hr2 hx2 hfr3 hr3 hx3 hfr4 hr4 hx4
  go_wp2
  exact bodyPost_ret (v := .tuple #[.agg #[.slice C2 j2 cj2, .slice C4 j4 cj4], .int .i64 0]) (by simp [results, Try.results27, go_sem, k0, k1]) rfl ⟨_, _, _, _, _, _, rfl, Fin.out⟩

set_option maxRecDepth 100000 in
set_option maxHeartbeats 1000000 in
theorem rNot_no1 (A : Option Addr) (n c : Nat) (l : List Int) (B : Option Addr) (m d : Nat) (r : List Int) (N : Int) (w : World) (hs : RdI w A n c l) (ht : RdI w B m d r) (hn : n ≤ 3000) (hm : m ≤ 3000) (h1 : rvalB l r = false) :
    Calls Try.prog 27 #[.agg #[.slice A n c, .slice B m d], .int .i64 N] w (GiveBN [] [] 1 w) := by
  have e1 : errOf (rvalB l r) = 1 := by rw [h1]; rfl
  clear h1
  go_enter Try.func27, Try.ntmps27
  go_wp2_with fail
  refine (rValidate_any _ _ _ _ _ _ _ _ _ ((hs.alloc _).alloc _) ((ht.alloc _).alloc _)).mono ?_
  rintro e w1 ⟨rfl, hx1⟩
  have q0 : w1.cell? ⟨w.heap.size, 0, none⟩ = some (.slice A n c) := hx1.cell (by go_simp)
  have q1 : w1.cell? ⟨w.heap.size, 1, none⟩ = some (.slice B m d) := hx1.cell (by go_simp)
  have hw1 := hid (Ext.trans (((Ext.refl w).alloc_right _).alloc_right _) hx1)
  have T1 := (There.new (w.alloc (.cells #[.slice A n c, .slice B m d] 29)) #[.slice none 0 0, .slice none 0 0] 29 (n := 2) (by simp)).ext hx1
  simp at T1
  replace T1 := hid T1
  clear hx1
  have hw2 := hw1
  have T2 := T1.out
  have t0 := T2.cell (o := 0) (by omega)
  have t1 := T2.cell (o := 1) (by omega)
  have u0 := T2.free (o := 0) (by omega)
  have u1 := T2.free (o := 1) (by omega)
  obtain ⟨k0, k1, Fin⟩ := pairEnd hw2.out T2 (by omega) (RdI.nil _) (RdI.nil _) (Fr.none_ _) (Fr.none_ _)
  clear T2
  go_wp2
  exact bodyPost_ret (v := .tuple #[.agg #[.slice none 0 0, .slice none 0 0], .int .i64 1]) (by simp [results, Try.results27, go_sem, k0, k1]) rfl ⟨_, _, _, _, _, _, rfl, Fin.out⟩

set_option maxRecDepth 100000 in
set_option maxHeartbeats 1000000 in
theorem rNot_no2 (A : Option Addr) (n c : Nat) (l : List Int) (B : Option Addr) (m d : Nat) (r : List Int) (N : Int) (w : World) (hs : RdI w A n c l) (ht : RdI w B m d r) (hn : n ≤ 3000) (hm : m ≤ 3000) (h1 : rvalB l r = true) (h2 : belowB r N = false) :
    Calls Try.prog 27 #[.agg #[.slice A n c, .slice B m d], .int .i64 N] w (GiveBN [] [] 1 w) := by
  have e1 : errOf (rvalB l r) = 0 := by rw [h1]; rfl
  clear h1
  go_enter Try.func27, Try.ntmps27
  go_wp2_with fail
  refine (rValidate_any _ _ _ _ _ _ _ _ _ ((hs.alloc _).alloc _) ((ht.alloc _).alloc _)).mono ?_
  rintro e w1 ⟨rfl, hx1⟩
  have q0 : w1.cell? ⟨w.heap.size, 0, none⟩ = some (.slice A n c) := hx1.cell (by go_simp)
  have q1 : w1.cell? ⟨w.heap.size, 1, none⟩ = some (.slice B m d) := hx1.cell (by go_simp)
  have hw1 := hid (Ext.trans (((Ext.refl w).alloc_right _).alloc_right _) hx1)
  have T1 := (There.new (w.alloc (.cells #[.slice A n c, .slice B m d] 29)) #[.slice none 0 0, .slice none 0 0] 29 (n := 2) (by simp)).ext hx1
  simp at T1
  replace T1 := hid T1
  clear hx1
  go_wp2_with fail
  refine (isBelow_any _ _ _ _ _ _ (ht.ext hw1.out)).mono ?_
  rintro e w2 ⟨rfl, rfl⟩
  have hw2 := hw1
  have T2 := T1.out
  have t0 := T2.cell (o := 0) (by omega)
  have t1 := T2.cell (o := 1) (by omega)
  have u0 := T2.free (o := 0) (by omega)
  have u1 := T2.free (o := 1) (by omega)
  obtain ⟨k0, k1, Fin⟩ := pairEnd hw2.out T2 (by omega) (RdI.nil _) (RdI.nil _) (Fr.none_ _) (Fr.none_ _)
  clear T2
  go_wp2
  exact bodyPost_ret (v := .tuple #[.agg #[.slice none 0 0, .slice none 0 0], .int .i64 1]) (by simp [results, Try.results27, go_sem, k0, k1]) rfl ⟨_, _, _, _, _, _, rfl, Fin.out⟩
end Go.Proofs.Ytffcaoicokookaa
