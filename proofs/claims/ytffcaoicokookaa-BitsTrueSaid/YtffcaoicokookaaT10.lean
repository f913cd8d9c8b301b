import Derived.Test.YtffcaoicokookaaT9
namespace Go.Proofs.Ytffcaoicokookaa
open Go.RowKit
attribute [local go_sem ↓] Go.wp_at_zero Go.wp_at_succ
set_option linter.unusedVariables false

def rboth (l r l' r' : List Int) : Int := if rvalB l r then errOf (rvalB l' r') else 1
set_option maxRecDepth 100000 in
set_option maxHeartbeats 400000 in
theorem rboth_any (A : Option Addr) (n c : Nat) (l : List Int) (B : Option Addr) (m d : Nat) (r : List Int)
    (A' : Option Addr) (n' c' : Nat) (l' : List Int) (B' : Option Addr) (m' d' : Nat) (r' : List Int) (w : World)
    (hs : RdI w A n c l) (ht : RdI w B m d r) (hs' : RdI w A' n' c' l') (ht' : RdI w B' m' d' r')  :
    Calls Try.prog 54 #[.agg #[.slice A n c, .slice B m d], .agg #[.slice A' n' c', .slice B' m' d']] w (Give (.int .i64 (rboth l r l' r')) w) := by
  by_cases h1 : rvalB l r = true
  · have e1 : errOf (rvalB l r) = 0 := by rw [h1]; rfl
    have Fin : Hid (rboth l r l' r' = errOf (rvalB l' r')) := by unfold Hid rboth; rw [if_pos h1]
    clear h1
    go_enter Try.func54, Try.ntmps54
    go_wp2_with fail
    refine (rValidate_any _ _ _ _ _ _ _ _ _ ((hs.alloc _).alloc _) ((ht.alloc _).alloc _)).mono ?_
    rintro e w1 ⟨rfl, hx1⟩
    have hw1 : Ext w w1 := Ext.trans (((Ext.refl w).alloc_right _).alloc_right _) hx1
    have b0 : w1.cell? ⟨w.heap.size + 1, 0, none⟩ = some (.slice A' n' c') := hx1.cell (by go_simp)
    have b1 : w1.cell? ⟨w.heap.size + 1, 1, none⟩ = some (.slice B' m' d') := hx1.cell (by go_simp)
    clear hx1
    go_wp2_with fail
    refine (rValidate_any _ _ _ _ _ _ _ _ _ (hs'.ext hw1) (ht'.ext hw1)).mono ?_
    rintro e w2 ⟨rfl, hx2⟩
    go_wp2
    go_ret
    exact ⟨ret_int Fin.out.symm, hw1.trans hx2⟩
  · have e1 : errOf (rvalB l r) = 1 := by simp [errOf, h1]
    have Fin : Hid (rboth l r l' r' = 1) := by unfold Hid rboth; rw [if_neg h1]
    clear h1
    go_enter Try.func54, Try.ntmps54
    go_wp2_with fail
    refine (rValidate_any _ _ _ _ _ _ _ _ _ ((hs.alloc _).alloc _) ((ht.alloc _).alloc _)).mono ?_
    rintro e w1 ⟨rfl, hx1⟩
    have hw1 : Ext w w1 := Ext.trans (((Ext.refl w).alloc_right _).alloc_right _) hx1
    clear hx1
    go_wp2
    go_ret
    exact ⟨ret_int Fin.out.symm, hw1⟩

set_option maxRecDepth 100000 in
set_option maxHeartbeats 1000000 in
theorem rAnd_yes (A : Option Addr) (n c : Nat) (l : List Int) (B : Option Addr) (m d : Nat) (r : List Int)
    (A' : Option Addr) (n' c' : Nat) (l' : List Int) (B' : Option Addr) (m' d' : Nat) (r' : List Int) (w : World)
    (hs : RdI w A n c l) (ht : RdI w B m d r) (hs' : RdI w A' n' c' l') (ht' : RdI w B' m' d' r') (hn : n ≤ 3000) (hm : m ≤ 3000) (hn' : n' ≤ 3000) (hm' : m' ≤ 3000)
    (h1 : rboth l r l' r' = 0) :
    Calls Try.prog 18 #[.agg #[.slice A n c, .slice B m d], .agg #[.slice A' n' c', .slice B' m' d']] w (GiveBN (interS l l') (interS r r') 0 w) := by
  go_enter Try.func18, Try.ntmps18
  go_wp2_with fail
  refine (rboth_any _ _ _ _ _ _ _ _ _ _ _ _ _ _ _ _ _ (((hs.alloc _).alloc _).alloc _) (((ht.alloc _).alloc _).alloc _) (((hs'.alloc _).alloc _).alloc _) (((ht'.alloc _).alloc _).alloc _)).mono ?_
  rintro e w1 ⟨rfl, hx1⟩
  have q0 : w1.cell? ⟨w.heap.size, 0, none⟩ = some (.slice A n c) := hx1.cell (by go_simp)
  have q1 : w1.cell? ⟨w.heap.size, 1, none⟩ = some (.slice B m d) := hx1.cell (by go_simp)
  have q2 : w1.cell? ⟨w.heap.size + 1, 0, none⟩ = some (.slice A' n' c') := hx1.cell (by go_simp)
  have q3 : w1.cell? ⟨w.heap.size + 1, 1, none⟩ = some (.slice B' m' d') := hx1.cell (by go_simp)
  have hw2 := hid (Ext.trans ((((Ext.refl w).alloc_right _).alloc_right _).alloc_right _) hx1)
  have T2 := (There.new ((w.alloc (.cells #[.slice A n c, .slice B m d] 29)).alloc (.cells #[.slice A' n' c', .slice B' m' d'] 29)) #[.slice none 0 0, .slice none 0 0] 29 (n := 2) (by simp)).ext hx1
  simp at T2
  replace T2 := hid T2
  clear hx1
  go_wp2_with fail
  clear h1
  have HS : Hid (∀ w', w'.cell? ⟨w.heap.size, 0, none⟩ = some (.slice A n c) → w'.cell? ⟨w.heap.size, 1, none⟩ = some (.slice B m d) → w'.cell? ⟨w.heap.size + 1, 0, none⟩ = some (.slice A' n' c') → w'.cell? ⟨w.heap.size + 1, 1, none⟩ = some (.slice B' m' d') → Ext w w' → There w' (w.heap.size + 2) 2 → (w'.cell? ⟨w.heap.size, 0, none⟩ = some (.slice A n c) ∧ w'.cell? ⟨w.heap.size, 1, none⟩ = some (.slice B m d) ∧ w'.cell? ⟨w.heap.size + 1, 0, none⟩ = some (.slice A' n' c') ∧ w'.cell? ⟨w.heap.size + 1, 1, none⟩ = some (.slice B' m' d') ∧ Ext w w' ∧ There w' (w.heap.size + 2) 2 ∧ w'.cell? ⟨w.heap.size + 2, 0, none⟩ = some (cellv w' ⟨w.heap.size + 2, 0, none⟩) ∧ w'.cell? ⟨w.heap.size + 2, 1, none⟩ = some (cellv w' ⟨w.heap.size + 2, 1, none⟩) ∧ w'.frozen? ⟨w.heap.size + 2, 0, none⟩ = false ∧ w'.frozen? ⟨w.heap.size + 2, 1, none⟩ = false)) :=
    fun w' y0 y1 y2 y3 y4 y5 => ⟨y0, y1, y2, y3, y4, y5, y5.cell (by omega), y5.cell (by omega), y5.free (by omega), y5.free (by omega)⟩
  have I := hid (HS.out w1.drew q0 q1 q2 q3 hw2.out.drew_right T2.out.drew)
  clear q0 q1 q2 q3
  have tok1 : True := trivial
  have tok2 : True := trivial
  go_region_held3 (fun w' => w'.cell? ⟨w.heap.size, 0, none⟩ = some (.slice A n c) ∧ w'.cell? ⟨w.heap.size, 1, none⟩ = some (.slice B m d) ∧ w'.cell? ⟨w.heap.size + 1, 0, none⟩ = some (.slice A' n' c') ∧ w'.cell? ⟨w.heap.size + 1, 1, none⟩ = some (.slice B' m' d') ∧ Ext w w' ∧ There w' (w.heap.size + 2) 2 ∧ w'.cell? ⟨w.heap.size + 2, 0, none⟩ = some (cellv w' ⟨w.heap.size + 2, 0, none⟩) ∧ w'.cell? ⟨w.heap.size + 2, 1, none⟩ = some (cellv w' ⟨w.heap.size + 2, 1, none⟩) ∧ w'.frozen? ⟨w.heap.size + 2, 0, none⟩ = false ∧ w'.frozen? ⟨w.heap.size + 2, 1, none⟩ = false)
    ((first | exact I.out | (go_split_ands; exact HS.out _ (hx1.cell (by assumption)) (hx1.cell (by assumption)) (hx1.cell (by assumption)) (hx1.cell (by assumption)) (Ext.trans (by assumption) hx1) (There.ext (by assumption) hx1)) | (go_split_ands; exact HS.out _ (hx2.cell (by assumption)) (hx2.cell (by assumption)) (hx2.cell (by assumption)) (hx2.cell (by assumption)) (Ext.trans (by assumption) hx2) (There.ext (by assumption) hx2)) | (go_split_ands; exact HS.out _ (cell_far (cell_far (by assumption) (by simp <;> omega)) (by simp <;> omega)) (cell_far (cell_far (by assumption) (by simp <;> omega)) (by simp <;> omega)) (cell_far (cell_far (by assumption) (by simp <;> omega)) (by simp <;> omega)) (cell_far (cell_far (by assumption) (by simp <;> omega)) (by simp <;> omega)) (Ext.set (Ext.set (by assumption) (by simp <;> omega) _) (by simp <;> omega) _) (There.set (There.set (by assumption) _ _) _ _))))
    ((first | (go_at_call 55; have _t := tok1; go_split_ands; refine (inBoth_any A n c l A' n' c' l' _ (hs.ext (by assumption)) (hs'.ext (by assumption)) (by omega)).mono ?_; rintro e W1 ⟨C1, j1, cj1, rfl, hr1, hx1, hfr1⟩; clear _t tok1) | (go_at_call 55; have _t := tok2; go_split_ands; refine (inBoth_any B m d r B' m' d' r' _ (ht.ext (by assumption)) (ht'.ext (by assumption)) (by omega)).mono ?_; rintro e W2 ⟨C2, j2, cj2, rfl, hr2, hx2, hfr2⟩; clear _t tok2)))
  have xE : Ext w W2 := ((hw2.out.drew_right).trans hx1).trans hx2
  have t2 : There W2 (w.heap.size + 2) 2 := ((T2.out.drew).ext hx1).ext hx2
  have xX : Ext w ((W2.setCell ⟨w.heap.size + 1 + 1, 0, none⟩ (.slice C1 j1 cj1)).setCell ⟨w.heap.size + 1 + 1, 1, none⟩ (.slice C2 j2 cj2)) := Ext.set (Ext.set xE (by simp <;> omega) _) (by simp <;> omega) _
  have k0 : ((W2.setCell ⟨w.heap.size + 1 + 1, 0, none⟩ (.slice C1 j1 cj1)).setCell ⟨w.heap.size + 1 + 1, 1, none⟩ (.slice C2 j2 cj2)).cell? ⟨w.heap.size + 1 + 1, 0, none⟩ = some (.slice C1 j1 cj1) := by
    rw [World.cell?_setCell_other _ _ _ _ (by simp)]
    exact World.cell?_setCell_same _ _ _ (t2.cell (o := 0) (by omega))
  have k1 : ((W2.setCell ⟨w.heap.size + 1 + 1, 0, none⟩ (.slice C1 j1 cj1)).setCell ⟨w.heap.size + 1 + 1, 1, none⟩ (.slice C2 j2 cj2)).cell? ⟨w.heap.size + 1 + 1, 1, none⟩ = some (.slice C2 j2 cj2) := World.cell?_setCell_same _ _ _ ((t2.set _ _).cell (o := 1) (by omega))
  have z0 : w.heap.size + 2 < w1.heap.size := World.block_lt_of_cell? w1 _ (T2.out.cell (o := 0) (by omega))
  have z1 := hx1.size
  have z2 := hx2.size
  simp at z1
  have f1 : RdI ((W2.setCell ⟨w.heap.size + 1 + 1, 0, none⟩ (.slice C1 j1 cj1)).setCell ⟨w.heap.size + 1 + 1, 1, none⟩ (.slice C2 j2 cj2)) C1 j1 cj1 (interS l l') := (((hr1).ext hx2).far hfr1 (by simp <;> omega) _).far hfr1 (by simp <;> omega) _
  have f2 : RdI ((W2.setCell ⟨w.heap.size + 1 + 1, 0, none⟩ (.slice C1 j1 cj1)).setCell ⟨w.heap.size + 1 + 1, 1, none⟩ (.slice C2 j2 cj2)) C2 j2 cj2 (interS r r') := ((hr2).far hfr2 (by simp <;> omega) _).far hfr2 (by simp <;> omega) _
  have Fin := hid (And.intro f1 (And.intro f2 (And.intro xX (And.intro (Fr.mono hfr1 (show w.heap.size ≤ w1.drew.heap.size by first | omega | (simp; omega))) (Fr.mono hfr2 (show w.heap.size ≤ W1.heap.size by first | omega | (simp; omega)))))))
  clear f1 f2 xX xE t2 hfr1 hr1 hx1 hfr2 hr2 hx2
  go_wp2
  exact bodyPost_ret (v := .tuple #[.agg #[.slice C1 j1 cj1, .slice C2 j2 cj2], .int .i64 0]) (by simp [results, Try.results18, go_sem, k0, k1]) rfl ⟨_, _, _, _, _, _, rfl, Fin.out⟩

set_option maxRecDepth 100000 in
set_option maxHeartbeats 1000000 in
theorem rOr_yes (A : Option Addr) (n c : Nat) (l : List Int) (B : Option Addr) (m d : Nat) (r : List Int)
    (A' : Option Addr) (n' c' : Nat) (l' : List Int) (B' : Option Addr) (m' d' : Nat) (r' : List Int) (w : World)
    (hs : RdI w A n c l) (ht : RdI w B m d r) (hs' : RdI w A' n' c' l') (ht' : RdI w B' m' d' r') (hn : n ≤ 3000) (hm : m ≤ 3000) (hn' : n' ≤ 3000) (hm' : m' ≤ 3000)
    (h1 : rboth l r l' r' = 0) :
    Calls Try.prog 20 #[.agg #[.slice A n c, .slice B m d], .agg #[.slice A' n' c', .slice B' m' d']] w (GiveBN (eitherS l l') (eitherS r r') 0 w) := by
  go_enter Try.func20, Try.ntmps20
  go_wp2_with fail
  refine (rboth_any _ _ _ _ _ _ _ _ _ _ _ _ _ _ _ _ _ (((hs.alloc _).alloc _).alloc _) (((ht.alloc _).alloc _).alloc _) (((hs'.alloc _).alloc _).alloc _) (((ht'.alloc _).alloc _).alloc _)).mono ?_
  rintro e w1 ⟨rfl, hx1⟩
  have q0 : w1.cell? ⟨w.heap.size, 0, none⟩ = some (.slice A n c) := hx1.cell (by go_simp)
  have q1 : w1.cell? ⟨w.heap.size, 1, none⟩ = some (.slice B m d) := hx1.cell (by go_simp)
  have q2 : w1.cell? ⟨w.heap.size + 1, 0, none⟩ = some (.slice A' n' c') := hx1.cell (by go_simp)
  have q3 : w1.cell? ⟨w.heap.size + 1, 1, none⟩ = some (.slice B' m' d') := hx1.cell (by go_simp)
  have hw2 := hid (Ext.trans ((((Ext.refl w).alloc_right _).alloc_right _).alloc_right _) hx1)
  have T2 := (There.new ((w.alloc (.cells #[.slice A n c, .slice B m d] 29)).alloc (.cells #[.slice A' n' c', .slice B' m' d'] 29)) #[.slice none 0 0, .slice none 0 0] 29 (n := 2) (by simp)).ext hx1
  simp at T2
  replace T2 := hid T2
  clear hx1
  go_wp2_with fail
  clear h1
  have HS : Hid (∀ w', w'.cell? ⟨w.heap.size, 0, none⟩ = some (.slice A n c) → w'.cell? ⟨w.heap.size, 1, none⟩ = some (.slice B m d) → w'.cell? ⟨w.heap.size + 1, 0, none⟩ = some (.slice A' n' c') → w'.cell? ⟨w.heap.size + 1, 1, none⟩ = some (.slice B' m' d') → Ext w w' → There w' (w.heap.size + 2) 2 → (w'.cell? ⟨w.heap.size, 0, none⟩ = some (.slice A n c) ∧ w'.cell? ⟨w.heap.size, 1, none⟩ = some (.slice B m d) ∧ w'.cell? ⟨w.heap.size + 1, 0, none⟩ = some (.slice A' n' c') ∧ w'.cell? ⟨w.heap.size + 1, 1, none⟩ = some (.slice B' m' d') ∧ Ext w w' ∧ There w' (w.heap.size + 2) 2 ∧ w'.cell? ⟨w.heap.size + 2, 0, none⟩ = some (cellv w' ⟨w.heap.size + 2, 0, none⟩) ∧ w'.cell? ⟨w.heap.size + 2, 1, none⟩ = some (cellv w' ⟨w.heap.size + 2, 1, none⟩) ∧ w'.frozen? ⟨w.heap.size + 2, 0, none⟩ = false ∧ w'.frozen? ⟨w.heap.size + 2, 1, none⟩ = false)) :=
    fun w' y0 y1 y2 y3 y4 y5 => ⟨y0, y1, y2, y3, y4, y5, y5.cell (by omega), y5.cell (by omega), y5.free (by omega), y5.free (by omega)⟩
  have I := hid (HS.out w1.drew q0 q1 q2 q3 hw2.out.drew_right T2.out.drew)
  clear q0 q1 q2 q3
  have tok1 : True := trivial
  have tok2 : True := trivial
  go_region_held3 (fun w' => w'.cell? ⟨w.heap.size, 0, none⟩ = some (.slice A n c) ∧ w'.cell? ⟨w.heap.size, 1, none⟩ = some (.slice B m d) ∧ w'.cell? ⟨w.heap.size + 1, 0, none⟩ = some (.slice A' n' c') ∧ w'.cell? ⟨w.heap.size + 1, 1, none⟩ = some (.slice B' m' d') ∧ Ext w w' ∧ There w' (w.heap.size + 2) 2 ∧ w'.cell? ⟨w.heap.size + 2, 0, none⟩ = some (cellv w' ⟨w.heap.size + 2, 0, none⟩) ∧ w'.cell? ⟨w.heap.size + 2, 1, none⟩ = some (cellv w' ⟨w.heap.size + 2, 1, none⟩) ∧ w'.frozen? ⟨w.heap.size + 2, 0, none⟩ = false ∧ w'.frozen? ⟨w.heap.size + 2, 1, none⟩ = false)
    ((first | exact I.out | (go_split_ands; exact HS.out _ (hx1.cell (by assumption)) (hx1.cell (by assumption)) (hx1.cell (by assumption)) (hx1.cell (by assumption)) (Ext.trans (by assumption) hx1) (There.ext (by assumption) hx1)) | (go_split_ands; exact HS.out _ (hx2.cell (by assumption)) (hx2.cell (by assumption)) (hx2.cell (by assumption)) (hx2.cell (by assumption)) (Ext.trans (by assumption) hx2) (There.ext (by assumption) hx2)) | (go_split_ands; exact HS.out _ (cell_far (cell_far (by assumption) (by simp <;> omega)) (by simp <;> omega)) (cell_far (cell_far (by assumption) (by simp <;> omega)) (by simp <;> omega)) (cell_far (cell_far (by assumption) (by simp <;> omega)) (by simp <;> omega)) (cell_far (cell_far (by assumption) (by simp <;> omega)) (by simp <;> omega)) (Ext.set (Ext.set (by assumption) (by simp <;> omega) _) (by simp <;> omega) _) (There.set (There.set (by assumption) _ _) _ _))))
    ((first | (go_at_call 57; have _t := tok1; go_split_ands; refine (either_any A n c l A' n' c' l' _ (hs.ext (by assumption)) (hs'.ext (by assumption))).mono ?_; rintro e W1 ⟨C1, j1, cj1, rfl, hr1, hx1, hfr1⟩; clear _t tok1) | (go_at_call 57; have _t := tok2; go_split_ands; refine (either_any B m d r B' m' d' r' _ (ht.ext (by assumption)) (ht'.ext (by assumption))).mono ?_; rintro e W2 ⟨C2, j2, cj2, rfl, hr2, hx2, hfr2⟩; clear _t tok2)))
  have xE : Ext w W2 := ((hw2.out.drew_right).trans hx1).trans hx2
  have t2 : There W2 (w.heap.size + 2) 2 := ((T2.out.drew).ext hx1).ext hx2
  have xX : Ext w ((W2.setCell ⟨w.heap.size + 1 + 1, 0, none⟩ (.slice C1 j1 cj1)).setCell ⟨w.heap.size + 1 + 1, 1, none⟩ (.slice C2 j2 cj2)) := Ext.set (Ext.set xE (by simp <;> omega) _) (by simp <;> omega) _
  have k0 : ((W2.setCell ⟨w.heap.size + 1 + 1, 0, none⟩ (.slice C1 j1 cj1)).setCell ⟨w.heap.size + 1 + 1, 1, none⟩ (.slice C2 j2 cj2)).cell? ⟨w.heap.size + 1 + 1, 0, none⟩ = some (.slice C1 j1 cj1) := by
    rw [World.cell?_setCell_other _ _ _ _ (by simp)]
    exact World.cell?_setCell_same _ _ _ (t2.cell (o := 0) (by omega))
  have k1 : ((W2.setCell ⟨w.heap.size + 1 + 1, 0, none⟩ (.slice C1 j1 cj1)).setCell ⟨w.heap.size + 1 + 1, 1, none⟩ (.slice C2 j2 cj2)).cell? ⟨w.heap.size + 1 + 1, 1, none⟩ = some (.slice C2 j2 cj2) := World.cell?_setCell_same _ _ _ ((t2.set _ _).cell (o := 1) (by omega))
  have z0 : w.heap.size + 2 < w1.heap.size := World.block_lt_of_cell? w1 _ (T2.out.cell (o := 0) (by omega))
  have z1 := hx1.size
  have z2 := hx2.size
  simp at z1
  have f1 : RdI ((W2.setCell ⟨w.heap.size + 1 + 1, 0, none⟩ (.slice C1 j1 cj1)).setCell ⟨w.heap.size + 1 + 1, 1, none⟩ (.slice C2 j2 cj2)) C1 j1 cj1 (eitherS l l') := (((hr1).ext hx2).far hfr1 (by simp <;> omega) _).far hfr1 (by simp <;> omega) _
  have f2 : RdI ((W2.setCell ⟨w.heap.size + 1 + 1, 0, none⟩ (.slice C1 j1 cj1)).setCell ⟨w.heap.size + 1 + 1, 1, none⟩ (.slice C2 j2 cj2)) C2 j2 cj2 (eitherS r r') := ((hr2).far hfr2 (by simp <;> omega) _).far hfr2 (by simp <;> omega) _
  have Fin := hid (And.intro f1 (And.intro f2 (And.intro xX (And.intro (Fr.mono hfr1 (show w.heap.size ≤ w1.drew.heap.size by first | omega | (simp; omega))) (Fr.mono hfr2 (show w.heap.size ≤ W1.heap.size by first | omega | (simp; omega)))))))
  clear f1 f2 xX xE t2 hfr1 hr1 hx1 hfr2 hr2 hx2
  go_wp2
  exact bodyPost_ret (v := .tuple #[.agg #[.slice C1 j1 cj1, .slice C2 j2 cj2], .int .i64 0]) (by simp [results, Try.results20, go_sem, k0, k1]) rfl ⟨_, _, _, _, _, _, rfl, Fin.out⟩
end Go.Proofs.Ytffcaoicokookaa
