import Derived.Test.YtffcaoicokookaaT8
import Derived.Deep.RegionHeld3
import Derived.Deep.DrawnRows
namespace Go.Proofs.Ytffcaoicokookaa
open Go.RowKit
attribute [local go_sem ↓] Go.wp_at_zero Go.wp_at_succ

set_option maxRecDepth 100000 in
set_option maxHeartbeats 1000000 in
theorem both_any (f : Nat) (g : Bool → Bool → Bool) (hcf : ∀ args w, (callFunc f args).run Try.prog w = .ok (.enter f args) w) (hf : ∀ a b w, Calls Try.prog f #[.bool a, .bool b] w fun e w' => e = .returned (.bool (g a b)) ∧ w = w')
    (A : Option Addr) (n c : Nat) (l : List Int) (B : Option Addr) (m d : Nat) (r : List Int)
    (A' : Option Addr) (n' c' : Nat) (l' : List Int) (B' : Option Addr) (m' d' : Nat) (r' : List Int) (w : World)
    (hs : RdI w A n c l) (ht : RdI w B m d r) (hs' : RdI w A' n' c' l') (ht' : RdI w B' m' d' r') (hn : n ≤ 3000) (hm : m ≤ 3000) (hn' : n' ≤ 3000) (hm' : m' ≤ 3000)
    (h1 : valB l r = true) (h2 : valB l' r' = true) :
    Calls Try.prog 52 #[.agg #[.slice A n c, .slice B m d], .agg #[.slice A' n' c', .slice B' m' d'], .func (.func f) #[] #[]] w (GiveBN (joinS g l l') (joinS g r r') 0 w) := by
  have HF := hid hf
  have HCF := hid hcf
  clear hf hcf
  have e1 : errOf (valB l r) = 0 := by rw [h1]; rfl
  have e2 : errOf (valB l' r') = 0 := by rw [h2]; rfl
  clear h1 h2
  go_enter Try.func52, Try.ntmps52
  go_wp2_with fail
  refine (Validate_any _ _ _ _ _ _ _ _ _ (((hs.alloc _).alloc _).alloc _) (((ht.alloc _).alloc _).alloc _) hn hm).mono ?_
  rintro e w1 ⟨rfl, hx1⟩
  have a0 : w1.cell? ⟨w.heap.size, 0, none⟩ = some (.slice A n c) := hx1.cell (by go_simp)
  have a1 : w1.cell? ⟨w.heap.size, 1, none⟩ = some (.slice B m d) := hx1.cell (by go_simp)
  have b0 : w1.cell? ⟨w.heap.size + 1, 0, none⟩ = some (.slice A' n' c') := hx1.cell (by go_simp)
  have b1 : w1.cell? ⟨w.heap.size + 1, 1, none⟩ = some (.slice B' m' d') := hx1.cell (by go_simp)
  have hw1 : Ext w w1 := Ext.trans ((((Ext.refl w).alloc_right _).alloc_right _).alloc_right _) hx1
  have T1 := (There.new ((w.alloc (.cells #[.slice A n c, .slice B m d] 29)).alloc (.cells #[.slice A' n' c', .slice B' m' d'] 29)) #[.slice none 0 0, .slice none 0 0] 29 (n := 2) (by simp)).ext hx1
  simp at T1
  go_wp2_with fail
  refine (Validate_any _ _ _ _ _ _ _ _ _ (hs'.ext hw1) (ht'.ext hw1) hn' hm').mono ?_
  rintro e w2 ⟨rfl, hx2⟩
  replace a0 := hx2.cell a0
  replace a1 := hx2.cell a1
  replace b0 := hx2.cell b0
  replace b1 := hx2.cell b1
  have T2 := hid (T1.ext hx2)
  have hw2 := hid (hw1.trans hx2)
  have q0 : w.heap.size + 2 < w2.heap.size := World.block_lt_of_cell? w2 _ (T2.out.cell (o := 0) (by omega))
  clear T1 hx1 hx2 hw1
  go_wp2_with fail
  clear e1 e2
  have HS : Hid (∀ w', w'.cell? ⟨w.heap.size, 0, none⟩ = some (.slice A n c) → w'.cell? ⟨w.heap.size, 1, none⟩ = some (.slice B m d) → w'.cell? ⟨w.heap.size + 1, 0, none⟩ = some (.slice A' n' c') → w'.cell? ⟨w.heap.size + 1, 1, none⟩ = some (.slice B' m' d') → Ext w w' → There w' (w.heap.size + 2) 2 →
    (w'.cell? ⟨w.heap.size, 0, none⟩ = some (.slice A n c) ∧ w'.cell? ⟨w.heap.size, 1, none⟩ = some (.slice B m d) ∧ w'.cell? ⟨w.heap.size + 1, 0, none⟩ = some (.slice A' n' c') ∧ w'.cell? ⟨w.heap.size + 1, 1, none⟩ = some (.slice B' m' d') ∧ Ext w w' ∧ There w' (w.heap.size + 2) 2 ∧
      w'.cell? ⟨w.heap.size + 2, 0, none⟩ = some (cellv w' ⟨w.heap.size + 2, 0, none⟩) ∧ w'.cell? ⟨w.heap.size + 2, 1, none⟩ = some (cellv w' ⟨w.heap.size + 2, 1, none⟩) ∧ w'.frozen? ⟨w.heap.size + 2, 0, none⟩ = false ∧ w'.frozen? ⟨w.heap.size + 2, 1, none⟩ = false)) :=
    fun w' h1 h2 h3 h4 h5 h6 => ⟨h1, h2, h3, h4, h5, h6, h6.cell (by omega), h6.cell (by omega), h6.free (by omega), h6.free (by omega)⟩
  have I := hid (HS.out w2.drew a0 a1 b0 b1 hw2.out.drew_right T2.out.drew)
  clear a0 a1 b0 b1
  go_region_held3 (fun w' => w'.cell? ⟨w.heap.size, 0, none⟩ = some (.slice A n c) ∧ w'.cell? ⟨w.heap.size, 1, none⟩ = some (.slice B m d) ∧ w'.cell? ⟨w.heap.size + 1, 0, none⟩ = some (.slice A' n' c') ∧ w'.cell? ⟨w.heap.size + 1, 1, none⟩ = some (.slice B' m' d') ∧ Ext w w' ∧ There w' (w.heap.size + 2) 2 ∧
      w'.cell? ⟨w.heap.size + 2, 0, none⟩ = some (cellv w' ⟨w.heap.size + 2, 0, none⟩) ∧ w'.cell? ⟨w.heap.size + 2, 1, none⟩ = some (cellv w' ⟨w.heap.size + 2, 1, none⟩) ∧ w'.frozen? ⟨w.heap.size + 2, 0, none⟩ = false ∧ w'.frozen? ⟨w.heap.size + 2, 1, none⟩ = false)
    ((first | exact I.out | (go_split_ands; exact HS.out _ (hx.cell (by assumption)) (hx.cell (by assumption)) (hx.cell (by assumption)) (hx.cell (by assumption)) (Ext.trans (by assumption) hx) (There.ext (by assumption) hx)) | (go_split_ands; exact HS.out _ (cell_far (cell_far (by assumption) (by simp <;> omega)) (by simp <;> omega)) (cell_far (cell_far (by assumption) (by simp <;> omega)) (by simp <;> omega)) (cell_far (cell_far (by assumption) (by simp <;> omega)) (by simp <;> omega)) (cell_far (cell_far (by assumption) (by simp <;> omega)) (by simp <;> omega)) (Ext.set (Ext.set (by assumption) (by simp <;> omega) _) (by simp <;> omega) _) (There.set (There.set (by assumption) _ _) _ _))))
    ((go_at_call 49; go_split_ands; (first | (with_reducible refine (joined_any f g HCF.out HF.out A n c l A' n' c' l' _ (hs.ext (by assumption)) (hs'.ext (by assumption)) (by omega)).mono ?_) | (with_reducible refine (joined_any f g HCF.out HF.out B m d r B' m' d' r' _ (ht.ext (by assumption)) (ht'.ext (by assumption)) (by omega)).mono ?_)); rintro e W ⟨C, j, cj, rfl, hj, hx, hfr⟩))
  rename_i W1 C1 j1 cj1 hj1 hx1 hfr1 p0 p1 p2 p3 p4 p5 p6 p7 p8 p9 hH
  obtain ⟨-, -, -, -, hE, -, -, -, -, -⟩ := hH
  have t2 : There W (w.heap.size + 2) 2 := There.ext (by assumption) hx
  have k0 : ((W.setCell ⟨w.heap.size + 1 + 1, 0, none⟩ (.slice C1 j1 cj1)).setCell ⟨w.heap.size + 1 + 1, 1, none⟩ (.slice C j cj)).cell? ⟨w.heap.size + 1 + 1, 0, none⟩ = some (.slice C1 j1 cj1) := by
    rw [World.cell?_setCell_other _ _ _ _ (by simp)]
    exact World.cell?_setCell_same _ _ _ (t2.cell (o := 0) (by omega))
  have k1 : ((W.setCell ⟨w.heap.size + 1 + 1, 0, none⟩ (.slice C1 j1 cj1)).setCell ⟨w.heap.size + 1 + 1, 1, none⟩ (.slice C j cj)).cell? ⟨w.heap.size + 1 + 1, 1, none⟩ = some (.slice C j cj) :=
    World.cell?_setCell_same _ _ _ ((t2.set _ _).cell (o := 1) (by omega))
  have z1 := hx1.size
  have z2 := hw2.out.size
  simp at z1
  have f1 : RdI ((W.setCell ⟨w.heap.size + 1 + 1, 0, none⟩ (.slice C1 j1 cj1)).setCell ⟨w.heap.size + 1 + 1, 1, none⟩ (.slice C j cj)) C1 j1 cj1 (joinS g l l') := ((hj1.ext hx).far hfr1 (by simp; omega) _).far hfr1 (by simp; omega) _
  have f2 : RdI ((W.setCell ⟨w.heap.size + 1 + 1, 0, none⟩ (.slice C1 j1 cj1)).setCell ⟨w.heap.size + 1 + 1, 1, none⟩ (.slice C j cj)) C j cj (joinS g r r') := (hj.far hfr (by simp; omega) _).far hfr (by simp; omega) _
  have Fin := hid (And.intro f1 (And.intro f2 (And.intro hE (And.intro (Fr.mono hfr1 (show w.heap.size ≤ w2.drew.heap.size by simp; omega)) (Fr.mono hfr (show w.heap.size ≤ W1.heap.size by omega))))))
  clear f1 f2 hE hfr1 hfr p0 p1 p2 p3 p4 p5 p6 p7 p8 p9 hj hj1 hx hx1 t2
  go_wp2
  exact bodyPost_ret (v := .tuple #[.agg #[.slice C1 j1 cj1, .slice C j cj], .int .i64 0]) (by simp [results, Try.results52, go_sem, k0, k1]) rfl ⟨_, _, _, _, _, _, rfl, Fin.out⟩
end Go.Proofs.Ytffcaoicokookaa
