import Derived.Test.YtffcaoicokookaaT18
namespace Go.Proofs.Ytffcaoicokookaa
open Go.RowKit
attribute [local go_sem ↓] Go.wp_at_zero Go.wp_at_succ
set_option linter.unusedVariables false
theorem join_set (g : Bool → Bool → Bool) (hg : g false false = false) {l r : List Int} (hl : isSetS 300 l = true) (hr : isSetS 300 r = true) : isSetS 300 (joinS g l r) = true := by
  refine isSetS_of (joinS_spec g hg _ l r (Nat.le_refl _) (pw_set hl) (pw_set hr)).1 fun y hy => ?_
  rcases joinS_mem g y _ l r (Nat.le_refl _) hy with h | h
  · exact isSetS_mem hl h
  · exact isSetS_mem hr h
def settleS (l r y : List Int) : List Int := joinS or l (joinS and r y)
def rsettleS (l r y : List Int) : List Int := eitherS l (interS r y)
theorem settle_set {l r y : List Int} (hl : isSetS 300 l = true) (hr : isSetS 300 r = true) (hy : isSetS 300 y = true) : isSetS 300 (settleS l r y) = true :=
  join_set or rfl hl (join_set and rfl hr hy)
theorem settle_eq {l r y : List Int} (hl : isSetS 300 l = true) (hr : isSetS 300 r = true) (hy : isSetS 300 y = true) : settleS l r y = rsettleS l r y := by
  unfold settleS rsettleS
  have h2 := join_set and rfl hr hy
  rw [join_both (pw_set hr) (pw_set hy)] at h2 ⊢
  exact join_any hl h2
def GiveBl (b : Bool) (x : Int) (w : World) (e : Ending) (w' : World) : Prop := e = .returned (.tuple #[.bool b, .int .i64 x]) ∧ Ext w w'
theorem ret_bn {a b : Bool} {x : Int} (h : a = b) : Ending.returned (.tuple #[.bool a, .int .i64 x]) = .returned (.tuple #[.bool b, .int .i64 x]) := by rw [h]

set_option maxRecDepth 100000 in
set_option maxHeartbeats 1000000 in
theorem Settle_yes (A : Option Addr) (n c : Nat) (l : List Int) (B : Option Addr) (m d : Nat) (r : List Int) (Y : Option Addr) (p cp : Nat) (y : List Int) (w : World) (hs : RdI w A n c l) (ht : RdI w B m d r) (hy : RdI w Y p cp y) (hn : n ≤ 3000) (hm : m ≤ 3000) (hp : p ≤ 3000) (h1 : valB l r = true) (h2 : isSetS 300 y = true) (h3 : isSetS 300 (settleS l r y) = true) :
    Calls Try.prog 33 #[.agg #[.slice A n c, .slice B m d], .slice Y p cp] w (GiveBN (settleS l r y) (settleS l r y) 0 w) := by
  have e1 : errOf (valB l r) = 0 := by rw [h1]; rfl
  have hen := enter53
  have hen6 := enter56
  have H3 := hid h3
  clear h1 h3
  go_enter Try.func33, Try.ntmps33
  go_wp2_with fail
  refine (Validate_any _ _ _ _ _ _ _ _ _ ((hs.alloc _).alloc _) ((ht.alloc _).alloc _) hn hm).mono ?_
  rintro e w1 ⟨rfl, hx1⟩
  have q0 : w1.cell? ⟨w.heap.size, 0, none⟩ = some (.slice A n c) := hx1.cell (by go_simp)
  have q1 : w1.cell? ⟨w.heap.size, 1, none⟩ = some (.slice B m d) := hx1.cell (by go_simp)
  have hw1 := hid (Ext.trans (((Ext.refl w).alloc_right _).alloc_right _) hx1)
  have T1 := (There.new (w.alloc (.cells #[.slice A n c, .slice B m d] 29)) #[.slice none 0 0, .slice none 0 0] 29 (n := 2) (by simp)).ext hx1
  simp at T1
  replace T1 := hid T1
  clear hx1
  go_wp2_with fail
  refine (isSet_any _ _ _ _ _ _ (hy.ext hw1.out)).mono ?_
  rintro e w2 ⟨rfl, hq⟩
  have hw2 := hid (hw1.out.trans hq.ext)
  have T2 := hid (T1.out.ext hq.ext)
  replace q0 := hq.ext.cell q0
  replace q1 := hq.ext.cell q1
  clear hq hw1 T1
  go_wp2_with fail
  clear h2 e1
  have HS : Hid (∀ w', w'.cell? ⟨w.heap.size, 0, none⟩ = some (.slice A n c) → w'.cell? ⟨w.heap.size, 1, none⟩ = some (.slice B m d) → Ext w w' → There w' (w.heap.size + 1) 2 → (w'.cell? ⟨w.heap.size, 0, none⟩ = some (.slice A n c) ∧ w'.cell? ⟨w.heap.size, 1, none⟩ = some (.slice B m d) ∧ Ext w w' ∧ There w' (w.heap.size + 1) 2 ∧ w'.cell? ⟨w.heap.size + 1, 0, none⟩ = some (cellv w' ⟨w.heap.size + 1, 0, none⟩) ∧ w'.cell? ⟨w.heap.size + 1, 1, none⟩ = some (cellv w' ⟨w.heap.size + 1, 1, none⟩) ∧ w'.frozen? ⟨w.heap.size + 1, 0, none⟩ = false ∧ w'.frozen? ⟨w.heap.size + 1, 1, none⟩ = false)) :=
    fun w' y0 y1 y2 y3 => ⟨y0, y1, y2, y3, y3.cell (by omega), y3.cell (by omega), y3.free (by omega), y3.free (by omega)⟩
  have I := hid (HS.out w2.drew q0 q1 hw2.out.drew_right T2.out.drew)
  clear q0 q1
  have tok1 : True := trivial
  have tok2 : True := trivial
  have tok3 : True := trivial
  go_region_held3 (fun w' => w'.cell? ⟨w.heap.size, 0, none⟩ = some (.slice A n c) ∧ w'.cell? ⟨w.heap.size, 1, none⟩ = some (.slice B m d) ∧ Ext w w' ∧ There w' (w.heap.size + 1) 2 ∧ w'.cell? ⟨w.heap.size + 1, 0, none⟩ = some (cellv w' ⟨w.heap.size + 1, 0, none⟩) ∧ w'.cell? ⟨w.heap.size + 1, 1, none⟩ = some (cellv w' ⟨w.heap.size + 1, 1, none⟩) ∧ w'.frozen? ⟨w.heap.size + 1, 0, none⟩ = false ∧ w'.frozen? ⟨w.heap.size + 1, 1, none⟩ = false)
    ((first | exact I.out | (go_split_ands; exact HS.out _ (hx1.cell (by assumption)) (hx1.cell (by assumption)) (Ext.trans (by assumption) hx1) (There.ext (by assumption) hx1)) | (go_split_ands; exact HS.out _ (hx2.cell (by assumption)) (hx2.cell (by assumption)) (Ext.trans (by assumption) hx2) (There.ext (by assumption) hx2)) | (go_split_ands; exact HS.out _ (hx3.cell (by assumption)) (hx3.cell (by assumption)) (Ext.trans (by assumption) hx3) (There.ext (by assumption) hx3)) | (go_split_ands; exact HS.out _ (cell_far (cell_far (by assumption) (by simp <;> omega)) (by simp <;> omega)) (cell_far (cell_far (by assumption) (by simp <;> omega)) (by simp <;> omega)) (Ext.set (Ext.set (by assumption) (by simp <;> omega) _) (by simp <;> omega) _) (There.set (There.set (by assumption) _ _) _ _))))
    ((first | (go_at_call 49; have _t := tok1; go_split_ands; refine (joined_any 53 and hen inBoth53 B m d r Y p cp y _ (ht.ext (by assumption)) (hy.ext (by assumption)) (by omega)).mono ?_; rintro e W1 ⟨C1, j1, cj1, rfl, hr1, hx1, hfr1⟩; have hj1 : j1 ≤ 6000 := (by have hh := hr1.len; have hl := joinS_len and (r.length + y.length) r y (Nat.le_refl _); have h5 := ht.len; have h6 := hy.len; omega); clear _t tok1) | (go_at_call 49; have _t := tok2; go_split_ands; refine (joined_any 56 or hen6 inAny56 A n c l _ _ _ _ _ (hs.ext (by assumption)) hr1 (by omega)).mono ?_; rintro e W2 ⟨C2, j2, cj2, rfl, hr2, hx2, hfr2⟩; have hj2 : j2 ≤ 9000 := (by have hh := hr2.len; have hl := joinS_len or (l.length + (joinS and r y).length) l (joinS and r y) (Nat.le_refl _); have h5 := hs.len; have h6 := hr1.len; omega); clear _t tok2) | (go_at_call 37; have _t := tok3; go_split_ands; refine (Known_yes _ _ _ _ _ hr2 H3.out (by omega)).mono ?_; rintro e W3 ⟨C3, j3, cj3, D3, k3, dk3, rfl, hr3, hs3, hx3, hfr3⟩; clear _t tok3)))
  have xE : Ext w W3 := (((hw2.out.drew_right).trans hx1).trans hx2).trans hx3
  have t2 : There W3 (w.heap.size + 1) 2 := (((T2.out.drew).ext hx1).ext hx2).ext hx3
  have xX : Ext w ((W3.setCell ⟨w.heap.size + 1, 0, none⟩ (.slice C3 j3 cj3)).setCell ⟨w.heap.size + 1, 1, none⟩ (.slice D3 k3 dk3)) := Ext.set (Ext.set xE (by simp <;> omega) _) (by simp <;> omega) _
  have k0 : ((W3.setCell ⟨w.heap.size + 1, 0, none⟩ (.slice C3 j3 cj3)).setCell ⟨w.heap.size + 1, 1, none⟩ (.slice D3 k3 dk3)).cell? ⟨w.heap.size + 1, 0, none⟩ = some (.slice C3 j3 cj3) := by
    rw [World.cell?_setCell_other _ _ _ _ (by simp)]
    exact World.cell?_setCell_same _ _ _ (t2.cell (o := 0) (by omega))
  have k1 : ((W3.setCell ⟨w.heap.size + 1, 0, none⟩ (.slice C3 j3 cj3)).setCell ⟨w.heap.size + 1, 1, none⟩ (.slice D3 k3 dk3)).cell? ⟨w.heap.size + 1, 1, none⟩ = some (.slice D3 k3 dk3) := World.cell?_setCell_same _ _ _ ((t2.set _ _).cell (o := 1) (by omega))
  have z0 : w.heap.size + 1 < w2.heap.size := World.block_lt_of_cell? w2 _ (T2.out.cell (o := 0) (by omega))
  have z1 := hx1.size
  have z2 := hx2.size
  have z3 := hx3.size
  simp at z1
  have f1 : RdI ((W3.setCell ⟨w.heap.size + 1, 0, none⟩ (.slice C3 j3 cj3)).setCell ⟨w.heap.size + 1, 1, none⟩ (.slice D3 k3 dk3)) C3 j3 cj3 (settleS l r y) := ((hr3).far hfr3.1 (by simp <;> omega) _).far hfr3.1 (by simp <;> omega) _
  have f2 : RdI ((W3.setCell ⟨w.heap.size + 1, 0, none⟩ (.slice C3 j3 cj3)).setCell ⟨w.heap.size + 1, 1, none⟩ (.slice D3 k3 dk3)) D3 k3 dk3 (settleS l r y) := ((hs3).far hfr3.2 (by simp <;> omega) _).far hfr3.2 (by simp <;> omega) _
  have Fin := hid (And.intro f1 (And.intro f2 (And.intro xX (And.intro (Fr.mono hfr3.1 (show w.heap.size ≤ W2.heap.size by first | omega | (simp; omega))) (Fr.mono hfr3.2 (show w.heap.size ≤ W2.heap.size by first | omega | (simp; omega)))))))
  clear f1 f2 xX xE t2 hfr1 hr1 hx1 hfr2 hr2 hx2 hfr3 hr3 hx3
  go_wp2
  exact bodyPost_ret (v := .tuple #[.agg #[.slice C3 j3 cj3, .slice D3 k3 dk3], .int .i64 0]) (by simp [results, Try.results33, go_sem, k0, k1]) rfl ⟨_, _, _, _, _, _, rfl, Fin.out⟩

set_option maxRecDepth 100000 in
set_option maxHeartbeats 1000000 in
theorem Settle_no1 (A : Option Addr) (n c : Nat) (l : List Int) (B : Option Addr) (m d : Nat) (r : List Int) (Y : Option Addr) (p cp : Nat) (y : List Int) (w : World) (hs : RdI w A n c l) (ht : RdI w B m d r) (hy : RdI w Y p cp y) (hn : n ≤ 3000) (hm : m ≤ 3000) (h1 : valB l r = false) :
    Calls Try.prog 33 #[.agg #[.slice A n c, .slice B m d], .slice Y p cp] w (GiveBN [] [] 1 w) := by
  have e1 : errOf (valB l r) = 1 := by rw [h1]; rfl
  clear h1
  go_enter Try.func33, Try.ntmps33
  go_wp2_with fail
  refine (Validate_any _ _ _ _ _ _ _ _ _ ((hs.alloc _).alloc _) ((ht.alloc _).alloc _) hn hm).mono ?_
  rintro e w1 ⟨rfl, hx1⟩
  have q0 : w1.cell? ⟨w.heap.size, 0, none⟩ = some (.slice A n c) := hx1.cell (by go_simp)
  have q1 : w1.cell? ⟨w.heap.size, 1, none⟩ = some (.slice B m d) := hx1.cell (by go_simp)
  have hw1 := hid (Ext.trans (((Ext.refl w).alloc_right _).alloc_right _) hx1)
  have T1 := (There.new (w.alloc (.cells #[.slice A n c, .slice B m d] 29)) #[.slice none 0 0, .slice none 0 0] 29 (n := 2) (by simp)).ext hx1
  simp at T1
  replace T1 := hid T1
  clear hx1
  have hw2 := hw1
  have T2 := T1.out
  have t0 := T2.cell (o := 0) (by omega)
  have t1 := T2.cell (o := 1) (by omega)
  have u0 := T2.free (o := 0) (by omega)
  have u1 := T2.free (o := 1) (by omega)
  obtain ⟨k0, k1, Fin⟩ := pairEnd hw2.out T2 (by omega) (RdI.nil _) (RdI.nil _) (Fr.none_ _) (Fr.none_ _)
  clear T2
  go_wp2
  exact bodyPost_ret (v := .tuple #[.agg #[.slice none 0 0, .slice none 0 0], .int .i64 1]) (by simp [results, Try.results33, go_sem, k0, k1]) rfl ⟨_, _, _, _, _, _, rfl, Fin.out⟩

set_option maxRecDepth 100000 in
set_option maxHeartbeats 1000000 in
theorem Settle_no2 (A : Option Addr) (n c : Nat) (l : List Int) (B : Option Addr) (m d : Nat) (r : List Int) (Y : Option Addr) (p cp : Nat) (y : List Int) (w : World) (hs : RdI w A n c l) (ht : RdI w B m d r) (hy : RdI w Y p cp y) (hn : n ≤ 3000) (hm : m ≤ 3000) (h1 : valB l r = true) (h2 : isSetS 300 y = false) :
    Calls Try.prog 33 #[.agg #[.slice A n c, .slice B m d], .slice Y p cp] w (GiveBN [] [] 1 w) := by
  have e1 : errOf (valB l r) = 0 := by rw [h1]; rfl
  clear h1
  go_enter Try.func33, Try.ntmps33
  go_wp2_with fail
  refine (Validate_any _ _ _ _ _ _ _ _ _ ((hs.alloc _).alloc _) ((ht.alloc _).alloc _) hn hm).mono ?_
  rintro e w1 ⟨rfl, hx1⟩
  have q0 : w1.cell? ⟨w.heap.size, 0, none⟩ = some (.slice A n c) := hx1.cell (by go_simp)
  have q1 : w1.cell? ⟨w.heap.size, 1, none⟩ = some (.slice B m d) := hx1.cell (by go_simp)
  have hw1 := hid (Ext.trans (((Ext.refl w).alloc_right _).alloc_right _) hx1)
  have T1 := (There.new (w.alloc (.cells #[.slice A n c, .slice B m d] 29)) #[.slice none 0 0, .slice none 0 0] 29 (n := 2) (by simp)).ext hx1
  simp at T1
  replace T1 := hid T1
  clear hx1
  go_wp2_with fail
  refine (isSet_any _ _ _ _ _ _ (hy.ext hw1.out)).mono ?_
  rintro e w2 ⟨rfl, hq⟩
  have hw2 := hid (hw1.out.trans hq.ext)
  have T2 := T1.out.ext hq.ext
  clear hq hw1 T1 q0 q1
  have t0 := T2.cell (o := 0) (by omega)
  have t1 := T2.cell (o := 1) (by omega)
  have u0 := T2.free (o := 0) (by omega)
  have u1 := T2.free (o := 1) (by omega)
  obtain ⟨k0, k1, Fin⟩ := pairEnd hw2.out T2 (by omega) (RdI.nil _) (RdI.nil _) (Fr.none_ _) (Fr.none_ _)
  clear T2
  go_wp2
  exact bodyPost_ret (v := .tuple #[.agg #[.slice none 0 0, .slice none 0 0], .int .i64 1]) (by simp [results, Try.results33, go_sem, k0, k1]) rfl ⟨_, _, _, _, _, _, rfl, Fin.out⟩

set_option maxRecDepth 100000 in
set_option maxHeartbeats 1000000 in
theorem rSettle_yes (A : Option Addr) (n c : Nat) (l : List Int) (B : Option Addr) (m d : Nat) (r : List Int) (Y : Option Addr) (p cp : Nat) (y : List Int) (w : World) (hs : RdI w A n c l) (ht : RdI w B m d r) (hy : RdI w Y p cp y) (hn : n ≤ 3000) (hm : m ≤ 3000) (hp : p ≤ 3000) (h1 : rvalB l r = true) (h2 : isSetS 300 y = true) (h3 : isSetS 300 (rsettleS l r y) = true) :
    Calls Try.prog 34 #[.agg #[.slice A n c, .slice B m d], .slice Y p cp] w (GiveBN (rsettleS l r y) (rsettleS l r y) 0 w) := by
  have e1 : errOf (rvalB l r) = 0 := by rw [h1]; rfl
  have hen := enter53
  have hen6 := enter56
  have H3 := hid h3
  clear h1 h3
  go_enter Try.func34, Try.ntmps34
  go_wp2_with fail
  refine (rValidate_any _ _ _ _ _ _ _ _ _ ((hs.alloc _).alloc _) ((ht.alloc _).alloc _)).mono ?_
  rintro e w1 ⟨rfl, hx1⟩
  have q0 : w1.cell? ⟨w.heap.size, 0, none⟩ = some (.slice A n c) := hx1.cell (by go_simp)
  have q1 : w1.cell? ⟨w.heap.size, 1, none⟩ = some (.slice B m d) := hx1.cell (by go_simp)
  have hw1 := hid (Ext.trans (((Ext.refl w).alloc_right _).alloc_right _) hx1)
  have T1 := (There.new (w.alloc (.cells #[.slice A n c, .slice B m d] 29)) #[.slice none 0 0, .slice none 0 0] 29 (n := 2) (by simp)).ext hx1
  simp at T1
  replace T1 := hid T1
  clear hx1
  go_wp2_with fail
  refine (IsSet_any _ _ _ _ _ (hy.ext hw1.out)).mono ?_
  rintro e w2 ⟨rfl, hq⟩
  have hw2 := hid (hw1.out.trans hq.ext)
  have T2 := hid (T1.out.ext hq.ext)
  replace q0 := hq.ext.cell q0
  replace q1 := hq.ext.cell q1
  clear hq hw1 T1
  go_wp2_with fail
  clear h2 e1
  have HS : Hid (∀ w', w'.cell? ⟨w.heap.size, 0, none⟩ = some (.slice A n c) → w'.cell? ⟨w.heap.size, 1, none⟩ = some (.slice B m d) → Ext w w' → There w' (w.heap.size + 1) 2 → (w'.cell? ⟨w.heap.size, 0, none⟩ = some (.slice A n c) ∧ w'.cell? ⟨w.heap.size, 1, none⟩ = some (.slice B m d) ∧ Ext w w' ∧ There w' (w.heap.size + 1) 2 ∧ w'.cell? ⟨w.heap.size + 1, 0, none⟩ = some (cellv w' ⟨w.heap.size + 1, 0, none⟩) ∧ w'.cell? ⟨w.heap.size + 1, 1, none⟩ = some (cellv w' ⟨w.heap.size + 1, 1, none⟩) ∧ w'.frozen? ⟨w.heap.size + 1, 0, none⟩ = false ∧ w'.frozen? ⟨w.heap.size + 1, 1, none⟩ = false)) :=
    fun w' y0 y1 y2 y3 => ⟨y0, y1, y2, y3, y3.cell (by omega), y3.cell (by omega), y3.free (by omega), y3.free (by omega)⟩
  have I := hid (HS.out w2.drew q0 q1 hw2.out.drew_right T2.out.drew)
  clear q0 q1
  have tok1 : True := trivial
  have tok2 : True := trivial
  have tok3 : True := trivial
  go_region_held3 (fun w' => w'.cell? ⟨w.heap.size, 0, none⟩ = some (.slice A n c) ∧ w'.cell? ⟨w.heap.size, 1, none⟩ = some (.slice B m d) ∧ Ext w w' ∧ There w' (w.heap.size + 1) 2 ∧ w'.cell? ⟨w.heap.size + 1, 0, none⟩ = some (cellv w' ⟨w.heap.size + 1, 0, none⟩) ∧ w'.cell? ⟨w.heap.size + 1, 1, none⟩ = some (cellv w' ⟨w.heap.size + 1, 1, none⟩) ∧ w'.frozen? ⟨w.heap.size + 1, 0, none⟩ = false ∧ w'.frozen? ⟨w.heap.size + 1, 1, none⟩ = false)
    ((first | exact I.out | (go_split_ands; exact HS.out _ (hx1.cell (by assumption)) (hx1.cell (by assumption)) (Ext.trans (by assumption) hx1) (There.ext (by assumption) hx1)) | (go_split_ands; exact HS.out _ (hx2.cell (by assumption)) (hx2.cell (by assumption)) (Ext.trans (by assumption) hx2) (There.ext (by assumption) hx2)) | (go_split_ands; exact HS.out _ (hx3.cell (by assumption)) (hx3.cell (by assumption)) (Ext.trans (by assumption) hx3) (There.ext (by assumption) hx3)) | (go_split_ands; exact HS.out _ (cell_far (cell_far (by assumption) (by simp <;> omega)) (by simp <;> omega)) (cell_far (cell_far (by assumption) (by simp <;> omega)) (by simp <;> omega)) (Ext.set (Ext.set (by assumption) (by simp <;> omega) _) (by simp <;> omega) _) (There.set (There.set (by assumption) _ _) _ _))))
    ((first | (go_at_call 55; have _t := tok1; go_split_ands; refine (inBoth_any B m d r Y p cp y _ (ht.ext (by assumption)) (hy.ext (by assumption)) (by omega)).mono ?_; rintro e W1 ⟨C1, j1, cj1, rfl, hr1, hx1, hfr1⟩; clear _t tok1) | (go_at_call 57; have _t := tok2; go_split_ands; refine (either_any A n c l _ _ _ _ _ (hs.ext (by assumption)) hr1).mono ?_; rintro e W2 ⟨C2, j2, cj2, rfl, hr2, hx2, hfr2⟩; have hj2 : j2 ≤ 10000 := (by have hh := hr2.len; have hl := filtS_len (inAny l (interS r y)) (upS 300) 300; unfold eitherS at hh; omega); clear _t tok2) | (go_at_call 38; have _t := tok3; go_split_ands; refine (rKnown_yes _ _ _ _ _ hr2 H3.out (by omega)).mono ?_; rintro e W3 ⟨C3, j3, cj3, D3, k3, dk3, rfl, hr3, hs3, hx3, hfr3⟩; clear _t tok3)))
  have xE : Ext w W3 := (((hw2.out.drew_right).trans hx1).trans hx2).trans hx3
  have t2 : There W3 (w.heap.size + 1) 2 := (((T2.out.drew).ext hx1).ext hx2).ext hx3
  have xX : Ext w ((W3.setCell ⟨w.heap.size + 1, 0, none⟩ (.slice C3 j3 cj3)).setCell ⟨w.heap.size + 1, 1, none⟩ (.slice D3 k3 dk3)) := Ext.set (Ext.set xE (by simp <;> omega) _) (by simp <;> omega) _
  have k0 : ((W3.setCell ⟨w.heap.size + 1, 0, none⟩ (.slice C3 j3 cj3)).setCell ⟨w.heap.size + 1, 1, none⟩ (.slice D3 k3 dk3)).cell? ⟨w.heap.size + 1, 0, none⟩ = some (.slice C3 j3 cj3) := by
    rw [World.cell?_setCell_other _ _ _ _ (by simp)]
    exact World.cell?_setCell_same _ _ _ (t2.cell (o := 0) (by omega))
  have k1 : ((W3.setCell ⟨w.heap.size + 1, 0, none⟩ (.slice C3 j3 cj3)).setCell ⟨w.heap.size + 1, 1, none⟩ (.slice D3 k3 dk3)).cell? ⟨w.heap.size + 1, 1, none⟩ = some (.slice D3 k3 dk3) := World.cell?_setCell_same _ _ _ ((t2.set _ _).cell (o := 1) (by omega))
  have z0 : w.heap.size + 1 < w2.heap.size := World.block_lt_of_cell? w2 _ (T2.out.cell (o := 0) (by omega))
  have z1 := hx1.size
  have z2 := hx2.size
  have z3 := hx3.size
  simp at z1
  have f1 : RdI ((W3.setCell ⟨w.heap.size + 1, 0, none⟩ (.slice C3 j3 cj3)).setCell ⟨w.heap.size + 1, 1, none⟩ (.slice D3 k3 dk3)) C3 j3 cj3 (rsettleS l r y) := ((hr3).far hfr3.1 (by simp <;> omega) _).far hfr3.1 (by simp <;> omega) _
  have f2 : RdI ((W3.setCell ⟨w.heap.size + 1, 0, none⟩ (.slice C3 j3 cj3)).setCell ⟨w.heap.size + 1, 1, none⟩ (.slice D3 k3 dk3)) D3 k3 dk3 (rsettleS l r y) := ((hs3).far hfr3.2 (by simp <;> omega) _).far hfr3.2 (by simp <;> omega) _
  have Fin := hid (And.intro f1 (And.intro f2 (And.intro xX (And.intro (Fr.mono hfr3.1 (show w.heap.size ≤ W2.heap.size by first | omega | (simp; omega))) (Fr.mono hfr3.2 (show w.heap.size ≤ W2.heap.size by first | omega | (simp; omega)))))))
  clear f1 f2 xX xE t2 hfr1 hr1 hx1 hfr2 hr2 hx2 hfr3 hr3 hx3
  go_wp2
  exact bodyPost_ret (v := .tuple #[.agg #[.slice C3 j3 cj3, .slice D3 k3 dk3], .int .i64 0]) (by simp [results, Try.results34, go_sem, k0, k1]) rfl ⟨_, _, _, _, _, _, rfl, Fin.out⟩

set_option maxRecDepth 100000 in
set_option maxHeartbeats 1000000 in
theorem rSettle_no1 (A : Option Addr) (n c : Nat) (l : List Int) (B : Option Addr) (m d : Nat) (r : List Int) (Y : Option Addr) (p cp : Nat) (y : List Int) (w : World) (hs : RdI w A n c l) (ht : RdI w B m d r) (hy : RdI w Y p cp y) (hn : n ≤ 3000) (hm : m ≤ 3000) (h1 : rvalB l r = false) :
    Calls Try.prog 34 #[.agg #[.slice A n c, .slice B m d], .slice Y p cp] w (GiveBN [] [] 1 w) := by
  have e1 : errOf (rvalB l r) = 1 := by rw [h1]; rfl
  clear h1
  go_enter Try.func34, Try.ntmps34
  go_wp2_with fail
  refine (rValidate_any _ _ _ _ _ _ _ _ _ ((hs.alloc _).alloc _) ((ht.alloc _).alloc _)).mono ?_
  rintro e w1 ⟨rfl, hx1⟩
  have q0 : w1.cell? ⟨w.heap.size, 0, none⟩ = some (.slice A n c) := hx1.cell (by go_simp)
  have q1 : w1.cell? ⟨w.heap.size, 1, none⟩ = some (.slice B m d) := hx1.cell (by go_simp)
  have hw1 := hid (Ext.trans (((Ext.refl w).alloc_right _).alloc_right _) hx1)
  have T1 := (There.new (w.alloc (.cells #[.slice A n c, .slice B m d] 29)) #[.slice none 0 0, .slice none 0 0] 29 (n := 2) (by simp)).ext hx1
  simp at T1
  replace T1 := hid T1
  clear hx1
  have hw2 := hw1
  have T2 := T1.out
  have t0 := T2.cell (o := 0) (by omega)
  have t1 := T2.cell (o := 1) (by omega)
  have u0 := T2.free (o := 0) (by omega)
  have u1 := T2.free (o := 1) (by omega)
  obtain ⟨k0, k1, Fin⟩ := pairEnd hw2.out T2 (by omega) (RdI.nil _) (RdI.nil _) (Fr.none_ _) (Fr.none_ _)
  clear T2
  go_wp2
  exact bodyPost_ret (v := .tuple #[.agg #[.slice none 0 0, .slice none 0 0], .int .i64 1]) (by simp [results, Try.results34, go_sem, k0, k1]) rfl ⟨_, _, _, _, _, _, rfl, Fin.out⟩

set_option maxRecDepth 100000 in
set_option maxHeartbeats 1000000 in
theorem rSettle_no2 (A : Option Addr) (n c : Nat) (l : List Int) (B : Option Addr) (m d : Nat) (r : List Int) (Y : Option Addr) (p cp : Nat) (y : List Int) (w : World) (hs : RdI w A n c l) (ht : RdI w B m d r) (hy : RdI w Y p cp y) (hn : n ≤ 3000) (hm : m ≤ 3000) (h1 : rvalB l r = true) (h2 : isSetS 300 y = false) :
    Calls Try.prog 34 #[.agg #[.slice A n c, .slice B m d], .slice Y p cp] w (GiveBN [] [] 1 w) := by
  have e1 : errOf (rvalB l r) = 0 := by rw [h1]; rfl
  clear h1
  go_enter Try.func34, Try.ntmps34
  go_wp2_with fail
  refine (rValidate_any _ _ _ _ _ _ _ _ _ ((hs.alloc _).alloc _) ((ht.alloc _).alloc _)).mono ?_
  rintro e w1 ⟨rfl, hx1⟩
  have q0 : w1.cell? ⟨w.heap.size, 0, none⟩ = some (.slice A n c) := hx1.cell (by go_simp)
  have q1 : w1.cell? ⟨w.heap.size, 1, none⟩ = some (.slice B m d) := hx1.cell (by go_simp)
  have hw1 := hid (Ext.trans (((Ext.refl w).alloc_right _).alloc_right _) hx1)
  have T1 := (There.new (w.alloc (.cells #[.slice A n c, .slice B m d] 29)) #[.slice none 0 0, .slice none 0 0] 29 (n := 2) (by simp)).ext hx1
  simp at T1
  replace T1 := hid T1
  clear hx1
  go_wp2_with fail
  refine (IsSet_any _ _ _ _ _ (hy.ext hw1.out)).mono ?_
  rintro e w2 ⟨rfl, hq⟩
  have hw2 := hid (hw1.out.trans hq.ext)
  have T2 := T1.out.ext hq.ext
  clear hq hw1 T1 q0 q1
  have t0 := T2.cell (o := 0) (by omega)
  have t1 := T2.cell (o := 1) (by omega)
  have u0 := T2.free (o := 0) (by omega)
  have u1 := T2.free (o := 1) (by omega)
  obtain ⟨k0, k1, Fin⟩ := pairEnd hw2.out T2 (by omega) (RdI.nil _) (RdI.nil _) (Fr.none_ _) (Fr.none_ _)
  clear T2
  go_wp2
  exact bodyPost_ret (v := .tuple #[.agg #[.slice none 0 0, .slice none 0 0], .int .i64 1]) (by simp [results, Try.results34, go_sem, k0, k1]) rfl ⟨_, _, _, _, _, _, rfl, Fin.out⟩

set_option maxRecDepth 100000 in
set_option maxHeartbeats 1000000 in
theorem Doubt_yes (A : Option Addr) (n c : Nat) (l : List Int) (B : Option Addr) (m d : Nat) (r : List Int) (w : World) (hs : RdI w A n c l) (ht : RdI w B m d r) (hn : n ≤ 3000) (hm : m ≤ 3000) (h1 : valB l r = true) :
    Calls Try.prog 35 #[.agg #[.slice A n c, .slice B m d]] w (GiveIN (joinS andNot r l) 0 w) := by
  have e1 : errOf (valB l r) = 0 := by rw [h1]; rfl
  have hent := enter50
  clear h1
  go_enter Try.func35, Try.ntmps35
  go_wp2_with fail
  refine (Validate_any _ _ _ _ _ _ _ _ _ (hs.alloc _) (ht.alloc _) hn hm).mono ?_
  rintro e w1 ⟨rfl, hx1⟩
  have q0 : w1.cell? ⟨w.heap.size, 0, none⟩ = some (.slice A n c) := hx1.cell (by go_simp)
  have q1 : w1.cell? ⟨w.heap.size, 1, none⟩ = some (.slice B m d) := hx1.cell (by go_simp)
  have hw1 := hid (Ext.trans ((Ext.refl w).alloc_right _) hx1)
  clear hx1
  go_wp2_with fail
  refine (joined_any 50 andNot hent inFirst50 _ _ _ _ _ _ _ _ _ (ht.ext hw1.out) (hs.ext hw1.out) (by omega)).mono ?_
  rintro e w2 ⟨C, j, cj, rfl, hj, hx2, hf⟩
  have hw2 := hid (hw1.out.trans hx2)
  have hf2 := hid (hf.mono hw1.out.size)
  clear hx2 hf hw1
  go_wp2
  go_ret2
  exact ⟨_, _, _, rfl, hj, hw2.out, hf2.out⟩
set_option maxRecDepth 100000 in
set_option maxHeartbeats 1000000 in
theorem Doubt_no (A : Option Addr) (n c : Nat) (l : List Int) (B : Option Addr) (m d : Nat) (r : List Int) (w : World) (hs : RdI w A n c l) (ht : RdI w B m d r) (hn : n ≤ 3000) (hm : m ≤ 3000) (h1 : valB l r = false) :
    Calls Try.prog 35 #[.agg #[.slice A n c, .slice B m d]] w (GiveIN [] 1 w) := by
  have e1 : errOf (valB l r) = 1 := by rw [h1]; rfl
  clear h1
  go_enter Try.func35, Try.ntmps35
  go_wp2_with fail
  refine (Validate_any _ _ _ _ _ _ _ _ _ (hs.alloc _) (ht.alloc _) hn hm).mono ?_
  rintro e w1 ⟨rfl, hx1⟩
  have q0 : w1.cell? ⟨w.heap.size, 0, none⟩ = some (.slice A n c) := hx1.cell (by go_simp)
  have q1 : w1.cell? ⟨w.heap.size, 1, none⟩ = some (.slice B m d) := hx1.cell (by go_simp)
  have hw1 := hid (Ext.trans ((Ext.refl w).alloc_right _) hx1)
  clear hx1
  go_wp2
  go_ret2
  exact ⟨_, _, _, rfl, RdI.nil _, hw1.out, Fr.none_ _⟩

set_option maxRecDepth 100000 in
set_option maxHeartbeats 1000000 in
theorem rDoubt_yes (A : Option Addr) (n c : Nat) (l : List Int) (B : Option Addr) (m d : Nat) (r : List Int) (w : World) (hs : RdI w A n c l) (ht : RdI w B m d r) (hn : n ≤ 3000) (hm : m ≤ 3000) (h1 : rvalB l r = true) :
    Calls Try.prog 36 #[.agg #[.slice A n c, .slice B m d]] w (GiveIN (lessS r l) 0 w) := by
  have e1 : errOf (rvalB l r) = 0 := by rw [h1]; rfl
  have hent := enter50
  clear h1
  go_enter Try.func36, Try.ntmps36
  go_wp2_with fail
  refine (rValidate_any _ _ _ _ _ _ _ _ _ (hs.alloc _) (ht.alloc _)).mono ?_
  rintro e w1 ⟨rfl, hx1⟩
  have q0 : w1.cell? ⟨w.heap.size, 0, none⟩ = some (.slice A n c) := hx1.cell (by go_simp)
  have q1 : w1.cell? ⟨w.heap.size, 1, none⟩ = some (.slice B m d) := hx1.cell (by go_simp)
  have hw1 := hid (Ext.trans ((Ext.refl w).alloc_right _) hx1)
  clear hx1
  go_wp2_with fail
  refine (less_any _ _ _ _ _ _ _ _ _ (ht.ext hw1.out) (hs.ext hw1.out) (by omega)).mono ?_
  rintro e w2 ⟨C, j, cj, rfl, hj, hx2, hf⟩
  have hw2 := hid (hw1.out.trans hx2)
  have hf2 := hid (hf.mono hw1.out.size)
  clear hx2 hf hw1
  go_wp2
  go_ret2
  exact ⟨_, _, _, rfl, hj, hw2.out, hf2.out⟩
set_option maxRecDepth 100000 in
set_option maxHeartbeats 1000000 in
theorem rDoubt_no (A : Option Addr) (n c : Nat) (l : List Int) (B : Option Addr) (m d : Nat) (r : List Int) (w : World) (hs : RdI w A n c l) (ht : RdI w B m d r) (hn : n ≤ 3000) (hm : m ≤ 3000) (h1 : rvalB l r = false) :
    Calls Try.prog 36 #[.agg #[.slice A n c, .slice B m d]] w (GiveIN [] 1 w) := by
  have e1 : errOf (rvalB l r) = 1 := by rw [h1]; rfl
  clear h1
  go_enter Try.func36, Try.ntmps36
  go_wp2_with fail
  refine (rValidate_any _ _ _ _ _ _ _ _ _ (hs.alloc _) (ht.alloc _)).mono ?_
  rintro e w1 ⟨rfl, hx1⟩
  have q0 : w1.cell? ⟨w.heap.size, 0, none⟩ = some (.slice A n c) := hx1.cell (by go_simp)
  have q1 : w1.cell? ⟨w.heap.size, 1, none⟩ = some (.slice B m d) := hx1.cell (by go_simp)
  have hw1 := hid (Ext.trans ((Ext.refl w).alloc_right _) hx1)
  clear hx1
  go_wp2
  go_ret2
  exact ⟨_, _, _, rfl, RdI.nil _, hw1.out, Fr.none_ _⟩

def trueB (l r y : List Int) : Bool := decide ((joinS andNot l y).length = 0) && decide ((joinS andNot y r).length = 0)

set_option maxRecDepth 100000 in
set_option maxHeartbeats 1000000 in
theorem True_yes (A : Option Addr) (n c : Nat) (l : List Int) (B : Option Addr) (m d : Nat) (r : List Int) (Y : Option Addr) (p cp : Nat) (y : List Int) (w : World) (hs : RdI w A n c l) (ht : RdI w B m d r) (hy : RdI w Y p cp y) (hn : n ≤ 3000) (hm : m ≤ 3000) (hp : p ≤ 3000) (h1 : valB l r = true) (h2 : isSetS 300 y = true) :
    Calls Try.prog 30 #[.agg #[.slice A n c, .slice B m d], .slice Y p cp] w (GiveBl (trueB l r y) 0 w) := by
  have e1 : errOf (valB l r) = 0 := by rw [h1]; rfl
  have hent := enter50
  clear h1
  go_enter Try.func30, Try.ntmps30
  go_wp2_with fail
  refine (Validate_any _ _ _ _ _ _ _ _ _ (hs.alloc _) (ht.alloc _) hn hm).mono ?_
  rintro e w1 ⟨rfl, hx1⟩
  have q0 : w1.cell? ⟨w.heap.size, 0, none⟩ = some (.slice A n c) := hx1.cell (by go_simp)
  have q1 : w1.cell? ⟨w.heap.size, 1, none⟩ = some (.slice B m d) := hx1.cell (by go_simp)
  have hw1 := hid (Ext.trans ((Ext.refl w).alloc_right _) hx1)
  clear hx1
  go_wp2_with fail
  refine (isSet_any _ _ _ _ _ _ (hy.ext hw1.out)).mono ?_
  rintro e w2 ⟨rfl, hq⟩
  replace q0 := hq.ext.cell q0
  replace q1 := hq.ext.cell q1
  have hw2 := hw1.out.trans hq.ext
  clear hq hw1
  go_wp2_with fail
  refine (joined_any 50 andNot hent inFirst50 _ _ _ _ _ _ _ _ _ (hs.ext hw2) (hy.ext hw2) (by omega)).mono ?_
  rintro e w3 ⟨C, j, cj, rfl, hj, hx3, -⟩
  have Hj := hid hj.len
  have hjm := hj.max
  have hw3 := hw2.trans hx3
  replace q0 := hx3.cell q0
  replace q1 := hx3.cell q1
  clear hx3 hw2 hj h2 e1
  by_cases hj0 : j = 0
  · have g1 : ((j : Int) == 0) = true := by simp; omega
    go_wp2_with fail
    refine (joined_any 50 andNot hent inFirst50 _ _ _ _ _ _ _ _ _ (hy.ext hw3) (ht.ext hw3) (by omega)).mono ?_
    rintro e w4 ⟨D, k, ck, rfl, hk, hx4, -⟩
    have hkl := hk.len
    have hkm := hk.max
    have hw4 := hid (hw3.trans hx4)
    by_cases hk0 : k = 0
    · have g2 : ((k : Int) == 0) = true := by simp; omega
      have Fin : Hid (trueB l r y = true) := by simp [Hid, trueB, Hj.out, hkl, hj0, hk0]
      clear hkl hk hx4 hw3
      go_wp2
      go_ret2
      exact ⟨ret_bn Fin.out.symm, hw4.out⟩
    · have g2 : ((k : Int) == 0) = false := by simp; omega
      have Fin : Hid (trueB l r y = false) := by simp [Hid, trueB, hkl, hk0]
      clear hkl hk hx4 hw3
      go_wp2
      go_ret2
      exact ⟨ret_bn Fin.out.symm, hw4.out⟩
  · have g1 : ((j : Int) == 0) = false := by simp; omega
    have Fin : Hid (trueB l r y = false) := by simp [Hid, trueB, Hj.out, hj0]
    go_wp2
    go_ret2
    exact ⟨ret_bn Fin.out.symm, hw3⟩
set_option maxRecDepth 100000 in
set_option maxHeartbeats 1000000 in
theorem True_no1 (A : Option Addr) (n c : Nat) (l : List Int) (B : Option Addr) (m d : Nat) (r : List Int) (Y : Option Addr) (p cp : Nat) (y : List Int) (w : World) (hs : RdI w A n c l) (ht : RdI w B m d r) (hy : RdI w Y p cp y) (hn : n ≤ 3000) (hm : m ≤ 3000) (h1 : valB l r = false) :
    Calls Try.prog 30 #[.agg #[.slice A n c, .slice B m d], .slice Y p cp] w (GiveBl false 1 w) := by
  have e1 : errOf (valB l r) = 1 := by rw [h1]; rfl
  clear h1
  go_enter Try.func30, Try.ntmps30
  go_wp2_with fail
  refine (Validate_any _ _ _ _ _ _ _ _ _ (hs.alloc _) (ht.alloc _) hn hm).mono ?_
  rintro e w1 ⟨rfl, hx1⟩
  have q0 : w1.cell? ⟨w.heap.size, 0, none⟩ = some (.slice A n c) := hx1.cell (by go_simp)
  have q1 : w1.cell? ⟨w.heap.size, 1, none⟩ = some (.slice B m d) := hx1.cell (by go_simp)
  have hw1 := hid (Ext.trans ((Ext.refl w).alloc_right _) hx1)
  clear hx1
  go_wp2
  go_ret2
  exact ⟨rfl, hw1.out⟩
set_option maxRecDepth 100000 in
set_option maxHeartbeats 1000000 in
theorem True_no2 (A : Option Addr) (n c : Nat) (l : List Int) (B : Option Addr) (m d : Nat) (r : List Int) (Y : Option Addr) (p cp : Nat) (y : List Int) (w : World) (hs : RdI w A n c l) (ht : RdI w B m d r) (hy : RdI w Y p cp y) (hn : n ≤ 3000) (hm : m ≤ 3000) (h1 : valB l r = true) (h2 : isSetS 300 y = false) :
    Calls Try.prog 30 #[.agg #[.slice A n c, .slice B m d], .slice Y p cp] w (GiveBl false 1 w) := by
  have e1 : errOf (valB l r) = 0 := by rw [h1]; rfl
  clear h1
  go_enter Try.func30, Try.ntmps30
  go_wp2_with fail
  refine (Validate_any _ _ _ _ _ _ _ _ _ (hs.alloc _) (ht.alloc _) hn hm).mono ?_
  rintro e w1 ⟨rfl, hx1⟩
  have q0 : w1.cell? ⟨w.heap.size, 0, none⟩ = some (.slice A n c) := hx1.cell (by go_simp)
  have q1 : w1.cell? ⟨w.heap.size, 1, none⟩ = some (.slice B m d) := hx1.cell (by go_simp)
  have hw1 := hid (Ext.trans ((Ext.refl w).alloc_right _) hx1)
  clear hx1
  go_wp2_with fail
  refine (isSet_any _ _ _ _ _ _ (hy.ext hw1.out)).mono ?_
  rintro e w2 ⟨rfl, hq⟩
  have hw2 := hid (hw1.out.trans hq.ext)
  clear hq hw1 q0 q1
  go_wp2
  go_ret2
  exact ⟨rfl, hw2.out⟩

def rtrueB (l r y : List Int) : Bool := decide ((lessS l y).length = 0) && decide ((lessS y r).length = 0)

set_option maxRecDepth 100000 in
set_option maxHeartbeats 1000000 in
theorem rTrue_yes (A : Option Addr) (n c : Nat) (l : List Int) (B : Option Addr) (m d : Nat) (r : List Int) (Y : Option Addr) (p cp : Nat) (y : List Int) (w : World) (hs : RdI w A n c l) (ht : RdI w B m d r) (hy : RdI w Y p cp y) (hn : n ≤ 3000) (hm : m ≤ 3000) (hp : p ≤ 3000) (h1 : rvalB l r = true) (h2 : isSetS 300 y = true) :
    Calls Try.prog 31 #[.agg #[.slice A n c, .slice B m d], .slice Y p cp] w (GiveBl (rtrueB l r y) 0 w) := by
  have e1 : errOf (rvalB l r) = 0 := by rw [h1]; rfl
  have hent := enter50
  clear h1
  go_enter Try.func31, Try.ntmps31
  go_wp2_with fail
  refine (rValidate_any _ _ _ _ _ _ _ _ _ (hs.alloc _) (ht.alloc _)).mono ?_
  rintro e w1 ⟨rfl, hx1⟩
  have q0 : w1.cell? ⟨w.heap.size, 0, none⟩ = some (.slice A n c) := hx1.cell (by go_simp)
  have q1 : w1.cell? ⟨w.heap.size, 1, none⟩ = some (.slice B m d) := hx1.cell (by go_simp)
  have hw1 := hid (Ext.trans ((Ext.refl w).alloc_right _) hx1)
  clear hx1
  go_wp2_with fail
  refine (IsSet_any _ _ _ _ _ (hy.ext hw1.out)).mono ?_
  rintro e w2 ⟨rfl, hq⟩
  replace q0 := hq.ext.cell q0
  replace q1 := hq.ext.cell q1
  have hw2 := hw1.out.trans hq.ext
  clear hq hw1
  go_wp2_with fail
  refine (less_any _ _ _ _ _ _ _ _ _ (hs.ext hw2) (hy.ext hw2) (by omega)).mono ?_
  rintro e w3 ⟨C, j, cj, rfl, hj, hx3, -⟩
  have Hj := hid hj.len
  have hjm := hj.max
  have hw3 := hw2.trans hx3
  replace q0 := hx3.cell q0
  replace q1 := hx3.cell q1
  clear hx3 hw2 hj h2 e1
  by_cases hj0 : j = 0
  · have g1 : ((j : Int) == 0) = true := by simp; omega
    go_wp2_with fail
    refine (less_any _ _ _ _ _ _ _ _ _ (hy.ext hw3) (ht.ext hw3) (by omega)).mono ?_
    rintro e w4 ⟨D, k, ck, rfl, hk, hx4, -⟩
    have hkl := hk.len
    have hkm := hk.max
    have hw4 := hid (hw3.trans hx4)
    by_cases hk0 : k = 0
    · have g2 : ((k : Int) == 0) = true := by simp; omega
      have Fin : Hid (rtrueB l r y = true) := by simp [Hid, rtrueB, Hj.out, hkl, hj0, hk0]
      clear hkl hk hx4 hw3
      go_wp2
      go_ret2
      exact ⟨ret_bn Fin.out.symm, hw4.out⟩
    · have g2 : ((k : Int) == 0) = false := by simp; omega
      have Fin : Hid (rtrueB l r y = false) := by simp [Hid, rtrueB, hkl, hk0]
      clear hkl hk hx4 hw3
      go_wp2
      go_ret2
      exact ⟨ret_bn Fin.out.symm, hw4.out⟩
  · have g1 : ((j : Int) == 0) = false := by simp; omega
    have Fin : Hid (rtrueB l r y = false) := by simp [Hid, rtrueB, Hj.out, hj0]
    go_wp2
    go_ret2
    exact ⟨ret_bn Fin.out.symm, hw3⟩
set_option maxRecDepth 100000 in
set_option maxHeartbeats 1000000 in
theorem rTrue_no1 (A : Option Addr) (n c : Nat) (l : List Int) (B : Option Addr) (m d : Nat) (r : List Int) (Y : Option Addr) (p cp : Nat) (y : List Int) (w : World) (hs : RdI w A n c l) (ht : RdI w B m d r) (hy : RdI w Y p cp y) (hn : n ≤ 3000) (hm : m ≤ 3000) (h1 : rvalB l r = false) :
    Calls Try.prog 31 #[.agg #[.slice A n c, .slice B m d], .slice Y p cp] w (GiveBl false 1 w) := by
  have e1 : errOf (rvalB l r) = 1 := by rw [h1]; rfl
  clear h1
  go_enter Try.func31, Try.ntmps31
  go_wp2_with fail
  refine (rValidate_any _ _ _ _ _ _ _ _ _ (hs.alloc _) (ht.alloc _)).mono ?_
  rintro e w1 ⟨rfl, hx1⟩
  have q0 : w1.cell? ⟨w.heap.size, 0, none⟩ = some (.slice A n c) := hx1.cell (by go_simp)
  have q1 : w1.cell? ⟨w.heap.size, 1, none⟩ = some (.slice B m d) := hx1.cell (by go_simp)
  have hw1 := hid (Ext.trans ((Ext.refl w).alloc_right _) hx1)
  clear hx1
  go_wp2
  go_ret2
  exact ⟨rfl, hw1.out⟩
set_option maxRecDepth 100000 in
set_option maxHeartbeats 1000000 in
theorem rTrue_no2 (A : Option Addr) (n c : Nat) (l : List Int) (B : Option Addr) (m d : Nat) (r : List Int) (Y : Option Addr) (p cp : Nat) (y : List Int) (w : World) (hs : RdI w A n c l) (ht : RdI w B m d r) (hy : RdI w Y p cp y) (hn : n ≤ 3000) (hm : m ≤ 3000) (h1 : rvalB l r = true) (h2 : isSetS 300 y = false) :
    Calls Try.prog 31 #[.agg #[.slice A n c, .slice B m d], .slice Y p cp] w (GiveBl false 1 w) := by
  have e1 : errOf (rvalB l r) = 0 := by rw [h1]; rfl
  clear h1
  go_enter Try.func31, Try.ntmps31
  go_wp2_with fail
  refine (rValidate_any _ _ _ _ _ _ _ _ _ (hs.alloc _) (ht.alloc _)).mono ?_
  rintro e w1 ⟨rfl, hx1⟩
  have q0 : w1.cell? ⟨w.heap.size, 0, none⟩ = some (.slice A n c) := hx1.cell (by go_simp)
  have q1 : w1.cell? ⟨w.heap.size, 1, none⟩ = some (.slice B m d) := hx1.cell (by go_simp)
  have hw1 := hid (Ext.trans ((Ext.refl w).alloc_right _) hx1)
  clear hx1
  go_wp2_with fail
  refine (IsSet_any _ _ _ _ _ (hy.ext hw1.out)).mono ?_
  rintro e w2 ⟨rfl, hq⟩
  have hw2 := hid (hw1.out.trans hq.ext)
  clear hq hw1 q0 q1
  go_wp2
  go_ret2
  exact ⟨rfl, hw2.out⟩
end Go.Proofs.Ytffcaoicokookaa
