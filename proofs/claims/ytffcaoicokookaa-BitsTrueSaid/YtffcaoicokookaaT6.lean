import Derived.Test.YtffcaoicokookaaT5
namespace Go.Proofs.Ytffcaoicokookaa
open Go.RowKit
theorem joinS_mem (g : Bool → Bool → Bool) (y : Int) : ∀ (k : Nat) (a b : List Int), a.length + b.length ≤ k → y ∈ joinS g a b → y ∈ a ∨ y ∈ b := by
  have aux : ∀ (c : Bool) (x : Int) (s : List Int), y ∈ (if c then [x] else []) ++ s → y = x ∨ y ∈ s := by
    intro c x s h; cases c <;> simp at h
    · exact Or.inr h
    · exact h
  intro k
  induction k with
  | zero =>
    intro a b h
    have ha : a = [] := List.eq_nil_of_length_eq_zero (by omega)
    have hb : b = [] := List.eq_nil_of_length_eq_zero (by omega)
    subst ha hb
    simp [joinS]
  | succ k ih =>
    intro a b h
    match a, b with
    | [], [] => simp [joinS]
    | x :: a, [] =>
      intro hy
      rw [joinS] at hy
      rcases aux _ _ _ hy with rfl | hy
      · simp
      · rcases ih a [] (by simp at h ⊢; omega) hy with h1 | h1 <;> simp [h1] at *
    | [], x :: b =>
      intro hy
      rw [joinS] at hy
      rcases aux _ _ _ hy with rfl | hy
      · simp
      · rcases ih [] b (by simp at h ⊢; omega) hy with h1 | h1 <;> simp [h1] at *
    | x :: a, z :: b =>
      intro hy
      rw [joinS] at hy
      split at hy
      · rcases aux _ _ _ hy with rfl | hy
        · simp
        · rcases ih a (z :: b) (by simp at h ⊢; omega) hy with h1 | h1
          · simp [h1]
          · exact Or.inr h1
      · split at hy
        · rcases aux _ _ _ hy with rfl | hy
          · simp
          · rcases ih (x :: a) b (by simp at h ⊢; omega) hy with h1 | h1
            · exact Or.inl h1
            · simp [h1]
        · rcases aux _ _ _ hy with rfl | hy
          · simp
          · rcases ih a b (by simp at h ⊢; omega) hy with h1 | h1 <;> simp [h1]
theorem isSetS_mem {N : Int} {l : List Int} (h : isSetS N l = true) {y : Int} (hy : y ∈ l) : 1 ≤ y ∧ y ≤ N := by
  obtain ⟨k, hk, rfl⟩ := mem_nth hy
  have := isSetS_at h hk
  exact ⟨this.1, this.2.1⟩

set_option maxRecDepth 100000 in
set_option maxHeartbeats 400000 in
theorem Shift_no (A : Option Addr) (n c : Nat) (l : List Int) (B : Option Addr) (m d : Nat) (r : List Int) (w : World) (hs : RdI w A n c l) (ht : RdI w B m d r) (h : isSetS 300 l = false ∨ isSetS 300 r = false) :
    Calls Try.prog 13 #[.slice A n c, .slice B m d] w (GiveIN [] 1 w) := by
  by_cases h1 : isSetS 300 l = true
  · have h2 : isSetS 300 r = false := by rcases h with h | h; simp [h] at h1; exact h
    clear h
    go_enter Try.func13, Try.ntmps13
    go_wp2_with fail
    refine (isSet_any _ _ _ _ _ _ hs).mono ?_
    rintro e w' ⟨rfl, k1, rfl⟩
    go_wp2_with fail
    refine (isSet_any _ _ _ _ _ _ (ht.drewN _)).mono ?_
    rintro e w' ⟨rfl, k2, rfl⟩
    go_wp2
    go_ret2
    exact ⟨none, 0, 0, rfl, RdI.nil _, by first | exact Ext.drewN _ _ | exact (Ext.drewN _ _).drewN_right _, Fr.none_ _⟩
  · replace h1 : isSetS 300 l = false := by simpa using h1
    clear h
    go_enter Try.func13, Try.ntmps13
    go_wp2_with fail
    refine (isSet_any _ _ _ _ _ _ hs).mono ?_
    rintro e w' ⟨rfl, k1, rfl⟩
    go_wp2
    go_ret2
    exact ⟨none, 0, 0, rfl, RdI.nil _, by first | exact Ext.drewN _ _ | exact (Ext.drewN _ _).drewN_right _, Fr.none_ _⟩

set_option maxRecDepth 100000 in
set_option maxHeartbeats 1000000 in
theorem Shift_yes (A : Option Addr) (n c : Nat) (l : List Int) (B : Option Addr) (m d : Nat) (r : List Int) (w : World) (hs : RdI w A n c l) (ht : RdI w B m d r) (h1 : isSetS 300 l = true) (h2 : isSetS 300 r = true) (hn : n ≤ 3000) (hm : m ≤ 3000) :
    Calls Try.prog 13 #[.slice A n c, .slice B m d] w (GiveIN (shiftS l r) 0 w) := by
  obtain ⟨i0, hi, hz0, hz1, hz2⟩ := info_parts Try.info3
  have hasc := hid (asc_of h2)
  have hJl := joinS_len andNot (n + m) l r (by have := hs.len; have := ht.len; omega)
  have hJm : Hid (∀ y, y ∈ joinS andNot l r → 1 ≤ y ∧ y ≤ 300) := by
    intro y hy
    rcases joinS_mem andNot y (l.length + r.length) l r (Nat.le_refl _) hy with h | h
    · exact isSetS_mem h1 h
    · exact isSetS_mem h2 h
  have hll := hs.len
  have hrl := ht.len
  rw [hll, hrl] at hJl
  clear hll hrl
  have hent := enter50
  go_enter Try.func13, Try.ntmps13
  go_wp2_with fail
  refine (isSet_any _ _ _ _ _ _ hs).mono ?_
  rintro e w' ⟨rfl, k1, rfl⟩
  go_wp2_with fail
  refine (isSet_any _ _ _ _ _ _ (ht.drewN _)).mono ?_
  rintro e w' ⟨rfl, k2, rfl⟩
  go_wp2_with fail
  refine (mover_any _ _ _ _).mono ?_
  rintro e w' ⟨rfl, rfl⟩
  go_wp2_with fail
  refine (joined_any 50 andNot hent inFirst50 _ _ _ _ _ _ _ _ _ (RdI.alloc (hs.drewN _) _) (RdI.alloc (ht.drewN _) _) (by omega)).mono ?_
  rintro e W ⟨C, j, cj, rfl, hj, hx, -⟩
  have hW : Ext w W := Ext.trans (by first | exact (Ext.drewN _ _).alloc_right _ | exact ((Ext.drewN _ _).drewN_right _).alloc_right _) hx
  have htW := ht.ext hW
  have hcell : W.cell? ⟨w.heap.size, 0, none⟩ = some (.slice B m d) := hx.cell (by rw [World.cell?_alloc_at _ _ _ _ (by simp)]; rfl)
  have hbl : w.heap.size < W.heap.size := World.block_lt_of_cell? W _ hcell
  have hjl := hj.len
  have hj3 : j ≤ 6000 := by rw [hjl] at hJl; omega
  have Hjl := hid hjl
  clear hjl hJl hx
  generalize hJJ : joinS andNot l r = J at *
  have HJJ := hid hJJ
  clear hJJ h1 h2 hs ht
  go_wp2_with fail
  go_loopw [7, 24] (fun v i wr => ∃ k : Nat, k ≤ j ∧ i = .int .i64 k ∧ wr.ownsRow W.heap.size 3 1 v k (ints (mapS (movedS r) J k)) ∧ Below W.heap.size W wr) (fun _ i _ => j - (intOf i).toNat)
  case atStart => exact ⟨0, by omega, rfl, World.ownsRow_nil _ _ _ _, Below.refl _ _⟩
  case round =>
    obtain ⟨k, hk, rfl, hown, hb⟩ := hrel
    have hbs := hb.size
    by_cases hlt : k < j
    · have hj1 := hj.ext (w' := wr) hb
      have ht1 := htW.ext (w' := wr) hb
      have hc1 : wr.cell? ⟨w.heap.size, 0, none⟩ = some (.slice B m d) := by rw [hb.cell (p := ⟨w.heap.size, 0, none⟩) hbl]; exact hcell
      obtain ⟨ad, rfl, hc⟩ := hj1.at_ hlt
      have hkl : k < J.length := by rw [Hjl.out]; exact hlt
      have hq := hid (mapS_succ (movedS r) J k hkl)
      have hbd := hJm.out (nth J k) (by rw [nth_lt hkl]; exact List.getElem_mem _)
      clear hkl
      have hcl := cntS_le r (nth J k)
      go_wp2_with (first | (go_at_call 70; refine (mover1_any _ _ _ _ _ _ _ ht1 hasc.out (by omega) (by omega) (by omega) hc1).mono ?_; rintro e w' ⟨rfl, rfl⟩) | (at_builtin; refine wpList_pushI _ rfl _ _ 22 rfl W.heap.size 3 i0 Try.underlying22 hi hz0 hz1 hz2 _ _ _ rfl hown (nth J k - cntS r (nth J k)) rfl (by omega) (by omega) ?_))
      intro g cap w1 hown1 hg1 _
      go_wp2
      go_roundw
      case rel => exact ⟨k + 1, by omega, by go_num, by rw [hq.out]; exact hown1, below_push hb hown hg1 hbs⟩
      case measure => simp [intOf]; omega
    · go_wp2
      obtain ⟨A1, c1, rfl, hcc⟩ := own_form hown
      go_ret2
      obtain rfl : k = j := by omega
      exact ⟨A1, _, c1, rfl, by unfold shiftS; rw [HJJ.out, Hjl.out]; exact RdI.of_own hown, hW.trans hb, (own_fresh hown).mono hW.size⟩
end Go.Proofs.Ytffcaoicokookaa
